/- Part 20: an interpreter over plain data for this code, with the proof that it says what the model does, and the contracts of the functions. No condition. -/
import Derived.Test.YtfkmodcjddfeiaaDoorDi19
set_option linter.unusedVariables false
set_option linter.unusedSimpArgs false
namespace Go.Di
theorem rangeB_fn : FnOk Proofs.Tryd.prog (mk Proofs.Tryd.prog (lookN types) glob 8) 61 (body Proofs.Tryd.f61) [.cell 4 51] := ⟨Proofs.Tryd.f61, by kernel_rfl, by kernel_rfl, by kernel_rfl, by kernel_rfl, by kernel_rfl⟩
theorem point_fn : FnOk Proofs.Tryd.prog (mk Proofs.Tryd.prog (lookN types) glob 6) 49 (body Proofs.Tryd.f49) [.cell 2 51] := ⟨Proofs.Tryd.f49, by kernel_rfl, by kernel_rfl, by kernel_rfl, by kernel_rfl, by kernel_rfl⟩
theorem sectionB_fn : FnOk Proofs.Tryd.prog (mk Proofs.Tryd.prog (lookN types) glob 8) 67 (body Proofs.Tryd.f67) [.cell 4 76] := ⟨Proofs.Tryd.f67, by kernel_rfl, by kernel_rfl, by kernel_rfl, by kernel_rfl, by kernel_rfl⟩
theorem surveyB_fn : FnOk Proofs.Tryd.prog (mk Proofs.Tryd.prog (lookN types) glob 14) 48 (body Proofs.Tryd.f48) [.cell 8 34] := ⟨Proofs.Tryd.f48, by kernel_rfl, by kernel_rfl, by kernel_rfl, by kernel_rfl, by kernel_rfl⟩
theorem inside_fn : FnOk Proofs.Tryd.prog (mk Proofs.Tryd.prog (lookN types) glob 15) 50 (body Proofs.Tryd.f50) [.tmp 6] := ⟨Proofs.Tryd.f50, by kernel_rfl, by kernel_rfl, by kernel_rfl, by kernel_rfl, by kernel_rfl⟩
theorem validB_fn : FnOk Proofs.Tryd.prog (mk Proofs.Tryd.prog (lookN types) glob 24) 117 (body Proofs.Tryd.f117) [.tmp 6] := ⟨Proofs.Tryd.f117, by kernel_rfl, by kernel_rfl, by kernel_rfl, by kernel_rfl, by kernel_rfl⟩
theorem containsB_fn : FnOk Proofs.Tryd.prog (mk Proofs.Tryd.prog (lookN types) glob 11) 45 (body Proofs.Tryd.f45) [.tmp 4] := ⟨Proofs.Tryd.f45, by kernel_rfl, by kernel_rfl, by kernel_rfl, by kernel_rfl, by kernel_rfl⟩
theorem covers_fn : FnOk Proofs.Tryd.prog (mk Proofs.Tryd.prog (lookN types) glob 17) 51 (body Proofs.Tryd.f51) [.tmp 4] := ⟨Proofs.Tryd.f51, by kernel_rfl, by kernel_rfl, by kernel_rfl, by kernel_rfl, by kernel_rfl⟩
theorem bookB_fn : FnOk Proofs.Tryd.prog (mk Proofs.Tryd.prog (lookN types) glob 15) 63 (body Proofs.Tryd.f63) [.cell 4 26] := ⟨Proofs.Tryd.f63, by kernel_rfl, by kernel_rfl, by kernel_rfl, by kernel_rfl, by kernel_rfl⟩
theorem own1_fn : FnOk Proofs.Tryd.prog (mk Proofs.Tryd.prog (lookN types) glob 3) 62 (body Proofs.Tryd.f62) [.cell 0 26] := ⟨Proofs.Tryd.f62, by kernel_rfl, by kernel_rfl, by kernel_rfl, by kernel_rfl, by kernel_rfl⟩
theorem torn1_fn : FnOk Proofs.Tryd.prog (mk Proofs.Tryd.prog (lookN types) glob 6) 65 (body Proofs.Tryd.f65) [.cell 0 26] := ⟨Proofs.Tryd.f65, by kernel_rfl, by kernel_rfl, by kernel_rfl, by kernel_rfl, by kernel_rfl⟩
theorem surveyed1_fn : FnOk Proofs.Tryd.prog (mk Proofs.Tryd.prog (lookN types) glob 5) 66 (body Proofs.Tryd.f66) [.cell 0 26] := ⟨Proofs.Tryd.f66, by kernel_rfl, by kernel_rfl, by kernel_rfl, by kernel_rfl, by kernel_rfl⟩
theorem straight1_fn : FnOk Proofs.Tryd.prog (mk Proofs.Tryd.prog (lookN types) glob 2) 110 (body Proofs.Tryd.f110) [.cell 0 26] := ⟨Proofs.Tryd.f110, by kernel_rfl, by kernel_rfl, by kernel_rfl, by kernel_rfl, by kernel_rfl⟩
theorem alike_fn : FnOk Proofs.Tryd.prog (mk Proofs.Tryd.prog (lookN types) glob 26) 55 (body Proofs.Tryd.f55) [.tmp 4] := ⟨Proofs.Tryd.f55, by kernel_rfl, by kernel_rfl, by kernel_rfl, by kernel_rfl, by kernel_rfl⟩
theorem modB_fn : FnOk Proofs.Tryd.prog (mk Proofs.Tryd.prog (lookN types) glob 17) 39 (body Proofs.Tryd.f39) [.tmp 4] := ⟨Proofs.Tryd.f39, by kernel_rfl, by kernel_rfl, by kernel_rfl, by kernel_rfl, by kernel_rfl⟩
theorem atB_fn : FnOk Proofs.Tryd.prog (mk Proofs.Tryd.prog (lookN types) glob 19) 46 (body Proofs.Tryd.f46) [.tmp 4] := ⟨Proofs.Tryd.f46, by kernel_rfl, by kernel_rfl, by kernel_rfl, by kernel_rfl, by kernel_rfl⟩
theorem climbs_fn : FnOk Proofs.Tryd.prog (mk Proofs.Tryd.prog (lookN types) glob 36) 52 (body Proofs.Tryd.f52) [.tmp 4] := ⟨Proofs.Tryd.f52, by kernel_rfl, by kernel_rfl, by kernel_rfl, by kernel_rfl, by kernel_rfl⟩
theorem forged_fn : FnOk Proofs.Tryd.prog (mk Proofs.Tryd.prog (lookN types) glob 142) 30 (body Proofs.Tryd.f30) [.tmp 0] := ⟨Proofs.Tryd.f30, by kernel_rfl, by kernel_rfl, by kernel_rfl, by kernel_rfl, by kernel_rfl⟩
def alike_S0 (xs ys : List Int) (i : Nat) : List (Key × Val) :=
  [(.tmp 0, .d (D.sl false E.int xs)),
   (.tmp 1, .d (D.sl false E.int ys)),
   (.tmp 5, .d (.int .i64 i))]
def alike_K0 : List Key := [.tmp 0, .tmp 1, .tmp 5]
def atB_S0 (xs : List Int) (v : Int) (i : Nat) : List (Key × Val) :=
  [(.tmp 0, .d (D.sl false E.int xs)),
   (.tmp 1, .d (D.int .i64 v)),
   (.tmp 5, .d (.int .i64 i))]
def atB_K0 : List Key := [.tmp 0, .tmp 1, .tmp 5]
def climbs_S0 (xs : List Int) (m : Int) (i : Nat) : List (Key × Val) :=
  [(.tmp 0, .d (D.sl false E.int xs)),
   (.tmp 1, .d (D.int .i64 m)),
   (.tmp 5, .d (.int .i64 i))]
def climbs_K0 : List Key := [.tmp 0, .tmp 1, .tmp 5]
theorem alike_0_on (xs ys : List Int) (i : Nat) :
    runK (mk Proofs.Tryd.prog (lookN types) glob 26) [(14, true), (25, false)] [] [] (Code.at [1, 1, 0, 1, 0, 0] (body Proofs.Tryd.f55)) (alike_S0 xs ys i) alike_K0 =
      some ([decide ((Nat.cast : Nat → Int) i < (Nat.cast : Nat → Int) (List.length xs)) = true, (0 : Int) ≤ (Nat.cast : Nat → Int) i ∧ (Nat.cast : Nat → Int) i < (Nat.cast : Nat → Int) (List.length xs), 0 + 1 ≤ 1, (0 : Int) ≤ (Nat.cast : Nat → Int) i ∧ (Nat.cast : Nat → Int) i < (Nat.cast : Nat → Int) (List.length ys), 0 + 1 ≤ 1, (List.getD xs (Int.toNat ((Nat.cast : Nat → Int) i)) (E.z E.int) != List.getD ys (Int.toNat ((Nat.cast : Nat → Int) i)) (E.z E.int)) = false, inI64 ((Nat.cast : Nat → Int) i + (1 : Int))], Ex.normal, [(.tmp 0, .d (D.sl false E.int xs)), (.tmp 1, .d (D.sl false E.int ys)), (.tmp 5, .d (D.int .i64 ((Nat.cast : Nat → Int) i + (1 : Int))))]) := by kernel_rfl
theorem alike_0_diff (xs ys : List Int) (i : Nat) :
    runK (mk Proofs.Tryd.prog (lookN types) glob 26) [(14, true), (25, true)] [] [] (Code.at [1, 1, 0, 1, 0, 0] (body Proofs.Tryd.f55)) (alike_S0 xs ys i) [.tmp 0, .tmp 1, .tmp 5, .tmp 4] =
      some ([decide ((Nat.cast : Nat → Int) i < (Nat.cast : Nat → Int) (List.length xs)) = true, (0 : Int) ≤ (Nat.cast : Nat → Int) i ∧ (Nat.cast : Nat → Int) i < (Nat.cast : Nat → Int) (List.length xs), 0 + 1 ≤ 1, (0 : Int) ≤ (Nat.cast : Nat → Int) i ∧ (Nat.cast : Nat → Int) i < (Nat.cast : Nat → Int) (List.length ys), 0 + 1 ≤ 1, (List.getD xs (Int.toNat ((Nat.cast : Nat → Int) i)) (E.z E.int) != List.getD ys (Int.toNat ((Nat.cast : Nat → Int) i)) (E.z E.int)) = true], Ex.ret, [(.tmp 0, .d (D.sl false E.int xs)), (.tmp 1, .d (D.sl false E.int ys)), (.tmp 5, .d (D.int .i64 ((Nat.cast : Nat → Int) i))), (.tmp 4, .d (D.bool false))]) := by kernel_rfl
theorem alike_0_end (xs ys : List Int) (i : Nat) :
    runK (mk Proofs.Tryd.prog (lookN types) glob 26) [(14, false)] [] [] (Code.at [1, 1, 0, 1, 0, 0] (body Proofs.Tryd.f55)) (alike_S0 xs ys i) alike_K0 =
      some ([decide ((Nat.cast : Nat → Int) i < (Nat.cast : Nat → Int) (List.length xs)) = false], Ex.exit 0, [(.tmp 0, .d (D.sl false E.int xs)), (.tmp 1, .d (D.sl false E.int ys)), (.tmp 5, .d (D.int .i64 ((Nat.cast : Nat → Int) i)))]) := by kernel_rfl
theorem atB_0_on (xs : List Int) (v : Int) (i : Nat) :
    runK (mk Proofs.Tryd.prog (lookN types) glob 19) [(9, true), (17, false)] [] [] (Code.at [1, 0, 1, 0, 0] (body Proofs.Tryd.f46)) (atB_S0 xs v i) atB_K0 =
      some ([decide ((Nat.cast : Nat → Int) i < (Nat.cast : Nat → Int) (List.length xs)) = true, (0 : Int) ≤ (Nat.cast : Nat → Int) i ∧ (Nat.cast : Nat → Int) i < (Nat.cast : Nat → Int) (List.length xs), 0 + 1 ≤ 1, (List.getD xs (Int.toNat ((Nat.cast : Nat → Int) i)) (E.z E.int) == v) = false, inI64 ((Nat.cast : Nat → Int) i + (1 : Int))], Ex.normal, [(.tmp 0, .d (D.sl false E.int xs)), (.tmp 1, .d (D.int .i64 v)), (.tmp 5, .d (D.int .i64 ((Nat.cast : Nat → Int) i + (1 : Int))))]) := by kernel_rfl
theorem atB_0_hit (xs : List Int) (v : Int) (i : Nat) :
    runK (mk Proofs.Tryd.prog (lookN types) glob 19) [(9, true), (17, true)] [] [] (Code.at [1, 0, 1, 0, 0] (body Proofs.Tryd.f46)) (atB_S0 xs v i) [.tmp 0, .tmp 1, .tmp 5, .tmp 4] =
      some ([decide ((Nat.cast : Nat → Int) i < (Nat.cast : Nat → Int) (List.length xs)) = true, (0 : Int) ≤ (Nat.cast : Nat → Int) i ∧ (Nat.cast : Nat → Int) i < (Nat.cast : Nat → Int) (List.length xs), 0 + 1 ≤ 1, (List.getD xs (Int.toNat ((Nat.cast : Nat → Int) i)) (E.z E.int) == v) = true], Ex.ret, [(.tmp 0, .d (D.sl false E.int xs)), (.tmp 1, .d (D.int .i64 v)), (.tmp 5, .d (D.int .i64 ((Nat.cast : Nat → Int) i))), (.tmp 4, .d (D.int .i64 ((Nat.cast : Nat → Int) i)))]) := by kernel_rfl
theorem atB_0_end (xs : List Int) (v : Int) (i : Nat) :
    runK (mk Proofs.Tryd.prog (lookN types) glob 19) [(9, false)] [] [] (Code.at [1, 0, 1, 0, 0] (body Proofs.Tryd.f46)) (atB_S0 xs v i) atB_K0 =
      some ([decide ((Nat.cast : Nat → Int) i < (Nat.cast : Nat → Int) (List.length xs)) = false], Ex.exit 0, [(.tmp 0, .d (D.sl false E.int xs)), (.tmp 1, .d (D.int .i64 v)), (.tmp 5, .d (D.int .i64 ((Nat.cast : Nat → Int) i)))]) := by kernel_rfl
theorem climbs_0_on0 (xs : List Int) (m : Int) (i : Nat) :
    runK (mk Proofs.Tryd.prog (lookN types) glob 36) [(9, true), (23, false)] [(18, .bool true)] [] (Code.at [1, 0, 1, 0, 0] (body Proofs.Tryd.f52)) (climbs_S0 xs m i) climbs_K0 =
      some ([decide ((Nat.cast : Nat → Int) i < (Nat.cast : Nat → Int) (List.length xs)) = true, (0 : Int) ≤ (Nat.cast : Nat → Int) i ∧ (Nat.cast : Nat → Int) i < (Nat.cast : Nat → Int) (List.length xs), 0 + 1 ≤ 1, inI64 (m - (1 : Int)), Contract Proofs.Tryd.prog glob 50 [D.int .i64 (List.getD xs (Int.toNat ((Nat.cast : Nat → Int) i)) (E.z E.int)), D.int .i64 (0 : Int), D.int .i64 (m - (1 : Int))] (D.bool true), decide ((Nat.cast : Nat → Int) i > (0 : Int)) = false, decide ((Nat.cast : Nat → Int) i > (0 : Int)) = false, decide ((Nat.cast : Nat → Int) i > (0 : Int)) = false, decide ((Nat.cast : Nat → Int) i > (0 : Int)) = false, decide ((Nat.cast : Nat → Int) i > (0 : Int)) = false, decide ((Nat.cast : Nat → Int) i > (0 : Int)) = false, decide ((Nat.cast : Nat → Int) i > (0 : Int)) = false, decide ((Nat.cast : Nat → Int) i > (0 : Int)) = false, decide ((Nat.cast : Nat → Int) i > (0 : Int)) = false, decide ((Nat.cast : Nat → Int) i > (0 : Int)) = false, decide ((Nat.cast : Nat → Int) i > (0 : Int)) = false, inI64 ((Nat.cast : Nat → Int) i + (1 : Int))], Ex.normal, [(.tmp 0, .d (D.sl false E.int xs)), (.tmp 1, .d (D.int .i64 m)), (.tmp 5, .d (D.int .i64 ((Nat.cast : Nat → Int) i + (1 : Int))))]) := by kernel_rfl
theorem climbs_0_on1 (xs : List Int) (m : Int) (i : Nat) :
    runK (mk Proofs.Tryd.prog (lookN types) glob 36) [(9, true), (23, true), (35, false)] [(18, .bool true)] [] (Code.at [1, 0, 1, 0, 0] (body Proofs.Tryd.f52)) (climbs_S0 xs m i) climbs_K0 =
      some ([decide ((Nat.cast : Nat → Int) i < (Nat.cast : Nat → Int) (List.length xs)) = true, (0 : Int) ≤ (Nat.cast : Nat → Int) i ∧ (Nat.cast : Nat → Int) i < (Nat.cast : Nat → Int) (List.length xs), 0 + 1 ≤ 1, inI64 (m - (1 : Int)), Contract Proofs.Tryd.prog glob 50 [D.int .i64 (List.getD xs (Int.toNat ((Nat.cast : Nat → Int) i)) (E.z E.int)), D.int .i64 (0 : Int), D.int .i64 (m - (1 : Int))] (D.bool true), decide ((Nat.cast : Nat → Int) i > (0 : Int)) = true, decide ((Nat.cast : Nat → Int) i > (0 : Int)) = true, decide ((Nat.cast : Nat → Int) i > (0 : Int)) = true, (0 : Int) ≤ (Nat.cast : Nat → Int) i ∧ (Nat.cast : Nat → Int) i < (Nat.cast : Nat → Int) (List.length xs), decide ((Nat.cast : Nat → Int) i > (0 : Int)) = true, 0 + 1 ≤ 1, decide ((Nat.cast : Nat → Int) i > (0 : Int)) = true, decide ((Nat.cast : Nat → Int) i > (0 : Int)) = true, decide ((Nat.cast : Nat → Int) i > (0 : Int)) = true, inI64 ((Nat.cast : Nat → Int) i - (1 : Int)), decide ((Nat.cast : Nat → Int) i > (0 : Int)) = true, (0 : Int) ≤ (Nat.cast : Nat → Int) i - (1 : Int) ∧ (Nat.cast : Nat → Int) i - (1 : Int) < (Nat.cast : Nat → Int) (List.length xs), decide ((Nat.cast : Nat → Int) i > (0 : Int)) = true, 0 + 1 ≤ 1, decide ((Nat.cast : Nat → Int) i > (0 : Int)) = true, decide ((Nat.cast : Nat → Int) i > (0 : Int)) = true, decide (List.getD xs (Int.toNat ((Nat.cast : Nat → Int) i)) (E.z E.int) ≤ List.getD xs (Int.toNat ((Nat.cast : Nat → Int) i - (1 : Int))) (E.z E.int)) = false, inI64 ((Nat.cast : Nat → Int) i + (1 : Int))], Ex.normal, [(.tmp 0, .d (D.sl false E.int xs)), (.tmp 1, .d (D.int .i64 m)), (.tmp 5, .d (D.int .i64 ((Nat.cast : Nat → Int) i + (1 : Int))))]) := by kernel_rfl
theorem climbs_0_out (xs : List Int) (m : Int) (i : Nat) :
    runK (mk Proofs.Tryd.prog (lookN types) glob 36) [(9, true)] [(18, .bool false)] [] (Code.at [1, 0, 1, 0, 0] (body Proofs.Tryd.f52)) (climbs_S0 xs m i) [.tmp 0, .tmp 1, .tmp 5, .tmp 4] =
      some ([decide ((Nat.cast : Nat → Int) i < (Nat.cast : Nat → Int) (List.length xs)) = true, (0 : Int) ≤ (Nat.cast : Nat → Int) i ∧ (Nat.cast : Nat → Int) i < (Nat.cast : Nat → Int) (List.length xs), 0 + 1 ≤ 1, inI64 (m - (1 : Int)), Contract Proofs.Tryd.prog glob 50 [D.int .i64 (List.getD xs (Int.toNat ((Nat.cast : Nat → Int) i)) (E.z E.int)), D.int .i64 (0 : Int), D.int .i64 (m - (1 : Int))] (D.bool false)], Ex.ret, [(.tmp 0, .d (D.sl false E.int xs)), (.tmp 1, .d (D.int .i64 m)), (.tmp 5, .d (D.int .i64 ((Nat.cast : Nat → Int) i))), (.tmp 4, .d (D.bool false))]) := by kernel_rfl
theorem climbs_0_low (xs : List Int) (m : Int) (i : Nat) :
    runK (mk Proofs.Tryd.prog (lookN types) glob 36) [(9, true), (23, true), (35, true)] [(18, .bool true)] [] (Code.at [1, 0, 1, 0, 0] (body Proofs.Tryd.f52)) (climbs_S0 xs m i) [.tmp 0, .tmp 1, .tmp 5, .tmp 4] =
      some ([decide ((Nat.cast : Nat → Int) i < (Nat.cast : Nat → Int) (List.length xs)) = true, (0 : Int) ≤ (Nat.cast : Nat → Int) i ∧ (Nat.cast : Nat → Int) i < (Nat.cast : Nat → Int) (List.length xs), 0 + 1 ≤ 1, inI64 (m - (1 : Int)), Contract Proofs.Tryd.prog glob 50 [D.int .i64 (List.getD xs (Int.toNat ((Nat.cast : Nat → Int) i)) (E.z E.int)), D.int .i64 (0 : Int), D.int .i64 (m - (1 : Int))] (D.bool true), decide ((Nat.cast : Nat → Int) i > (0 : Int)) = true, decide ((Nat.cast : Nat → Int) i > (0 : Int)) = true, decide ((Nat.cast : Nat → Int) i > (0 : Int)) = true, (0 : Int) ≤ (Nat.cast : Nat → Int) i ∧ (Nat.cast : Nat → Int) i < (Nat.cast : Nat → Int) (List.length xs), decide ((Nat.cast : Nat → Int) i > (0 : Int)) = true, 0 + 1 ≤ 1, decide ((Nat.cast : Nat → Int) i > (0 : Int)) = true, decide ((Nat.cast : Nat → Int) i > (0 : Int)) = true, decide ((Nat.cast : Nat → Int) i > (0 : Int)) = true, inI64 ((Nat.cast : Nat → Int) i - (1 : Int)), decide ((Nat.cast : Nat → Int) i > (0 : Int)) = true, (0 : Int) ≤ (Nat.cast : Nat → Int) i - (1 : Int) ∧ (Nat.cast : Nat → Int) i - (1 : Int) < (Nat.cast : Nat → Int) (List.length xs), decide ((Nat.cast : Nat → Int) i > (0 : Int)) = true, 0 + 1 ≤ 1, decide ((Nat.cast : Nat → Int) i > (0 : Int)) = true, decide ((Nat.cast : Nat → Int) i > (0 : Int)) = true, decide (List.getD xs (Int.toNat ((Nat.cast : Nat → Int) i)) (E.z E.int) ≤ List.getD xs (Int.toNat ((Nat.cast : Nat → Int) i - (1 : Int))) (E.z E.int)) = true], Ex.ret, [(.tmp 0, .d (D.sl false E.int xs)), (.tmp 1, .d (D.int .i64 m)), (.tmp 5, .d (D.int .i64 ((Nat.cast : Nat → Int) i))), (.tmp 4, .d (D.bool false))]) := by kernel_rfl
theorem climbs_0_end (xs : List Int) (m : Int) (i : Nat) :
    runK (mk Proofs.Tryd.prog (lookN types) glob 36) [(9, false)] [] [] (Code.at [1, 0, 1, 0, 0] (body Proofs.Tryd.f52)) (climbs_S0 xs m i) climbs_K0 =
      some ([decide ((Nat.cast : Nat → Int) i < (Nat.cast : Nat → Int) (List.length xs)) = false], Ex.exit 0, [(.tmp 0, .d (D.sl false E.int xs)), (.tmp 1, .d (D.int .i64 m)), (.tmp 5, .d (D.int .i64 ((Nat.cast : Nat → Int) i)))]) := by kernel_rfl
def alike_T0_diff (xs ys : List Int) (i : Nat)  : List (Key × Val) :=
  [(.tmp 0, .d (D.sl false E.int xs)), (.tmp 1, .d (D.sl false E.int ys)), (.tmp 5, .d (D.int .i64 ((Nat.cast : Nat → Int) i))), (.tmp 4, .d (D.bool false))]
def atB_T0_hit (xs : List Int) (v : Int) (i : Nat)  : List (Key × Val) :=
  [(.tmp 0, .d (D.sl false E.int xs)), (.tmp 1, .d (D.int .i64 v)), (.tmp 5, .d (D.int .i64 ((Nat.cast : Nat → Int) i))), (.tmp 4, .d (D.int .i64 ((Nat.cast : Nat → Int) i)))]
def climbs_T0_out (xs : List Int) (m : Int) (i : Nat)  : List (Key × Val) :=
  [(.tmp 0, .d (D.sl false E.int xs)), (.tmp 1, .d (D.int .i64 m)), (.tmp 5, .d (D.int .i64 ((Nat.cast : Nat → Int) i))), (.tmp 4, .d (D.bool false))]
def climbs_T0_low (xs : List Int) (m : Int) (i : Nat)  : List (Key × Val) :=
  [(.tmp 0, .d (D.sl false E.int xs)), (.tmp 1, .d (D.int .i64 m)), (.tmp 5, .d (D.int .i64 ((Nat.cast : Nat → Int) i))), (.tmp 4, .d (D.bool false))]
theorem rangeB_all (a c : Int) :
    callF (mk Proofs.Tryd.prog (lookN types) glob 8) [] [] [] (body Proofs.Tryd.f61) [.cell 4 51] [.int .i64 a, .int .i64 c] =
      some ([0 + 2 ≤ 2], D.agg [D.int .i64 a, D.int .i64 c]) := by kernel_rfl
theorem point_all (a : Int) :
    callF (mk Proofs.Tryd.prog (lookN types) glob 6) [] [(5, spD ⟨a, a⟩)] [] (body Proofs.Tryd.f49) [.cell 2 51] [.int .i64 a] =
      some ([Contract Proofs.Tryd.prog glob 61 [D.int .i64 a, D.int .i64 a] (D.agg [D.int .i64 (Span.lo (Span.mk a a)), D.int .i64 (Span.hi (Span.mk a a))]), 0 + 2 ≤ 2], D.agg [D.int .i64 (Span.lo (Span.mk a a)), D.int .i64 (Span.hi (Span.mk a a))]) := by kernel_rfl
theorem sectionB_all (s t : Span) :
    callF (mk Proofs.Tryd.prog (lookN types) glob 8) [] [] [] (body Proofs.Tryd.f67) [.cell 4 76] [spD s, spD t] =
      some ([0 + 2 ≤ 2, 0 + 2 ≤ 2, 0 + 4 ≤ 4], D.agg [D.int .i64 (Span.lo s), D.int .i64 (Span.hi s), D.int .i64 (Span.lo t), D.int .i64 (Span.hi t)]) := by kernel_rfl
theorem surveyB_all (a c d e : Int) :
    callF (mk Proofs.Tryd.prog (lookN types) glob 14) [] [] [] (body Proofs.Tryd.f48) [.cell 8 34] [.int .i64 a, .int .i64 c, .int .i64 d, .int .i64 e] =
      some ([0 + 4 ≤ 4], D.agg [D.int .i64 a, D.int .i64 c, D.int .i64 d, D.int .i64 e]) := by kernel_rfl
theorem inside_no (n lo hi : Int) :
    callF (mk Proofs.Tryd.prog (lookN types) glob 15) [(10, false)] [] [] (body Proofs.Tryd.f50) [.tmp 6] [.int .i64 n, .int .i64 lo, .int .i64 hi] =
      some ([decide (n ≥ lo) = false, decide (n ≥ lo) = false, decide (n ≥ lo) = false, decide (n ≥ lo) = false], D.bool false) := by kernel_rfl
theorem inside_yes (n lo hi : Int) :
    callF (mk Proofs.Tryd.prog (lookN types) glob 15) [(10, true)] [] [] (body Proofs.Tryd.f50) [.tmp 6] [.int .i64 n, .int .i64 lo, .int .i64 hi] =
      some ([decide (n ≥ lo) = true, decide (n ≥ lo) = true, decide (n ≥ lo) = true, decide (n ≥ lo) = true], D.bool (decide (n ≤ hi))) := by kernel_rfl
theorem validB_a (s : Span) (lo hi : Int) :
    callF (mk Proofs.Tryd.prog (lookN types) glob 24) [(11, false)] [] [] (body Proofs.Tryd.f117) [.tmp 6] [spD s, .int .i64 lo, .int .i64 hi] =
      some ([0 + 0 + 1 ≤ 2, decide (Span.lo s ≥ lo) = false, decide (Span.lo s ≥ lo) = false, decide (Span.lo s ≥ lo) = false, decide (Span.lo s ≥ lo) = false, decide (Span.lo s ≥ lo) = false, decide (Span.lo s ≥ lo) = false], D.bool false) := by kernel_rfl
theorem validB_b (s : Span) (lo hi : Int) :
    callF (mk Proofs.Tryd.prog (lookN types) glob 24) [(11, true), (18, false)] [] [] (body Proofs.Tryd.f117) [.tmp 6] [spD s, .int .i64 lo, .int .i64 hi] =
      some ([0 + 0 + 1 ≤ 2, decide (Span.lo s ≥ lo) = true, decide (Span.lo s ≥ lo) = true, 0 + 0 + 1 ≤ 2, decide (Span.lo s ≥ lo) = true, decide (Span.lo s ≥ lo) = true, 0 + 1 + 1 ≤ 2, decide (Span.lo s ≥ lo) = true, decide (Span.lo s ≥ lo) = true, decide (Span.lo s ≤ Span.hi s) = false, decide (Span.lo s ≤ Span.hi s) = false, decide (Span.lo s ≤ Span.hi s) = false, decide (Span.lo s ≤ Span.hi s) = false, decide (Span.lo s ≤ Span.hi s) = false], D.bool false) := by kernel_rfl
theorem validB_c (s : Span) (lo hi : Int) :
    callF (mk Proofs.Tryd.prog (lookN types) glob 24) [(11, true), (18, true)] [] [] (body Proofs.Tryd.f117) [.tmp 6] [spD s, .int .i64 lo, .int .i64 hi] =
      some ([0 + 0 + 1 ≤ 2, decide (Span.lo s ≥ lo) = true, decide (Span.lo s ≥ lo) = true, 0 + 0 + 1 ≤ 2, decide (Span.lo s ≥ lo) = true, decide (Span.lo s ≥ lo) = true, 0 + 1 + 1 ≤ 2, decide (Span.lo s ≥ lo) = true, decide (Span.lo s ≥ lo) = true, decide (Span.lo s ≤ Span.hi s) = true, decide (Span.lo s ≤ Span.hi s) = true, 0 + 1 + 1 ≤ 2, decide (Span.lo s ≤ Span.hi s) = true, decide (Span.lo s ≤ Span.hi s) = true, decide (Span.lo s ≤ Span.hi s) = true], D.bool (decide (Span.hi s ≤ hi))) := by kernel_rfl
theorem containsB_all (s : Span) (n : Int) :
    callF (mk Proofs.Tryd.prog (lookN types) glob 11) [] [(10, .bool (insideF n s.lo s.hi))] [] (body Proofs.Tryd.f45) [.tmp 4] [spD s, .int .i64 n] =
      some ([0 + 0 + 1 ≤ 2, 0 + 1 + 1 ≤ 2, Contract Proofs.Tryd.prog glob 50 [D.int .i64 n, D.int .i64 (Span.lo s), D.int .i64 (Span.hi s)] (D.bool (insideF n (Span.lo s) (Span.hi s)))], D.bool (insideF n (Span.lo s) (Span.hi s))) := by kernel_rfl
theorem covers_a (s t : Span) :
    callF (mk Proofs.Tryd.prog (lookN types) glob 17) [(10, false)] [] [] (body Proofs.Tryd.f51) [.tmp 4] [spD s, spD t] =
      some ([0 + 0 + 1 ≤ 2, 0 + 0 + 1 ≤ 2, decide (Span.lo t ≥ Span.lo s) = false, decide (Span.lo t ≥ Span.lo s) = false, decide (Span.lo t ≥ Span.lo s) = false, decide (Span.lo t ≥ Span.lo s) = false, decide (Span.lo t ≥ Span.lo s) = false, decide (Span.lo t ≥ Span.lo s) = false], D.bool false) := by kernel_rfl
theorem covers_b (s t : Span) :
    callF (mk Proofs.Tryd.prog (lookN types) glob 17) [(10, true)] [] [] (body Proofs.Tryd.f51) [.tmp 4] [spD s, spD t] =
      some ([0 + 0 + 1 ≤ 2, 0 + 0 + 1 ≤ 2, decide (Span.lo t ≥ Span.lo s) = true, decide (Span.lo t ≥ Span.lo s) = true, 0 + 1 + 1 ≤ 2, decide (Span.lo t ≥ Span.lo s) = true, decide (Span.lo t ≥ Span.lo s) = true, 0 + 1 + 1 ≤ 2, decide (Span.lo t ≥ Span.lo s) = true, decide (Span.lo t ≥ Span.lo s) = true], D.bool (decide (Span.hi t ≤ Span.hi s))) := by kernel_rfl
theorem bookB_all (turns : List Int) (svs : List Sv) :
    callF (mk Proofs.Tryd.prog (lookN types) glob 15) [] [(5, spD ⟨40, 42⟩), (6, spD ⟨1, 2⟩), (7, .agg [.int .i64 40, .int .i64 42, .int .i64 1, .int .i64 2]), (8, spD ⟨38, 39⟩), (9, spD ⟨0, 1⟩), (10, .agg [.int .i64 38, .int .i64 39, .int .i64 0, .int .i64 1])] [] (body Proofs.Tryd.f63) [.cell 4 26] [.sl false .int turns, .sl false .sv svs] =
      some ([Contract Proofs.Tryd.prog glob 61 [D.int .i64 (40 : Int), D.int .i64 (42 : Int)] (D.agg [D.int .i64 (Span.lo (Span.mk (40 : Int) (42 : Int))), D.int .i64 (Span.hi (Span.mk (40 : Int) (42 : Int)))]), Contract Proofs.Tryd.prog glob 61 [D.int .i64 (1 : Int), D.int .i64 (2 : Int)] (D.agg [D.int .i64 (Span.lo (Span.mk (1 : Int) (2 : Int))), D.int .i64 (Span.hi (Span.mk (1 : Int) (2 : Int)))]), Contract Proofs.Tryd.prog glob 67 [D.agg [D.int .i64 (Span.lo (Span.mk (40 : Int) (42 : Int))), D.int .i64 (Span.hi (Span.mk (40 : Int) (42 : Int)))], D.agg [D.int .i64 (Span.lo (Span.mk (1 : Int) (2 : Int))), D.int .i64 (Span.hi (Span.mk (1 : Int) (2 : Int)))]] (D.agg [D.int .i64 (40 : Int), D.int .i64 (42 : Int), D.int .i64 (1 : Int), D.int .i64 (2 : Int)]), Contract Proofs.Tryd.prog glob 61 [D.int .i64 (38 : Int), D.int .i64 (39 : Int)] (D.agg [D.int .i64 (Span.lo (Span.mk (38 : Int) (39 : Int))), D.int .i64 (Span.hi (Span.mk (38 : Int) (39 : Int)))]), Contract Proofs.Tryd.prog glob 61 [D.int .i64 (0 : Int), D.int .i64 (1 : Int)] (D.agg [D.int .i64 (Span.lo (Span.mk (0 : Int) (1 : Int))), D.int .i64 (Span.hi (Span.mk (0 : Int) (1 : Int)))]), Contract Proofs.Tryd.prog glob 67 [D.agg [D.int .i64 (Span.lo (Span.mk (38 : Int) (39 : Int))), D.int .i64 (Span.hi (Span.mk (38 : Int) (39 : Int)))], D.agg [D.int .i64 (Span.lo (Span.mk (0 : Int) (1 : Int))), D.int .i64 (Span.hi (Span.mk (0 : Int) (1 : Int)))]] (D.agg [D.int .i64 (38 : Int), D.int .i64 (39 : Int), D.int .i64 (0 : Int), D.int .i64 (1 : Int)])], D.agg [D.sl true E.sec [Sec.mk (Span.mk (40 : Int) (42 : Int)) (Span.mk (1 : Int) (2 : Int)), Sec.mk (Span.mk (38 : Int) (39 : Int)) (Span.mk (0 : Int) (1 : Int))], D.sl false E.int turns, D.sl false E.sv svs, D.int .i64 (30 : Int), D.int .i64 (12 : Int)]) := by kernel_rfl
theorem own1_all  :
    callF (mk Proofs.Tryd.prog (lookN types) glob 3) [] [(2, bookD ownB)] [] (body Proofs.Tryd.f62) [.cell 0 26] [] =
      some ([Contract Proofs.Tryd.prog glob 63 [D.sl false E.int [(6 : Int)], D.sl false E.sv []] (bookD ownB)], bookD ownB) := by kernel_rfl
theorem torn1_all  :
    callF (mk Proofs.Tryd.prog (lookN types) glob 6) [] [(2, .agg [.int .i64 0, .int .i64 6, .int .i64 34, .int .i64 1]), (3, .agg [.int .i64 0, .int .i64 6, .int .i64 40, .int .i64 1]), (5, bookD tornB)] [] (body Proofs.Tryd.f65) [.cell 0 26] [] =
      some ([Contract Proofs.Tryd.prog glob 48 [D.int .i64 (0 : Int), D.int .i64 (6 : Int), D.int .i64 (34 : Int), D.int .i64 (1 : Int)] (D.agg [D.int .i64 (0 : Int), D.int .i64 (6 : Int), D.int .i64 (34 : Int), D.int .i64 (1 : Int)]), Contract Proofs.Tryd.prog glob 48 [D.int .i64 (0 : Int), D.int .i64 (6 : Int), D.int .i64 (40 : Int), D.int .i64 (1 : Int)] (D.agg [D.int .i64 (0 : Int), D.int .i64 (6 : Int), D.int .i64 (40 : Int), D.int .i64 (1 : Int)]), Contract Proofs.Tryd.prog glob 63 [D.sl false E.int [(6 : Int)], D.sl false E.sv [Sv.mk (0 : Int) (6 : Int) (34 : Int) (1 : Int), Sv.mk (0 : Int) (6 : Int) (40 : Int) (1 : Int)]] (bookD tornB)], bookD tornB) := by kernel_rfl
theorem surveyed1_all  :
    callF (mk Proofs.Tryd.prog (lookN types) glob 5) [] [(2, .agg [.int .i64 0, .int .i64 6, .int .i64 34, .int .i64 1]), (4, bookD surveyedB)] [] (body Proofs.Tryd.f66) [.cell 0 26] [] =
      some ([Contract Proofs.Tryd.prog glob 48 [D.int .i64 (0 : Int), D.int .i64 (6 : Int), D.int .i64 (34 : Int), D.int .i64 (1 : Int)] (D.agg [D.int .i64 (0 : Int), D.int .i64 (6 : Int), D.int .i64 (34 : Int), D.int .i64 (1 : Int)]), Contract Proofs.Tryd.prog glob 63 [D.sl false E.int [(6 : Int)], D.sl false E.sv [Sv.mk (0 : Int) (6 : Int) (34 : Int) (1 : Int)]] (bookD surveyedB)], bookD surveyedB) := by kernel_rfl
theorem straight1_all  :
    callF (mk Proofs.Tryd.prog (lookN types) glob 2) [] [(1, bookD straightB)] [] (body Proofs.Tryd.f110) [.cell 0 26] [] =
      some ([Contract Proofs.Tryd.prog glob 63 [D.sl false E.int [], D.sl false E.sv []] (bookD straightB)], bookD straightB) := by kernel_rfl
theorem alike_len (xs ys : List Int) :
    callF (mk Proofs.Tryd.prog (lookN types) glob 26) [(10, true)] [] [] (body Proofs.Tryd.f55) [.tmp 4] [.sl false .int xs, .sl false .int ys] =
      some ([((Nat.cast : Nat → Int) (List.length xs) != (Nat.cast : Nat → Int) (List.length ys)) = true], D.bool false) := by kernel_rfl
theorem alike_diff (xs ys : List Int) (i : Nat) :
    callF (mk Proofs.Tryd.prog (lookN types) glob 26) [(10, false)] [] [(0, (alike_K0, (.ret, alike_T0_diff xs ys i)))] (body Proofs.Tryd.f55) [.tmp 4] [.sl false .int xs, .sl false .int ys] =
      some ([((Nat.cast : Nat → Int) (List.length xs) != (Nat.cast : Nat → Int) (List.length ys)) = false, LoopT Proofs.Tryd.prog glob 26 (Code.at [1, 1, 0, 1] (body Proofs.Tryd.f55)) [(.tmp 0, .d (D.sl false E.int xs)), (.tmp 1, .d (D.sl false E.int ys)), (.tmp 5, .d (D.int .i64 (0 : Int)))] Ex.ret (alike_T0_diff xs ys i)], D.bool false) := by kernel_rfl
theorem alike_all (xs ys : List Int) (i : Nat) :
    callF (mk Proofs.Tryd.prog (lookN types) glob 26) [(10, false)] [] [(0, (alike_K0, (.normal, alike_S0 xs ys i)))] (body Proofs.Tryd.f55) [.tmp 4] [.sl false .int xs, .sl false .int ys] =
      some ([((Nat.cast : Nat → Int) (List.length xs) != (Nat.cast : Nat → Int) (List.length ys)) = false, LoopT Proofs.Tryd.prog glob 26 (Code.at [1, 1, 0, 1] (body Proofs.Tryd.f55)) [(.tmp 0, .d (D.sl false E.int xs)), (.tmp 1, .d (D.sl false E.int ys)), (.tmp 5, .d (D.int .i64 (0 : Int)))] Ex.normal (alike_S0 xs ys i)], D.bool true) := by kernel_rfl
theorem modB_zero (n m : Int) :
    callF (mk Proofs.Tryd.prog (lookN types) glob 17) [(7, true)] [] [] (body Proofs.Tryd.f39) [.tmp 4] [.int .i64 n, .int .i64 m] =
      some ([decide (m ≤ (0 : Int)) = true], D.int .i64 (0 : Int)) := by kernel_rfl
theorem modB_neg (n m : Int) :
    callF (mk Proofs.Tryd.prog (lookN types) glob 17) [(7, false), (12, true)] [] [] (body Proofs.Tryd.f39) [.tmp 4] [.int .i64 n, .int .i64 m] =
      some ([decide (m ≤ (0 : Int)) = false, m ≠ (0 : Int), decide (Int.tmod n m < (0 : Int)) = true, inI64 (Int.tmod n m + m)], D.int .i64 (Int.tmod n m + m)) := by kernel_rfl
theorem modB_pos (n m : Int) :
    callF (mk Proofs.Tryd.prog (lookN types) glob 17) [(7, false), (12, false)] [] [] (body Proofs.Tryd.f39) [.tmp 4] [.int .i64 n, .int .i64 m] =
      some ([decide (m ≤ (0 : Int)) = false, m ≠ (0 : Int), decide (Int.tmod n m < (0 : Int)) = false], D.int .i64 (Int.tmod n m)) := by kernel_rfl
theorem atB_hit (xs : List Int) (v : Int) (i : Nat) :
    callF (mk Proofs.Tryd.prog (lookN types) glob 19) [] [] [(0, (atB_K0, (.ret, atB_T0_hit xs v i)))] (body Proofs.Tryd.f46) [.tmp 4] [.sl false .int xs, .int .i64 v] =
      some ([LoopT Proofs.Tryd.prog glob 19 (Code.at [1, 0, 1] (body Proofs.Tryd.f46)) [(.tmp 0, .d (D.sl false E.int xs)), (.tmp 1, .d (D.int .i64 v)), (.tmp 5, .d (D.int .i64 (0 : Int)))] Ex.ret (atB_T0_hit xs v i)], D.int .i64 ((Nat.cast : Nat → Int) i)) := by kernel_rfl
theorem atB_end (xs : List Int) (v : Int) (i : Nat) :
    callF (mk Proofs.Tryd.prog (lookN types) glob 19) [] [] [(0, (atB_K0, (.normal, atB_S0 xs v i)))] (body Proofs.Tryd.f46) [.tmp 4] [.sl false .int xs, .int .i64 v] =
      some ([LoopT Proofs.Tryd.prog glob 19 (Code.at [1, 0, 1] (body Proofs.Tryd.f46)) [(.tmp 0, .d (D.sl false E.int xs)), (.tmp 1, .d (D.int .i64 v)), (.tmp 5, .d (D.int .i64 (0 : Int)))] Ex.normal (atB_S0 xs v i)], D.int .i64 (-(1 : Int))) := by kernel_rfl
theorem climbs_out (xs : List Int) (m : Int) (i : Nat) :
    callF (mk Proofs.Tryd.prog (lookN types) glob 36) [] [] [(0, (climbs_K0, (.ret, climbs_T0_out xs m i)))] (body Proofs.Tryd.f52) [.tmp 4] [.sl false .int xs, .int .i64 m] =
      some ([LoopT Proofs.Tryd.prog glob 36 (Code.at [1, 0, 1] (body Proofs.Tryd.f52)) [(.tmp 0, .d (D.sl false E.int xs)), (.tmp 1, .d (D.int .i64 m)), (.tmp 5, .d (D.int .i64 (0 : Int)))] Ex.ret (climbs_T0_out xs m i)], D.bool false) := by kernel_rfl
theorem climbs_low (xs : List Int) (m : Int) (i : Nat) :
    callF (mk Proofs.Tryd.prog (lookN types) glob 36) [] [] [(0, (climbs_K0, (.ret, climbs_T0_low xs m i)))] (body Proofs.Tryd.f52) [.tmp 4] [.sl false .int xs, .int .i64 m] =
      some ([LoopT Proofs.Tryd.prog glob 36 (Code.at [1, 0, 1] (body Proofs.Tryd.f52)) [(.tmp 0, .d (D.sl false E.int xs)), (.tmp 1, .d (D.int .i64 m)), (.tmp 5, .d (D.int .i64 (0 : Int)))] Ex.ret (climbs_T0_low xs m i)], D.bool false) := by kernel_rfl
theorem climbs_end (xs : List Int) (m : Int) (i : Nat) :
    callF (mk Proofs.Tryd.prog (lookN types) glob 36) [] [] [(0, (climbs_K0, (.normal, climbs_S0 xs m i)))] (body Proofs.Tryd.f52) [.tmp 4] [.sl false .int xs, .int .i64 m] =
      some ([LoopT Proofs.Tryd.prog glob 36 (Code.at [1, 0, 1] (body Proofs.Tryd.f52)) [(.tmp 0, .d (D.sl false E.int xs)), (.tmp 1, .d (D.int .i64 m)), (.tmp 5, .d (D.int .i64 (0 : Int)))] Ex.normal (climbs_S0 xs m i)], D.bool true) := by kernel_rfl
theorem forged_all  :
    callF (mk Proofs.Tryd.prog (lookN types) glob 142) [] [(16, bookD ownB), (17, .tup [spD ⟨22, 36⟩, .int .i64 0]), (21, bookD surveyedB), (22, .tup [spD ⟨26, 33⟩, .int .i64 0]), (26, bookD surveyedB), (27, .tup [spD ⟨1, 1⟩, .int .i64 0]), (31, bookD ownB), (32, .tup [.int .i64 8, .int .i64 0]), (36, bookD ownB), (37, .tup [.sl true .int ([0, 1] : List Int), .int .i64 0]), (60, spD ⟨22, 36⟩), (65, spD ⟨26, 33⟩), (70, spD ⟨1, 1⟩), (80, .bool true), (84, bookD surveyedB), (85, .agg [.int .i64 1, .int .i64 6, .int .i64 39, .int .i64 0]), (86, .tup [.bool true, .int .i64 0]), (90, bookD straightB), (91, .tup [.int .i64 4, .int .i64 0]), (95, bookD tornB), (96, .tup [.sl true .int ([1] : List Int), .int .i64 0]), (100, bookD surveyedB), (101, .tup [.bool true, .int .i64 0]), (105, bookD ownB), (106, .tup [.int .i64 0, .int .i64 4]), (137, .bool true)] [] (body Proofs.Tryd.f30) [.tmp 0] [] =
      some ([Contract Proofs.Tryd.prog glob 62 [] (bookD ownB), Contract Proofs.Tryd.prog glob 41 [bookD ownB, D.int .i64 (0 : Int), D.int .i64 (12 : Int)] (D.tup [D.agg [D.int .i64 (Span.lo (Span.mk (22 : Int) (36 : Int))), D.int .i64 (Span.hi (Span.mk (22 : Int) (36 : Int)))], D.int .i64 (0 : Int)]), Contract Proofs.Tryd.prog glob 66 [] (bookD surveyedB), Contract Proofs.Tryd.prog glob 41 [bookD surveyedB, D.int .i64 (1 : Int), D.int .i64 (12 : Int)] (D.tup [D.agg [D.int .i64 (Span.lo (Span.mk (26 : Int) (33 : Int))), D.int .i64 (Span.hi (Span.mk (26 : Int) (33 : Int)))], D.int .i64 (0 : Int)]), Contract Proofs.Tryd.prog glob 66 [] (bookD surveyedB), Contract Proofs.Tryd.prog glob 42 [bookD surveyedB, D.int .i64 (0 : Int)] (D.tup [D.agg [D.int .i64 (Span.lo (Span.mk (1 : Int) (1 : Int))), D.int .i64 (Span.hi (Span.mk (1 : Int) (1 : Int)))], D.int .i64 (0 : Int)]), Contract Proofs.Tryd.prog glob 62 [] (bookD ownB), Contract Proofs.Tryd.prog glob 43 [bookD ownB, D.int .i64 (1 : Int)] (D.tup [D.int .i64 (8 : Int), D.int .i64 (0 : Int)]), Contract Proofs.Tryd.prog glob 62 [] (bookD ownB), Contract Proofs.Tryd.prog glob 40 [bookD ownB, D.int .i64 (8 : Int)] (D.tup [D.sl true E.int [(0 : Int), (1 : Int)], D.int .i64 (0 : Int)]), 0 + 2 ≤ 2, Contract Proofs.Tryd.prog glob 61 [D.int .i64 (22 : Int), D.int .i64 (36 : Int)] (D.agg [D.int .i64 (Span.lo (Span.mk (22 : Int) (36 : Int))), D.int .i64 (Span.hi (Span.mk (22 : Int) (36 : Int)))]), 0 + 2 ≤ 2, Contract Proofs.Tryd.prog glob 61 [D.int .i64 (26 : Int), D.int .i64 (33 : Int)] (D.agg [D.int .i64 (Span.lo (Span.mk (26 : Int) (33 : Int))), D.int .i64 (Span.hi (Span.mk (26 : Int) (33 : Int)))]), 0 + 2 ≤ 2, Contract Proofs.Tryd.prog glob 49 [D.int .i64 (1 : Int)] (D.agg [D.int .i64 (Span.lo (Span.mk (1 : Int) (1 : Int))), D.int .i64 (Span.hi (Span.mk (1 : Int) (1 : Int)))]), Contract Proofs.Tryd.prog glob 55 [D.sl false E.int [(0 : Int), (1 : Int)], D.sl false E.int [(0 : Int), (1 : Int)]] (D.bool true), Contract Proofs.Tryd.prog glob 66 [] (bookD surveyedB), Contract Proofs.Tryd.prog glob 48 [D.int .i64 (1 : Int), D.int .i64 (6 : Int), D.int .i64 (39 : Int), D.int .i64 (0 : Int)] (D.agg [D.int .i64 (1 : Int), D.int .i64 (6 : Int), D.int .i64 (39 : Int), D.int .i64 (0 : Int)]), Contract Proofs.Tryd.prog glob 47 [bookD surveyedB, D.agg [D.int .i64 (1 : Int), D.int .i64 (6 : Int), D.int .i64 (39 : Int), D.int .i64 (0 : Int)]] (D.tup [D.bool true, D.int .i64 (0 : Int)]), Contract Proofs.Tryd.prog glob 110 [] (bookD straightB), Contract Proofs.Tryd.prog glob 54 [bookD straightB] (D.tup [D.int .i64 (4 : Int), D.int .i64 (0 : Int)]), Contract Proofs.Tryd.prog glob 65 [] (bookD tornB), Contract Proofs.Tryd.prog glob 38 [bookD tornB] (D.tup [D.sl true E.int [(1 : Int)], D.int .i64 (0 : Int)]), Contract Proofs.Tryd.prog glob 66 [] (bookD surveyedB), Contract Proofs.Tryd.prog glob 37 [bookD surveyedB] (D.tup [D.bool true, D.int .i64 (0 : Int)]), Contract Proofs.Tryd.prog glob 62 [] (bookD ownB), Contract Proofs.Tryd.prog glob 44 [bookD ownB, D.int .i64 (0 : Int)] (D.tup [D.int .i64 (0 : Int), D.int .i64 (4 : Int)]), Contract Proofs.Tryd.prog glob 55 [D.sl false E.int [(1 : Int)], D.sl false E.int [(1 : Int)]] (D.bool true)], D.bool true) := by kernel_rfl
end Go.Di

namespace Go.Di

theorem find_first (p : Nat → Bool) : ∀ n, (∃ k, k < n ∧ p k = true ∧ ∀ i < k, p i = false) ∨ ∀ i < n, p i = false
  | 0 => .inr fun i h => by omega
  | n + 1 => by
    rcases find_first p n with ⟨k, h1, h2, h3⟩ | h
    · exact .inl ⟨k, by omega, h2, h3⟩
    · cases hn : p n with
      | true => exact .inl ⟨n, by omega, hn, h⟩
      | false =>
        refine .inr fun i hi => ?_
        by_cases e : i = n
        · subst e; exact hn
        · exact h i (by omega)
theorem Contract.toWeak {P : Program} {glob : Nat → Option (List D)} {f : FuncId} {args : List D} {r : D} (h : Contract P glob f args r) : Contract P glob f args (weak r) := h.toRes fun _ _ _ => weak_rel

/-! ### Small functions of the laws -/
theorem rangeB_con (a c : Int) : Contract Proofs.Tryd.prog glob 61 [.int .i64 a, .int .i64 c] (spD ⟨a, c⟩) := contract_of_path (G 8) rangeB_fn (rangeB_all a c) ⟨by omega, trivial⟩
theorem point_con (a : Int) : Contract Proofs.Tryd.prog glob 49 [.int .i64 a] (spD ⟨a, a⟩) := contract_of_path (G 6) point_fn (point_all a) ⟨rangeB_con a a, by omega, trivial⟩
theorem sectionB_con (s t : Span) : Contract Proofs.Tryd.prog glob 67 [spD s, spD t] (.agg [.int .i64 s.lo, .int .i64 s.hi, .int .i64 t.lo, .int .i64 t.hi]) := contract_of_path (G 8) sectionB_fn (sectionB_all s t) ⟨by omega, by omega, by omega, trivial⟩
theorem surveyB_con (a c d e : Int) : Contract Proofs.Tryd.prog glob 48 [.int .i64 a, .int .i64 c, .int .i64 d, .int .i64 e] (svD ⟨a, c, d, e⟩) := contract_of_path (G 14) surveyB_fn (surveyB_all a c d e) ⟨by omega, trivial⟩
theorem inside_con (n lo hi : Int) : Contract Proofs.Tryd.prog glob 50 [.int .i64 n, .int .i64 lo, .int .i64 hi] (.bool (insideF n lo hi)) := by
  unfold insideF
  cases h : decide (n ≥ lo) with
  | false => exact contract_of_path (G 15) inside_fn (inside_no n lo hi) ⟨h, h, h, h, trivial⟩
  | true => exact contract_of_path (G 15) inside_fn (inside_yes n lo hi) ⟨h, h, h, h, trivial⟩
def validSF (s : Span) (lo hi : Int) : Bool := decide (s.lo ≥ lo) && decide (s.lo ≤ s.hi) && decide (s.hi ≤ hi)
theorem validB_con (s : Span) (lo hi : Int) : Contract Proofs.Tryd.prog glob 117 [spD s, .int .i64 lo, .int .i64 hi] (.bool (validSF s lo hi)) := by
  unfold validSF
  cases h : decide (s.lo ≥ lo) with
  | false =>
    refine contract_of_path (G 24) validB_fn (validB_a s lo hi) ?_
    repeat (first | exact trivial | refine ⟨by first | exact h | omega, ?_⟩)
  | true =>
    cases h2 : decide (s.lo ≤ s.hi) with
    | false =>
      refine contract_of_path (G 24) validB_fn (validB_b s lo hi) ?_
      repeat (first | exact trivial | refine ⟨by first | exact h | exact h2 | omega, ?_⟩)
    | true =>
      refine contract_of_path (G 24) validB_fn (validB_c s lo hi) ?_
      repeat (first | exact trivial | refine ⟨by first | exact h | exact h2 | omega, ?_⟩)
theorem containsB_con (s : Span) (n : Int) : Contract Proofs.Tryd.prog glob 45 [spD s, .int .i64 n] (.bool (insideF n s.lo s.hi)) := contract_of_path (G 11) containsB_fn (containsB_all s n) ⟨by omega, by omega, inside_con _ _ _, trivial⟩
def coversF (s t : Span) : Bool := decide (t.lo ≥ s.lo) && decide (t.hi ≤ s.hi)
theorem covers_con (s t : Span) : Contract Proofs.Tryd.prog glob 51 [spD s, spD t] (.bool (coversF s t)) := by
  unfold coversF
  cases h : decide (t.lo ≥ s.lo) with
  | false =>
    refine contract_of_path (G 17) covers_fn (covers_a s t) ?_
    repeat (first | exact trivial | refine ⟨by first | exact h | omega, ?_⟩)
  | true =>
    refine contract_of_path (G 17) covers_fn (covers_b s t) ?_
    repeat (first | exact trivial | refine ⟨by first | exact h | omega, ?_⟩)
theorem bookB_con (turns : List Int) (svs : List Sv) : Contract Proofs.Tryd.prog glob 63 [.sl false .int turns, .sl false .sv svs] (bookD (rdBook turns svs)) := by
  have := contract_of_path (G 15) bookB_fn (bookB_all turns svs) (by
    have h1 := rangeB_con 40 42
    have h2 := rangeB_con 1 2
    have h3 := rangeB_con 38 39
    have h4 := rangeB_con 0 1
    have h5 := sectionB_con ⟨40, 42⟩ ⟨1, 2⟩
    have h6 := sectionB_con ⟨38, 39⟩ ⟨0, 1⟩
    repeat (first | exact trivial | refine ⟨by first | exact h1 | exact h2 | exact h3 | exact h4 | exact h5 | exact h6 | omega, ?_⟩))
  exact this.toWeak
theorem own1_con : Contract Proofs.Tryd.prog glob 62 [] (bookD ownB) := contract_of_path (G 3) own1_fn own1_all ⟨bookB_con [6] [], trivial⟩
theorem surveyed1_con : Contract Proofs.Tryd.prog glob 66 [] (bookD surveyedB) := contract_of_path (G 5) surveyed1_fn surveyed1_all ⟨surveyB_con 0 6 34 1, bookB_con [6] [⟨0, 6, 34, 1⟩], trivial⟩
theorem torn1_con : Contract Proofs.Tryd.prog glob 65 [] (bookD tornB) := contract_of_path (G 6) torn1_fn torn1_all ⟨surveyB_con 0 6 34 1, surveyB_con 0 6 40 1, bookB_con [6] [⟨0, 6, 34, 1⟩, ⟨0, 6, 40, 1⟩], trivial⟩
theorem straight1_con : Contract Proofs.Tryd.prog glob 110 [] (bookD straightB) := contract_of_path (G 2) straight1_fn straight1_all ⟨bookB_con [] [], trivial⟩

theorem ext_getD {xs ys : List Int} (hl : xs.length = ys.length) (h : ∀ i < xs.length, xs.getD i 0 = ys.getD i 0) : xs = ys := by
  refine List.ext_getElem hl fun i h1 h2 => ?_
  have := h i h1
  rwa [List.getD_eq_getElem?_getD, List.getD_eq_getElem?_getD, List.getElem?_eq_getElem h1, List.getElem?_eq_getElem h2] at this
theorem alike_con (xs ys : List Int) (hl : xs.length ≤ 9223372036854775807) : Contract Proofs.Tryd.prog glob 55 [.sl false .int xs, .sl false .int ys] (.bool (decide (xs = ys))) := by
  have hb : Code.at [1, 1, 0, 1] (body Proofs.Tryd.f55) = .block 0 (.loop (Code.at [1, 1, 0, 1, 0, 0] (body Proofs.Tryd.f55))) := by kernel_rfl
  by_cases hlen : xs.length = ys.length
  · have hne : ((xs.length : Int) != (ys.length : Int)) = false := by rw [hlen]; simp
    have hon : ∀ k, k ≤ xs.length → (∀ i < k, (xs.getD i 0 != ys.getD i 0) = false) → ∀ i, i < k → WpL Proofs.Tryd.prog (mk Proofs.Tryd.prog (lookN types) glob 26) (Code.at [1, 1, 0, 1, 0, 0] (body Proofs.Tryd.f55)) (alike_S0 xs ys i) fun e1 L1 => e1 = .normal ∧ L1 = alike_S0 xs ys (i + 1) := fun k hk h i hi =>
      WpL.path (G 26) (alike_0_on xs ys i) ⟨decide_eq_true (by omega), by omega, by omega, by omega, by omega, h i hi, by simp only [inI64]; omega, trivial⟩ ⟨rfl, rfl⟩
    rcases find_first (fun i => xs.getD i 0 != ys.getD i 0) xs.length with ⟨k, h1, h2, h3⟩ | h
    · have : decide (xs = ys) = false := decide_eq_false fun e => by subst e; simp at h2
      rw [this]
      exact contract_of_path (G 26) alike_fn (alike_diff xs ys k) ⟨hne, LoopT.count (tt := lookN types) hb k (alike_S0 xs ys) (hon k (by omega) h3) (WpL.path (G 26) (alike_0_diff xs ys k) ⟨decide_eq_true (by omega), by omega, by omega, by omega, by omega, h2, trivial⟩ ⟨.inr ⟨rfl, rfl⟩, rfl⟩), trivial⟩
    · have : decide (xs = ys) = true := decide_eq_true (ext_getD hlen fun i hi => by simpa using h i hi)
      rw [this]
      exact contract_of_path (G 26) alike_fn (alike_all xs ys xs.length) ⟨hne, LoopT.count (tt := lookN types) hb xs.length (alike_S0 xs ys) (hon _ (Nat.le_refl _) h) (WpL.path (G 26) (alike_0_end xs ys _) ⟨decide_eq_false (Int.lt_irrefl _), trivial⟩ ⟨.inl ⟨rfl, rfl⟩, rfl⟩), trivial⟩
  · have : decide (xs = ys) = false := decide_eq_false fun e => hlen (by rw [e])
    rw [this]
    exact contract_of_path (G 26) alike_fn (alike_len xs ys) ⟨by simp; omega, trivial⟩
def modF (n m : Int) : Int := if m ≤ 0 then 0 else if n.tmod m < 0 then n.tmod m + m else n.tmod m
theorem modF_emod {n m : Int} (h : 0 < m) : modF n m = n % m := by
  unfold modF
  rw [if_neg (by omega)]
  have h1 := Int.tmod_eq_emod (a := n) (b := m)
  have h2 := Int.emod_nonneg n (b := m) (by omega)
  have h3 := Int.emod_lt_of_pos n h
  have h4 : (m.natAbs : Int) = m := by omega
  by_cases hc : 0 ≤ n ∨ m ∣ n
  · rw [if_pos hc] at h1
    split <;> omega
  · rw [if_neg hc] at h1
    split <;> omega
theorem modF_in {n m : Int} (h : 0 < m) : 0 ≤ modF n m ∧ modF n m < m := by
  rw [modF_emod h]
  exact ⟨Int.emod_nonneg n (by omega), Int.emod_lt_of_pos n h⟩
theorem modB_con (n m : Int) (hm : m ≤ 9223372036854775807) : Contract Proofs.Tryd.prog glob 39 [.int .i64 n, .int .i64 m] (.int .i64 (modF n m)) := by
  by_cases h : m ≤ 0
  · rw [show modF n m = 0 from if_pos h]
    exact contract_of_path (G 17) modB_fn (modB_zero n m) ⟨decide_eq_true h, trivial⟩
  · have hin := modF_in (n := n) (m := m) (by omega)
    by_cases h2 : n.tmod m < 0
    · have e : modF n m = n.tmod m + m := by unfold modF; rw [if_neg h, if_pos h2]
      rw [e] at hin ⊢
      exact contract_of_path (G 17) modB_fn (modB_neg n m) ⟨decide_eq_false h, by omega, decide_eq_true h2, by simp only [inI64]; omega, trivial⟩
    · rw [show modF n m = n.tmod m by unfold modF; rw [if_neg h, if_neg h2]]
      exact contract_of_path (G 17) modB_fn (modB_pos n m) ⟨decide_eq_false h, by omega, decide_eq_false h2, trivial⟩
theorem atB_con (xs : List Int) (v : Int) (hl : xs.length ≤ 9223372036854775807) : Contract Proofs.Tryd.prog glob 46 [.sl false .int xs, .int .i64 v] (.int .i64 (indexF v xs 0)) := by
  have hb : Code.at [1, 0, 1] (body Proofs.Tryd.f46) = .block 0 (.loop (Code.at [1, 0, 1, 0, 0] (body Proofs.Tryd.f46))) := by kernel_rfl
  have hbeq : ∀ a b : Int, (a == b) = (b == a) := fun a b => BEq.comm
  have hon : ∀ k, k ≤ xs.length → (∀ i < k, (v == xs.getD i 0) = false) → ∀ i, i < k → WpL Proofs.Tryd.prog (mk Proofs.Tryd.prog (lookN types) glob 19) (Code.at [1, 0, 1, 0, 0] (body Proofs.Tryd.f46)) (atB_S0 xs v i) fun e1 L1 => e1 = .normal ∧ L1 = atB_S0 xs v (i + 1) := fun k hk h i hi =>
    WpL.path (G 19) (atB_0_on xs v i) ⟨decide_eq_true (by omega), by omega, by omega, (hbeq _ _).trans (h i hi), by simp only [inI64]; omega, trivial⟩ ⟨rfl, rfl⟩
  rcases indexF_cases v xs with ⟨k, h1, h2, h3, h4⟩ | ⟨h2, h4⟩
  · rw [h2]
    exact contract_of_path (G 19) atB_fn (atB_hit xs v k) ⟨LoopT.count (tt := lookN types) hb k (atB_S0 xs v) (hon k (by omega) h4) (WpL.path (G 19) (atB_0_hit xs v k) ⟨decide_eq_true (by omega), by omega, by omega, (hbeq _ _).trans h3, trivial⟩ ⟨.inr ⟨rfl, rfl⟩, rfl⟩), trivial⟩
  · rw [h2]
    exact contract_of_path (G 19) atB_fn (atB_end xs v xs.length) ⟨LoopT.count (tt := lookN types) hb xs.length (atB_S0 xs v) (hon _ (Nat.le_refl _) h4) (WpL.path (G 19) (atB_0_end xs v _) ⟨decide_eq_false (Int.lt_irrefl _), trivial⟩ ⟨.inl ⟨rfl, rfl⟩, rfl⟩), trivial⟩
/-- Each greater than the one before it, all from 0 to below m. -/
def climbAt (xs : List Int) (m : Int) (i : Nat) : Bool := insideF (xs.getD i 0) 0 (m - 1) && !(decide (i > 0) && decide (xs.getD i 0 ≤ xs.getD (i - 1) 0))
def climbsF (xs : List Int) (m : Int) : Bool := (List.range xs.length).all (climbAt xs m)
theorem climbs_con (xs : List Int) (m : Int) (hl : xs.length ≤ 9223372036854775807) (hm : 0 ≤ m ∧ m ≤ 4611686018427387904) : Contract Proofs.Tryd.prog glob 52 [.sl false .int xs, .int .i64 m] (.bool (climbsF xs m)) := by
  have hb : Code.at [1, 0, 1] (body Proofs.Tryd.f52) = .block 0 (.loop (Code.at [1, 0, 1, 0, 0] (body Proofs.Tryd.f52))) := by kernel_rfl
  have hin := fun i : Nat => inside_con (xs.getD i 0) 0 (m - 1)
  have hi64 : inI64 (m - 1) := by simp only [inI64]; omega
  have hix : ∀ i : Nat, i > 0 → ((i : Int) - 1).toNat = i - 1 := fun i hi => by omega
  have hon : ∀ k, k ≤ xs.length → (∀ i < k, (!climbAt xs m i) = false) → ∀ i, i < k → WpL Proofs.Tryd.prog (mk Proofs.Tryd.prog (lookN types) glob 36) (Code.at [1, 0, 1, 0, 0] (body Proofs.Tryd.f52)) (climbs_S0 xs m i) fun e1 L1 => e1 = .normal ∧ L1 = climbs_S0 xs m (i + 1) := by
    intro k hk h i hi
    have h' := h i hi
    unfold climbAt at h'
    simp only [Bool.not_eq_eq_eq_not, Bool.not_false, Bool.and_eq_true, Bool.not_true] at h'
    have hq := hin i
    rw [h'.1] at hq
    by_cases hz : i > 0
    · have h1 : decide ((i : Int) > 0) = true := decide_eq_true (by omega)
      have h2 : decide (xs.getD i 0 ≤ xs.getD ((i : Int) - 1).toNat 0) = false := by
        rw [hix i hz]
        have := h'.2
        rw [decide_eq_true hz] at this
        simpa using this
      refine WpL.path (G 36) (climbs_0_on1 xs m i) ?_ ⟨rfl, rfl⟩
      repeat (first | exact trivial | refine ⟨by first | exact hq | exact h1 | exact h2 | exact hi64 | exact decide_eq_true (by omega) | omega | (simp only [inI64]; omega), ?_⟩)
    · have h1 : decide ((i : Int) > 0) = false := decide_eq_false (by omega)
      refine WpL.path (G 36) (climbs_0_on0 xs m i) ?_ ⟨rfl, rfl⟩
      repeat (first | exact trivial | refine ⟨by first | exact hq | exact h1 | exact hi64 | exact decide_eq_true (by omega) | omega | (simp only [inI64]; omega), ?_⟩)
  rcases find_first (fun i => !climbAt xs m i) xs.length with ⟨k, h1, h2, h3⟩ | h
  · have hF : climbsF xs m = false := by
      unfold climbsF
      rw [List.all_eq_false]
      exact ⟨k, by simpa using h1, by simpa using h2⟩
    rw [hF]
    have h2' : climbAt xs m k = false := by simpa using h2
    unfold climbAt at h2'
    have hq := hin k
    cases hc : insideF (xs.getD k 0) 0 (m - 1) with
    | false =>
      rw [hc] at hq
      refine contract_of_path (G 36) climbs_fn (climbs_out xs m k) ⟨LoopT.count (tt := lookN types) hb k (climbs_S0 xs m) (hon k (by omega) h3) (WpL.path (G 36) (climbs_0_out xs m k) ?_ ⟨.inr ⟨rfl, rfl⟩, rfl⟩), trivial⟩
      repeat (first | exact trivial | refine ⟨by first | exact hq | exact hi64 | exact decide_eq_true (by omega) | omega, ?_⟩)
    | true =>
      rw [hc] at hq h2'
      simp only [Bool.true_and, Bool.not_eq_eq_eq_not, Bool.not_false, Bool.and_eq_true, decide_eq_true_eq] at h2'
      have h1' : decide ((k : Int) > 0) = true := decide_eq_true (by omega)
      have hle : decide (xs.getD k 0 ≤ xs.getD ((k : Int) - 1).toNat 0) = true := by
        rw [hix k h2'.1]
        exact decide_eq_true h2'.2
      refine contract_of_path (G 36) climbs_fn (climbs_low xs m k) ⟨LoopT.count (tt := lookN types) hb k (climbs_S0 xs m) (hon k (by omega) h3) (WpL.path (G 36) (climbs_0_low xs m k) ?_ ⟨.inr ⟨rfl, rfl⟩, rfl⟩), trivial⟩
      repeat (first | exact trivial | refine ⟨by first | exact hq | exact h1' | exact hle | exact hi64 | exact decide_eq_true (by omega) | omega | (simp only [inI64]; omega), ?_⟩)
  · have hF : climbsF xs m = true := by
      unfold climbsF
      rw [List.all_eq_true]
      intro i hi
      have := h i (by simpa using hi)
      simpa using this
    rw [hF]
    exact contract_of_path (G 36) climbs_fn (climbs_end xs m xs.length) ⟨LoopT.count (tt := lookN types) hb xs.length (climbs_S0 xs m) (hon _ (Nat.le_refl _) h) (WpL.path (G 36) (climbs_0_end xs m _) ⟨decide_eq_false (Int.lt_irrefl _), trivial⟩ ⟨.inl ⟨rfl, rfl⟩, rfl⟩), trivial⟩
end Go.Di

namespace Go.Di

/-! ### The chapter's examples -/
theorem small_rd (t : List Int) (s : List Sv) (ht : t.length ≤ 100) (hs : s.length ≤ 100) : Small (rdBook t s) := ⟨by show 2 ≤ _; omega, by show t.length ≤ _; omega, by show s.length ≤ _; omega⟩
theorem ev1 : (spanOr (askE ownB 0 12) (thickF ownB (truthsF ownB []) ownB.turns 0 12), askE ownB 0 12) = (⟨22, 36⟩, 0) := by kernel_rfl
theorem ev2 : (spanOr (askE surveyedB 1 12) (thickF surveyedB (truthsF surveyedB []) surveyedB.turns 1 12), askE surveyedB 1 12) = (⟨26, 33⟩, 0) := by kernel_rfl
theorem ev3 : (spanOr (errF surveyedB (isSectionF surveyedB 0)) (toldF (wearAt 0) (truthsF surveyedB [])), errF surveyedB (isSectionF surveyedB 0)) = (⟨1, 1⟩, 0) := by kernel_rfl
theorem ev4 : thinAF ownB 1 = (8, 0) := by kernel_rfl
theorem ev5 : cutAF ownB 8 = ([0, 1], 0) := by kernel_rfl
theorem ev6 : fitsAF surveyedB ⟨1, 6, 39, 0⟩ = (true, 0) := by kernel_rfl
theorem ev7 : turnAF straightB = (4, 0) := by kernel_rfl
theorem ev8 : wrongAF tornB = ([1], 0) := by kernel_rfl
theorem ev9 : (validF surveyedB && canF surveyedB, checkF surveyedB) = (true, 0) := by kernel_rfl
theorem ev10 : goneAF ownB 0 = (0, 4) := by kernel_rfl
theorem forged_con : Contract Proofs.Tryd.prog glob 30 [] (.bool true) := by
  have so : Small ownB := small_rd _ _ (by decide) (by decide)
  have ss : Small surveyedB := small_rd _ _ (by decide) (by decide)
  have st : Small tornB := small_rd _ _ (by decide) (by decide)
  have sg : Small straightB := small_rd _ _ (by decide) (by decide)
  have c1 := thickA_con so 0 12
  rw [show spanOr (askE ownB 0 12) (thickF ownB (truthsF ownB []) ownB.turns 0 12) = ⟨22, 36⟩ from congrArg Prod.fst ev1, show askE ownB 0 12 = 0 from congrArg Prod.snd ev1] at c1
  have c2 := thickA_con ss 1 12
  rw [show spanOr (askE surveyedB 1 12) (thickF surveyedB (truthsF surveyedB []) surveyedB.turns 1 12) = ⟨26, 33⟩ from congrArg Prod.fst ev2, show askE surveyedB 1 12 = 0 from congrArg Prod.snd ev2] at c2
  have c3 := wearA_con ss 0
  rw [show spanOr (errF surveyedB (isSectionF surveyedB 0)) (toldF (wearAt 0) (truthsF surveyedB [])) = ⟨1, 1⟩ from congrArg Prod.fst ev3, show errF surveyedB (isSectionF surveyedB 0) = 0 from congrArg Prod.snd ev3] at c3
  have c4 := thinA_con so 1
  rw [ev4] at c4
  have c5 := cutA_con so 8
  rw [ev5] at c5
  have c6 := fitsA_con ss ⟨1, 6, 39, 0⟩
  rw [ev6] at c6
  have c7 := turnA_con sg
  rw [ev7] at c7
  have c8 := wrong_con st
  rw [ev8] at c8
  have c9 := right_con' ss
  rw [show (validF surveyedB && canF surveyedB) = true from congrArg Prod.fst ev9, show checkF surveyedB = 0 from congrArg Prod.snd ev9] at c9
  have c10 := goneA_con so 0
  rw [ev10] at c10
  have r1 := rangeB_con 22 36
  have r2 := rangeB_con 26 33
  have p1 := point_con 1
  have a1 : Contract Proofs.Tryd.prog glob 55 [.sl false .int ([0, 1] : List Int), .sl false .int ([0, 1] : List Int)] (.bool true) := alike_con [0, 1] [0, 1] (by decide)
  have a2 : Contract Proofs.Tryd.prog glob 55 [.sl false .int ([1] : List Int), .sl false .int ([1] : List Int)] (.bool true) := alike_con [1] [1] (by decide)
  have sv := surveyB_con 1 6 39 0
  have k1 := own1_con
  have k2 := surveyed1_con
  have k3 := torn1_con
  have k4 := straight1_con
  refine contract_of_path (G 142) forged_fn forged_all ?_
  exact ⟨k1, c1, k2, c2, k2, c3, k1, c4, k1, c5, by omega, r1, by omega, r2, by omega, p1, a1, k2, sv, c6, k4, c7, k3, c8, k2, c9, k1, c10, a2, trivial⟩
end Go.Di

