/- Part 24: an interpreter over plain data for this code, with the proof that it says what the model does, and the contracts of the functions. No condition. -/
import Derived.Test.YtfkmodcjddfeiaaDoorDi23
set_option linter.unusedVariables false
set_option linter.unusedSimpArgs false
namespace Go.Di
theorem mem1_fn : FnOk PR (mk PR (lookN types) glob 10) 131 (body Proofs.Tryd.f131) [.tmp 4] := ⟨Proofs.Tryd.f131, by kernel_rfl, by kernel_rfl, by kernel_rfl, by kernel_rfl, by kernel_rfl⟩
theorem memA_fn : FnOk PR (mk PR (lookN types) glob 21) 58 (body Proofs.Tryd.f58) [.tmp 4] := ⟨Proofs.Tryd.f58, by kernel_rfl, by kernel_rfl, by kernel_rfl, by kernel_rfl, by kernel_rfl⟩
theorem bef_fn : FnOk PR (mk PR (lookN types) glob 38) 132 (body Proofs.Tryd.f132) [.tmp 4] := ⟨Proofs.Tryd.f132, by kernel_rfl, by kernel_rfl, by kernel_rfl, by kernel_rfl, by kernel_rfl⟩
theorem bet_fn : FnOk PR (mk PR (lookN types) glob 22) 60 (body Proofs.Tryd.f60) [.tmp 4] := ⟨Proofs.Tryd.f60, by kernel_rfl, by kernel_rfl, by kernel_rfl, by kernel_rfl, by kernel_rfl⟩
def memB_S0 (set n : Int) (i : Nat) (y : Int) (r : List Int) : List (Key × Val) :=
 [(.tmp 0, .d (D.int .i64 set)),
  (.tmp 1, .d (D.int .i64 n)),
  (.tmp 5, .d (.own 19 (y :: r).length)),
  (.tmp 6, .d (.int .i64 i)),
  (.obj 19, .ob (some ⟨.int, y :: r⟩))]
def memB_K0 : List Key := [.tmp 0, .tmp 1, .tmp 5, .tmp 6, .obj 19]
def memA_S0 (set n : Int) (i : Nat) : List (Key × Val) :=
 [(.tmp 0, .d (D.int .i64 set)),
  (.tmp 1, .d (D.int .i64 n)),
  (.tmp 5, .d (D.sl true E.int [])),
  (.tmp 6, .d (.int .i64 i)),
  (.obj 19, .ob none)]
def memA_K0 : List Key := [.tmp 0, .tmp 1, .tmp 5, .tmp 6, .obj 19]
def bef_S0 (xs ys : List Int) (i : Nat) : List (Key × Val) :=
 [(.tmp 0, .d (D.sl false E.int xs)),
  (.tmp 1, .d (D.sl false E.int ys)),
  (.tmp 5, .d (.int .i64 i))]
def bef_K0 : List Key := [.tmp 0, .tmp 1, .tmp 5]
theorem memB_0_no (set n : Int) (i : Nat) (y : Int) (r : List Int) (q : Bool) :
  runK (mk PR (lookN types) glob 21) [(10, true), (15, false)] [(15, .bool q)] [] (Code.at [1, 1, 0, 1, 0, 0] (body Proofs.Tryd.f58)) (memB_S0 set n i y r) memB_K0 =
   some ([decide ((i : Int) < n) = true, Contract PR glob 131 [D.int .i64 set, D.int .i64 ((i : Int))] (D.bool q), q = false, inI64 ((i : Int) + (1 : Int))], Ex.normal, [(.tmp 0, .d (D.int .i64 set)), (.tmp 1, .d (D.int .i64 n)), (.tmp 5, .d (D.own 19 (List.length (y :: r)))), (.tmp 6, .d (D.int .i64 ((i : Int) + (1 : Int)))), (.obj 19, .ob (some (Ob.mk E.int (y :: r))))]) := by kernel_rfl
theorem memB_0_yes (set n : Int) (i : Nat) (y : Int) (r : List Int) (q : Bool) :
  runK (mk PR (lookN types) glob 21) [(10, true), (15, true)] [(15, .bool q)] [] (Code.at [1, 1, 0, 1, 0, 0] (body Proofs.Tryd.f58)) (memB_S0 set n i y r) memB_K0 =
   some ([decide ((i : Int) < n) = true, Contract PR glob 131 [D.int .i64 set, D.int .i64 ((i : Int))] (D.bool q), q = true, List.length (y :: r) = List.length ((y :: r)), List.length ((y :: r) ++ [(i : Int)]) * (8 + 1) ≤ 140737488355328, inI64 ((i : Int) + (1 : Int))], Ex.normal, [(.tmp 0, .d (D.int .i64 set)), (.tmp 1, .d (D.int .i64 n)), (.tmp 5, .d (D.own 19 (List.length ((y :: r) ++ [(i : Int)])))), (.tmp 6, .d (D.int .i64 ((i : Int) + (1 : Int)))), (.obj 19, .ob (some (Ob.mk E.int ((y :: r) ++ [(i : Int)]))))]) := by kernel_rfl
theorem memB_0_end (set n : Int) (i : Nat) (y : Int) (r : List Int) :
  runK (mk PR (lookN types) glob 21) [(10, false)] [] [] (Code.at [1, 1, 0, 1, 0, 0] (body Proofs.Tryd.f58)) (memB_S0 set n i y r) memB_K0 =
   some ([decide ((i : Int) < n) = false], Ex.exit 0, [(.tmp 0, .d (D.int .i64 set)), (.tmp 1, .d (D.int .i64 n)), (.tmp 5, .d (D.own 19 (List.length (y :: r)))), (.tmp 6, .d (D.int .i64 ((i : Int)))), (.obj 19, .ob (some (Ob.mk E.int (y :: r))))]) := by kernel_rfl
theorem memA_0_no (set n : Int) (i : Nat) (q : Bool) :
  runK (mk PR (lookN types) glob 21) [(10, true), (15, false)] [(15, .bool q)] [] (Code.at [1, 1, 0, 1, 0, 0] (body Proofs.Tryd.f58)) (memA_S0 set n i) memA_K0 =
   some ([decide ((i : Int) < n) = true, Contract PR glob 131 [D.int .i64 set, D.int .i64 ((i : Int))] (D.bool q), q = false, inI64 ((i : Int) + (1 : Int))], Ex.normal, [(.tmp 0, .d (D.int .i64 set)), (.tmp 1, .d (D.int .i64 n)), (.tmp 5, .d (D.sl true E.int [])), (.tmp 6, .d (D.int .i64 ((i : Int) + (1 : Int)))), (.obj 19, .ob Option.none)]) := by kernel_rfl
theorem memA_0_yes (set n : Int) (i : Nat) (q : Bool) :
  runK (mk PR (lookN types) glob 21) [(10, true), (15, true)] [(15, .bool q)] [] (Code.at [1, 1, 0, 1, 0, 0] (body Proofs.Tryd.f58)) (memA_S0 set n i) memB_K0 =
   some ([decide ((i : Int) < n) = true, Contract PR glob 131 [D.int .i64 set, D.int .i64 ((i : Int))] (D.bool q), q = true, 1 * (8 + 1) ≤ 140737488355328, inI64 ((i : Int) + (1 : Int))], Ex.normal, [(.tmp 0, .d (D.int .i64 set)), (.tmp 1, .d (D.int .i64 n)), (.tmp 5, .d (D.own 19 1)), (.tmp 6, .d (D.int .i64 ((i : Int) + (1 : Int)))), (.obj 19, .ob (some (Ob.mk E.int ([] ++ [(i : Int)]))))]) := by kernel_rfl
theorem memA_0_end (set n : Int) (i : Nat) :
  runK (mk PR (lookN types) glob 21) [(10, false)] [] [] (Code.at [1, 1, 0, 1, 0, 0] (body Proofs.Tryd.f58)) (memA_S0 set n i) memA_K0 =
   some ([decide ((i : Int) < n) = false], Ex.exit 0, [(.tmp 0, .d (D.int .i64 set)), (.tmp 1, .d (D.int .i64 n)), (.tmp 5, .d (D.sl true E.int [])), (.tmp 6, .d (D.int .i64 ((i : Int)))), (.obj 19, .ob Option.none)]) := by kernel_rfl
theorem bef_0_on (xs ys : List Int) (i : Nat) :
  runK (mk PR (lookN types) glob 38) [(12, true), (23, false)] [] [] (Code.at [1, 0, 1, 0, 0] (body Proofs.Tryd.f132)) (bef_S0 xs ys i) bef_K0 =
   some ([decide ((i : Int) < List.foldl mn ((Nat.cast : Nat → Int) (List.length xs)) [(Nat.cast : Nat → Int) (List.length ys)]) = true, (0 : Int) ≤ (i : Int) ∧ (i : Int) < (Nat.cast : Nat → Int) (List.length xs), 0 + 1 ≤ 1, (0 : Int) ≤ (i : Int) ∧ (i : Int) < (Nat.cast : Nat → Int) (List.length ys), 0 + 1 ≤ 1, (List.getD xs (Int.toNat ((i : Int))) (E.z E.int) != List.getD ys (Int.toNat ((i : Int))) (E.z E.int)) = false, inI64 ((i : Int) + (1 : Int))], Ex.normal, [(.tmp 0, .d (D.sl false E.int xs)), (.tmp 1, .d (D.sl false E.int ys)), (.tmp 5, .d (D.int .i64 ((i : Int) + (1 : Int))))]) := by kernel_rfl
theorem bef_0_hit (xs ys : List Int) (i : Nat) :
  runK (mk PR (lookN types) glob 38) [(12, true), (23, true)] [] [] (Code.at [1, 0, 1, 0, 0] (body Proofs.Tryd.f132)) (bef_S0 xs ys i) [.tmp 0, .tmp 1, .tmp 5, .tmp 4] =
   some ([decide ((i : Int) < List.foldl mn ((Nat.cast : Nat → Int) (List.length xs)) [(Nat.cast : Nat → Int) (List.length ys)]) = true, (0 : Int) ≤ (i : Int) ∧ (i : Int) < (Nat.cast : Nat → Int) (List.length xs), 0 + 1 ≤ 1, (0 : Int) ≤ (i : Int) ∧ (i : Int) < (Nat.cast : Nat → Int) (List.length ys), 0 + 1 ≤ 1, (List.getD xs (Int.toNat ((i : Int))) (E.z E.int) != List.getD ys (Int.toNat ((i : Int))) (E.z E.int)) = true, (0 : Int) ≤ (i : Int) ∧ (i : Int) < (Nat.cast : Nat → Int) (List.length xs), 0 + 1 ≤ 1, (0 : Int) ≤ (i : Int) ∧ (i : Int) < (Nat.cast : Nat → Int) (List.length ys), 0 + 1 ≤ 1], Ex.ret, [(.tmp 0, .d (D.sl false E.int xs)), (.tmp 1, .d (D.sl false E.int ys)), (.tmp 5, .d (D.int .i64 ((i : Int)))), (.tmp 4, .d (D.bool (decide (List.getD xs (Int.toNat ((i : Int))) (E.z E.int) < List.getD ys (Int.toNat ((i : Int))) (E.z E.int)))))]) := by kernel_rfl
theorem bef_0_end (xs ys : List Int) (i : Nat) :
  runK (mk PR (lookN types) glob 38) [(12, false)] [] [] (Code.at [1, 0, 1, 0, 0] (body Proofs.Tryd.f132)) (bef_S0 xs ys i) bef_K0 =
   some ([decide ((i : Int) < List.foldl mn ((Nat.cast : Nat → Int) (List.length xs)) [(Nat.cast : Nat → Int) (List.length ys)]) = false], Ex.exit 0, [(.tmp 0, .d (D.sl false E.int xs)), (.tmp 1, .d (D.sl false E.int ys)), (.tmp 5, .d (D.int .i64 ((i : Int))))]) := by kernel_rfl
def bef_T0_hit (xs ys : List Int) (i : Nat)  : List (Key × Val) :=
 [(.tmp 0, .d (D.sl false E.int xs)), (.tmp 1, .d (D.sl false E.int ys)), (.tmp 5, .d (D.int .i64 ((i : Int)))), (.tmp 4, .d (D.bool (decide (List.getD xs (Int.toNat ((i : Int))) (E.z E.int) < List.getD ys (Int.toNat ((i : Int))) (E.z E.int)))))]
theorem mem1_all (set n : Int) :
  callF (mk PR (lookN types) glob 10) [] [] [] (body Proofs.Tryd.f131) [.tmp 4] [.int .i64 set, .int .i64 n] =
   some ([(0 : Int) ≤ n], D.bool (IntKind.wrap .i64 ((Nat.cast : Nat → Int) (BitVec.toNat (BitVec.ofInt 64 (Int.fdiv set ((2 : Int) ^ Min.min (Int.toNat n) 64)) &&& BitVec.ofInt 64 (1 : Int)))) == (1 : Int))) := by kernel_rfl
theorem memA_none (set n : Int) (i : Nat) :
  callF (mk PR (lookN types) glob 21) [] [] [(0, (memA_K0, (.normal, memA_S0 set n i)))] (body Proofs.Tryd.f58) [.tmp 4] [.int .i64 set, .int .i64 n] =
   some ([LoopT PR glob 21 (Code.at [1, 1, 0, 1] (body Proofs.Tryd.f58)) [(.tmp 0, .d (D.int .i64 set)), (.tmp 1, .d (D.int .i64 n)), (.tmp 5, .d (D.sl true E.int [])), (.tmp 6, .d (D.int .i64 (0 : Int))), (.obj 19, .ob Option.none)] Ex.normal (memA_S0 set n i)], D.sl true E.int []) := by kernel_rfl
theorem memA_some (set n : Int) (i : Nat) (y : Int) (r : List Int) :
  callF (mk PR (lookN types) glob 21) [] [] [(0, (memB_K0, (.normal, memB_S0 set n i y r)))] (body Proofs.Tryd.f58) [.tmp 4] [.int .i64 set, .int .i64 n] =
   some ([LoopT PR glob 21 (Code.at [1, 1, 0, 1] (body Proofs.Tryd.f58)) [(.tmp 0, .d (D.int .i64 set)), (.tmp 1, .d (D.int .i64 n)), (.tmp 5, .d (D.sl true E.int [])), (.tmp 6, .d (D.int .i64 (0 : Int))), (.obj 19, .ob Option.none)] Ex.normal (memB_S0 set n i y r), List.length (y :: r) = List.length ((y :: r))], D.sl false E.int ((y :: r))) := by kernel_rfl
theorem bef_hit (xs ys : List Int) (i : Nat) :
  callF (mk PR (lookN types) glob 38) [] [] [(0, (bef_K0, (.ret, bef_T0_hit xs ys i)))] (body Proofs.Tryd.f132) [.tmp 4] [.sl false .int xs, .sl false .int ys] =
   some ([LoopT PR glob 38 (Code.at [1, 0, 1] (body Proofs.Tryd.f132)) [(.tmp 0, .d (D.sl false E.int xs)), (.tmp 1, .d (D.sl false E.int ys)), (.tmp 5, .d (D.int .i64 (0 : Int)))] Ex.ret (bef_T0_hit xs ys i)], D.bool (decide (List.getD xs (Int.toNat ((i : Int))) (E.z E.int) < List.getD ys (Int.toNat ((i : Int))) (E.z E.int)))) := by kernel_rfl
theorem bef_end (xs ys : List Int) (i : Nat) :
  callF (mk PR (lookN types) glob 38) [] [] [(0, (bef_K0, (.normal, bef_S0 xs ys i)))] (body Proofs.Tryd.f132) [.tmp 4] [.sl false .int xs, .sl false .int ys] =
   some ([LoopT PR glob 38 (Code.at [1, 0, 1] (body Proofs.Tryd.f132)) [(.tmp 0, .d (D.sl false E.int xs)), (.tmp 1, .d (D.sl false E.int ys)), (.tmp 5, .d (D.int .i64 (0 : Int)))] Ex.normal (bef_S0 xs ys i)], D.bool (decide ((Nat.cast : Nat → Int) (List.length xs) < (Nat.cast : Nat → Int) (List.length ys)))) := by kernel_rfl
theorem bet_lt (xs ys : List Int) :
  callF (mk PR (lookN types) glob 22) [(10, true)] [] [] (body Proofs.Tryd.f60) [.tmp 4] [.sl false .int xs, .sl false .int ys] =
   some ([decide ((Nat.cast : Nat → Int) (List.length xs) < (Nat.cast : Nat → Int) (List.length ys)) = true, decide ((Nat.cast : Nat → Int) (List.length xs) < (Nat.cast : Nat → Int) (List.length ys)) = true, decide ((Nat.cast : Nat → Int) (List.length xs) < (Nat.cast : Nat → Int) (List.length ys)) = true, decide ((Nat.cast : Nat → Int) (List.length xs) < (Nat.cast : Nat → Int) (List.length ys)) = true, decide ((Nat.cast : Nat → Int) (List.length xs) < (Nat.cast : Nat → Int) (List.length ys)) = true, decide ((Nat.cast : Nat → Int) (List.length xs) < (Nat.cast : Nat → Int) (List.length ys)) = true, decide ((Nat.cast : Nat → Int) (List.length xs) < (Nat.cast : Nat → Int) (List.length ys)) = true, decide ((Nat.cast : Nat → Int) (List.length xs) < (Nat.cast : Nat → Int) (List.length ys)) = true], D.bool true) := by kernel_rfl
theorem bet_ne (xs ys : List Int) :
  callF (mk PR (lookN types) glob 22) [(10, false), (16, false)] [] [] (body Proofs.Tryd.f60) [.tmp 4] [.sl false .int xs, .sl false .int ys] =
   some ([decide ((Nat.cast : Nat → Int) (List.length xs) < (Nat.cast : Nat → Int) (List.length ys)) = false, decide ((Nat.cast : Nat → Int) (List.length xs) < (Nat.cast : Nat → Int) (List.length ys)) = false, decide ((Nat.cast : Nat → Int) (List.length xs) < (Nat.cast : Nat → Int) (List.length ys)) = false, decide ((Nat.cast : Nat → Int) (List.length xs) < (Nat.cast : Nat → Int) (List.length ys)) = false, decide ((Nat.cast : Nat → Int) (List.length xs) < (Nat.cast : Nat → Int) (List.length ys)) = false, decide ((Nat.cast : Nat → Int) (List.length xs) < (Nat.cast : Nat → Int) (List.length ys)) = false, ((Nat.cast : Nat → Int) (List.length xs) == (Nat.cast : Nat → Int) (List.length ys)) = false, ((Nat.cast : Nat → Int) (List.length xs) == (Nat.cast : Nat → Int) (List.length ys)) = false, ((Nat.cast : Nat → Int) (List.length xs) == (Nat.cast : Nat → Int) (List.length ys)) = false, decide ((Nat.cast : Nat → Int) (List.length xs) < (Nat.cast : Nat → Int) (List.length ys)) = false, ((Nat.cast : Nat → Int) (List.length xs) == (Nat.cast : Nat → Int) (List.length ys)) = false, decide ((Nat.cast : Nat → Int) (List.length xs) < (Nat.cast : Nat → Int) (List.length ys)) = false], D.bool false) := by kernel_rfl
theorem bet_eq (xs ys : List Int) (q : Bool) :
  callF (mk PR (lookN types) glob 22) [(10, false), (16, true)] [(19, .bool q)] [] (body Proofs.Tryd.f60) [.tmp 4] [.sl false .int xs, .sl false .int ys] =
   some ([decide ((Nat.cast : Nat → Int) (List.length xs) < (Nat.cast : Nat → Int) (List.length ys)) = false, decide ((Nat.cast : Nat → Int) (List.length xs) < (Nat.cast : Nat → Int) (List.length ys)) = false, decide ((Nat.cast : Nat → Int) (List.length xs) < (Nat.cast : Nat → Int) (List.length ys)) = false, decide ((Nat.cast : Nat → Int) (List.length xs) < (Nat.cast : Nat → Int) (List.length ys)) = false, decide ((Nat.cast : Nat → Int) (List.length xs) < (Nat.cast : Nat → Int) (List.length ys)) = false, decide ((Nat.cast : Nat → Int) (List.length xs) < (Nat.cast : Nat → Int) (List.length ys)) = false, ((Nat.cast : Nat → Int) (List.length xs) == (Nat.cast : Nat → Int) (List.length ys)) = true, ((Nat.cast : Nat → Int) (List.length xs) == (Nat.cast : Nat → Int) (List.length ys)) = true, ((Nat.cast : Nat → Int) (List.length xs) == (Nat.cast : Nat → Int) (List.length ys)) = true, Contract PR glob 132 [D.sl false E.int xs, D.sl false E.int ys] (D.bool q), decide ((Nat.cast : Nat → Int) (List.length xs) < (Nat.cast : Nat → Int) (List.length ys)) = false, ((Nat.cast : Nat → Int) (List.length xs) == (Nat.cast : Nat → Int) (List.length ys)) = true, decide ((Nat.cast : Nat → Int) (List.length xs) < (Nat.cast : Nat → Int) (List.length ys)) = false], D.bool q) := by kernel_rfl
end Go.Di

namespace Go.Di

/-! ### A book without some of its surveys -/
/-! ### Small numbers of a set -/
def memQ (set n : Int) : Bool := (IntKind.i64.wrap ((BitVec.ofInt 64 (set.fdiv (2 ^ min n.toNat 64)) &&& BitVec.ofInt 64 1).toNat : Int)) == 1
theorem mem1_con (set n : Int) (hn : 0 ≤ n) : Contract PR glob 131 [.int .i64 set, .int .i64 n] (.bool (memQ set n)) :=
 contract_of_path (G 10) mem1_fn (mem1_all set n) ⟨hn, trivial⟩
def membTo (set : Int) : Nat → List Int
 | 0 => []
 | i + 1 => if memQ set i = true then membTo set i ++ [(i : Int)] else membTo set i
theorem membTo_up (set : Int) : ∀ n : Nat, Up n 0 (membTo set n)
 | 0 => trivial
 | n + 1 => by
  have ih := membTo_up set n
  simp only [membTo]
  split
  ·exact Up.snoc (Int.le_refl _) (by omega) (by omega) ih (by omega)
  ·exact Up.mono (by omega) ih
theorem membTo_len (set : Int) (n : Nat) : (membTo set n).length ≤ n := by
 have := (membTo_up set n).len (by omega)
 omega
def mbS (set n : Int) (i : Nat) : List Int → List (Key × Val)
 | [] => memA_S0 set n i
 | y :: r => memB_S0 set n i y r
theorem mb_round (set : Int) (n i : Nat) (o : List Int) (hi : i < n) (hn : n ≤ 1000) (hsz : o.length ≤ 1000) :
  WpL PR (mk PR (lookN types) glob 21) (Code.at [1, 1, 0, 1, 0, 0] (body Proofs.Tryd.f58)) (mbS set n i o) fun e1 L1 => e1 = .normal ∧ L1 = mbS set n (i + 1) (if memQ set i = true then o ++ [(i : Int)] else o) := by
 have hm := mem1_con set i (by omega)
 have hlt : decide ((i : Int) < (n : Int)) = true := decide_eq_true (by omega)
 have hi64 : inI64 ((i : Int) + 1) := by simp only [inI64]; omega
 cases hq : memQ set i with
 | false =>
  rw [hq] at hm
  rw [if_neg (by decide)]
  cases o with
  | nil =>
   refine WpL.path (G 21) (memA_0_no set n i false) ?_ ⟨rfl, rfl⟩
   repeat (first | exact trivial | refine ⟨by first | exact hlt | exact hm | exact hi64 | rfl | omega, ?_⟩)
  | cons y r =>
   refine WpL.path (G 21) (memB_0_no set n i y r false) ?_ ⟨rfl, rfl⟩
   repeat (first | exact trivial | refine ⟨by first | exact hlt | exact hm | exact hi64 | rfl | omega, ?_⟩)
 | true =>
  rw [hq] at hm
  rw [if_pos rfl]
  cases o with
  | nil =>
   refine WpL.path (G 21) (memA_0_yes set n i true) ?_ ⟨rfl, rfl⟩
   repeat (first | exact trivial | refine ⟨by first | exact hlt | exact hm | exact hi64 | rfl | omega | (simp; omega), ?_⟩)
  | cons y r =>
   have hz : (y :: r ++ [(i : Int)]).length * (8 + 1) ≤ 140737488355328 := by simp only [List.length_append, List.length_cons, List.length_nil] at hsz ⊢; omega
   refine WpL.path (G 21) (memB_0_yes set n i y r true) ?_ ⟨rfl, rfl⟩
   repeat (first | exact trivial | refine ⟨by first | exact hlt | exact hm | exact hi64 | exact hz | rfl | omega, ?_⟩)
theorem mb_loop (set : Int) (n : Nat) (hn : n ≤ 1000) :
  LoopT PR glob 21 (Code.at [1, 1, 0, 1] (body Proofs.Tryd.f58)) (mbS set n 0 []) .normal (mbS set n n (membTo set n)) := by
 refine LoopT.count (tt := lookN types) (id := 0) (c := Code.at [1, 1, 0, 1, 0, 0] (body Proofs.Tryd.f58)) (by kernel_rfl) n (fun i => mbS set n i (membTo set i)) (fun i hi => ?_) ?_
 ·have := membTo_len set i
  exact mb_round set n i _ hi hn (by omega)
 ·cases membTo set n with
  | nil => exact WpL.path (G 21) (memA_0_end set n _) ⟨decide_eq_false (Int.lt_irrefl _), trivial⟩ ⟨.inl ⟨rfl, rfl⟩, rfl⟩
  | cons y r => exact WpL.path (G 21) (memB_0_end set n _ y r) ⟨decide_eq_false (Int.lt_irrefl _), trivial⟩ ⟨.inl ⟨rfl, rfl⟩, rfl⟩
theorem members_con (set : Int) (n : Nat) (hn : n ≤ 1000) : Contract PR glob 58 [.int .i64 set, .int .i64 (n : Int)] (.sl false .int (membTo set n)) := by
 have hloop := mb_loop set n hn
 cases hw : membTo set n with
 | nil =>
  rw [hw] at hloop
  refine (contract_of_path (G 21) memA_fn (memA_none set n n) ?_).toWeak
  repeat (first | exact trivial | refine ⟨by first | exact hloop | rfl | omega, ?_⟩)
 | cons y r =>
  rw [hw] at hloop
  refine (contract_of_path (G 21) memA_fn (memA_some set n n y r) ?_).toWeak
  repeat (first | exact trivial | refine ⟨by first | exact hloop | rfl | omega, ?_⟩)

/-! ### Which list is the better one -/
theorem before_at : ∀ (xs ys : List Int) (k : Nat), k < xs.length → k < ys.length → (∀ i < k, xs.getD i 0 = ys.getD i 0) → xs.getD k 0 ≠ ys.getD k 0 → beforeF xs ys = decide (xs.getD k 0 < ys.getD k 0)
 | a :: xs, b :: ys, 0, _, _, _, hne => by
  have hne' : a ≠ b := hne
  simp only [beforeF, List.getD_cons_zero]
  rw [if_neg hne']
 | a :: xs, b :: ys, k + 1, h1, h2, he, hne => by
  have e0 : a = b := he 0 (by omega)
  simp only [beforeF]
  rw [if_pos e0]
  simp only [List.getD_cons_succ] at hne ⊢
  exact before_at xs ys k (by simpa using h1) (by simpa using h2) (fun i hi => by have := he (i + 1) (by omega); simpa using this) hne
theorem before_end : ∀ (xs ys : List Int), (∀ i, i < xs.length → i < ys.length → xs.getD i 0 = ys.getD i 0) → beforeF xs ys = decide ((xs.length : Int) < (ys.length : Int))
 | [], [], _ => by simp [beforeF]
 | [], _ :: _, _ => by
  simp only [beforeF, List.length_nil, List.length_cons]
  exact (decide_eq_true (by omega)).symm
 | _ :: _, [], _ => by
  simp only [beforeF, List.length_nil, List.length_cons]
  exact (decide_eq_false (by omega)).symm
 | a :: xs, b :: ys, h => by
  have e0 : a = b := h 0 (by simp) (by simp)
  simp only [beforeF]
  rw [if_pos e0, before_end xs ys fun i h1 h2 => by have := h (i + 1) (by simpa using h1) (by simpa using h2); simpa using this]
  rw [decide_eq_decide]
  simp only [List.length_cons]
  omega
theorem before_con (xs ys : List Int) (hx : xs.length ≤ 1000) (hy : ys.length ≤ 1000) : Contract PR glob 132 [.sl false .int xs, .sl false .int ys] (.bool (beforeF xs ys)) := by
 have hb : Code.at [1, 0, 1] (body Proofs.Tryd.f132) = .block 0 (.loop (Code.at [1, 0, 1, 0, 0] (body Proofs.Tryd.f132))) := by kernel_rfl
 obtain ⟨m, hm, hmx, hmy, hmm⟩ : ∃ m : Nat, mn (xs.length : Int) (ys.length : Int) = m ∧ m ≤ xs.length ∧ m ≤ ys.length ∧ ∀ i, i < xs.length → i < ys.length → i < m := by
  refine ⟨min xs.length ys.length, ?_, by omega, by omega, fun i h1 h2 => by omega⟩
  unfold mn
  split <;> omega
 have hlt : ∀ i : Nat, i < m → decide ((i : Int) < mn (xs.length : Int) (ys.length : Int)) = true := fun i hi => decide_eq_true (by omega)
 have hon : ∀ k, k ≤ m → (∀ i < k, (xs.getD i 0 != ys.getD i 0) = false) → ∀ i, i < k → WpL PR (mk PR (lookN types) glob 38) (Code.at [1, 0, 1, 0, 0] (body Proofs.Tryd.f132)) (bef_S0 xs ys i) fun e1 L1 => e1 = .normal ∧ L1 = bef_S0 xs ys (i + 1) := fun k hk h i hi => by
  have h1 := hlt i (by omega)
  have h2 := h i hi
  refine WpL.path (G 38) (bef_0_on xs ys i) ?_ ⟨rfl, rfl⟩
  repeat (first | exact trivial | refine ⟨by first | exact h1 | exact h2 | omega | (simp only [inI64]; omega), ?_⟩)
 rcases find_first (fun i => xs.getD i 0 != ys.getD i 0) m with ⟨k, h1, h2, h3⟩ | h
 ·rw [before_at xs ys k (by omega) (by omega) (fun i hi => by simpa using h3 i hi) (by simpa using h2)]
  have h1' := hlt k h1
  refine contract_of_path (G 38) bef_fn (bef_hit xs ys k) ⟨LoopT.count (tt := lookN types) hb k (bef_S0 xs ys) (hon k (by omega) h3) (WpL.path (G 38) (bef_0_hit xs ys k) ?_ ⟨.inr ⟨rfl, rfl⟩, rfl⟩), trivial⟩
  repeat (first | exact trivial | refine ⟨by first | exact h1' | exact h2 | omega, ?_⟩)
 ·rw [before_end xs ys fun i h1 h2 => by have := h i (hmm i h1 h2); simpa using this]
  have h1' : decide ((m : Int) < mn (xs.length : Int) (ys.length : Int)) = false := decide_eq_false (by omega)
  exact contract_of_path (G 38) bef_fn (bef_end xs ys m) ⟨LoopT.count (tt := lookN types) hb m (bef_S0 xs ys) (hon _ (Nat.le_refl _) h) (WpL.path (G 38) (bef_0_end xs ys _) ⟨h1', trivial⟩ ⟨.inl ⟨rfl, rfl⟩, rfl⟩), trivial⟩
theorem better_con (xs ys : List Int) (hx : xs.length ≤ 1000) (hy : ys.length ≤ 1000) : Contract PR glob 60 [.sl false .int xs, .sl false .int ys] (.bool (betterF xs ys)) := by
 unfold betterF
 by_cases h1 : xs.length < ys.length
 ·have d1 : decide ((xs.length : Int) < (ys.length : Int)) = true := decide_eq_true (by omega)
  rw [decide_eq_true h1, Bool.true_or]
  refine contract_of_path (G 22) bet_fn (bet_lt xs ys) ?_
  repeat (first | exact trivial | refine ⟨by first | exact d1 | rfl | omega, ?_⟩)
 ·have d1 : decide ((xs.length : Int) < (ys.length : Int)) = false := decide_eq_false (by omega)
  rw [decide_eq_false h1, Bool.false_or]
  by_cases h2 : xs.length = ys.length
  ·have d2 : ((xs.length : Int) == (ys.length : Int)) = true := by rw [h2]; simp
   have hb := before_con xs ys hx hy
   rw [decide_eq_true h2, Bool.true_and]
   refine contract_of_path (G 22) bet_fn (bet_eq xs ys (beforeF xs ys)) ?_
   repeat (first | exact trivial | refine ⟨by first | exact d1 | exact d2 | exact hb | rfl | omega, ?_⟩)
  ·have d2 : ((xs.length : Int) == (ys.length : Int)) = false := by
    rw [beq_eq_false_iff_ne]; omega
   rw [decide_eq_false h2, Bool.false_and]
   refine contract_of_path (G 22) bet_fn (bet_ne xs ys) ?_
   repeat (first | exact trivial | refine ⟨by first | exact d1 | exact d2 | rfl | omega, ?_⟩)

/-! ### The law ChainWrong -/
end Go.Di

namespace Go.Di

/-! ### A book with a turn more -/
def sel (p : Int → Bool) : Nat → List Int
 | 0 => []
 | i + 1 => if p ((i : Int) + 1) = true then sel p i ++ [(i : Int) + 1] else sel p i
theorem sel_mem (p : Int → Bool) : ∀ (n : Nat) (x : Int), x ∈ sel p n ↔ 1 ≤ x ∧ x ≤ n ∧ p x = true
 | 0, x => by simp only [sel, List.not_mem_nil, false_iff]; omega
 | n + 1, x => by
  have ih := sel_mem p n x
  simp only [sel]
  by_cases h : p ((n : Int) + 1) = true
  ·rw [if_pos h, List.mem_append, ih, List.mem_singleton]
   constructor
   ·rintro (⟨h1, h2, h3⟩ | rfl)
    ·exact ⟨h1, by omega, h3⟩
    ·exact ⟨by omega, by omega, h⟩
   ·rintro ⟨h1, h2, h3⟩
    by_cases e : x = n + 1
    ·exact .inr e
    ·exact .inl ⟨h1, by omega, h3⟩
  ·rw [if_neg h, ih]
   constructor
   ·rintro ⟨h1, h2, h3⟩
    exact ⟨h1, by omega, h3⟩
   ·rintro ⟨h1, h2, h3⟩
    refine ⟨h1, ?_, h3⟩
    by_cases e : x = n + 1
    ·subst e; exact absurd h3 h
    ·omega
theorem sel_up (p : Int → Bool) : ∀ n : Nat, Up ((n : Int) + 1) 1 (sel p n)
 | 0 => trivial
 | n + 1 => by
  have ih := sel_up p n
  simp only [sel]
  split
  ·exact Up.snoc (Int.le_refl _) (by omega) (by omega) ih (by omega)
  ·exact Up.mono (by omega) ih
theorem sel_len (p : Int → Bool) : ∀ n : Nat, (sel p n).length ≤ n
 | 0 => by simp [sel]
 | n + 1 => by
  have ih := sel_len p n
  simp only [sel]
  split
  ·simp only [List.length_append, List.length_singleton]; omega
  ·omega
theorem up_same {n : Int} : ∀ {l m : List Int} {a : Int}, Up n a l → Up n a m → (∀ x, x ∈ l ↔ x ∈ m) → l = m
 | [], [], _, _, _, _ => rfl
 | [], y :: m, _, _, _, h => by have := (h y).2 (by simp); cases this
 | x :: l, [], _, _, _, h => by have := (h x).1 (by simp); cases this
 | x :: l, y :: m, a, ⟨h1, h2, h3⟩, ⟨g1, g2, g3⟩, h => by
  have e : x = y := by
   have q1 := (h x).1 (by simp)
   have q2 := (h y).2 (by simp)
   rcases List.mem_cons.1 q1 with e | q1
   ·exact e
   ·rcases List.mem_cons.1 q2 with e | q2
    ·exact e.symm
    ·have := (g3.mem q1).1
     have := (h3.mem q2).1
     omega
  subst e
  congr 1
  refine up_same h3 g3 fun z => ?_
  have hz := h z
  simp only [List.mem_cons] at hz
  constructor
  ·intro q
   have := (h3.mem q).1
   rcases hz.1 (.inr q) with e | e
   ·omega
   ·exact e
  ·intro q
   have := (g3.mem q).1
   rcases hz.2 (.inr q) with e | e
   ·omega
   ·exact e
theorem rises_up {days : Int} : ∀ (l : List Int) (a : Int), (l.foldl (turnF days) (true, a)).1 = true ↔ Up (days + 1) (a + 1) l
 | [], a => by simp [Up]
 | t :: l, a => by
  have ih := rises_up (days := days) l t
  simp only [List.foldl_cons, turnF, Up]
  rw [turns_and, Bool.and_eq_true, ih, Bool.true_and, within_iff]
  constructor
  ·rintro ⟨⟨h1, h2⟩, h3⟩; exact ⟨h1, by omega, h3⟩
  ·rintro ⟨h1, h2, h3⟩; exact ⟨⟨h1, by omega⟩, h3⟩
def withP (b : Book) (day : Int) (d : Int) : Bool := (d == day) || decide (d ∈ b.turns)
def withF (b : Book) (day : Int) : Book := ⟨b.secs, sel (withP b day) b.days.toNat, b.svs, b.rule, b.days⟩
theorem Valid.up {b : Book} (hV : Valid b) : Up (b.days + 1) 1 b.turns := by
 have := hV.rises
 unfold risesF at this
 rw [rises_up] at this
 exact this
theorem flips_sel (p : Int → Bool) (d : Int) (k : Nat) : flips (sel p (k + 1)) d = Bool.xor (flips (sel p k) d) (p ((k : Int) + 1) && decide ((k : Int) + 1 ≤ d)) := by
 simp only [sel]
 by_cases h : p ((k : Int) + 1) = true
 ·rw [if_pos h, flips_append, flips_one, h, Bool.true_and]
 ·rw [if_neg h]
  have : p ((k : Int) + 1) = false := by simpa using h
  rw [this]; simp
theorem flips_with {b : Book} {day : Int} (hn : day ∉ b.turns) (d : Int) : ∀ k : Nat, flips (sel (withP b day) k) d = Bool.xor (flips (sel (fun e => decide (e ∈ b.turns)) k) d) (decide (1 ≤ day ∧ day ≤ k ∧ day ≤ d))
 | 0 => by
  rw [decide_eq_false (by omega)]
  simp [sel]
 | k + 1 => by
  rw [flips_sel, flips_sel, flips_with hn d k]
  by_cases e : (k : Int) + 1 = day
  ·have p1 : withP b day ((k : Int) + 1) = true := by unfold withP; rw [e]; simp
   have p2 : decide ((k : Int) + 1 ∈ b.turns) = false := decide_eq_false (by rw [e]; exact hn)
   rw [p1, p2, decide_eq_false (p := 1 ≤ day ∧ day ≤ k ∧ day ≤ d) (by omega)]
   have : decide ((k : Int) + 1 ≤ d) = decide (1 ≤ day ∧ day ≤ ((k + 1 : Nat) : Int) ∧ day ≤ d) := by
    rw [decide_eq_decide]; omega
   rw [this]
   simp
  ·have p1 : withP b day ((k : Int) + 1) = decide ((k : Int) + 1 ∈ b.turns) := by
    unfold withP
    rw [show ((k : Int) + 1 == day) = false by simpa using e]
    simp
   have : decide (1 ≤ day ∧ day ≤ (k : Int) ∧ day ≤ d) = decide (1 ≤ day ∧ day ≤ ((k + 1 : Nat) : Int) ∧ day ≤ d) := by
    rw [decide_eq_decide]; omega
   rw [p1, this]
   simp only [Bool.xor_assoc]
   congr 1
   exact Bool.xor_comm _ _
theorem sel_turns {b : Book} (hV : Valid b) : sel (fun e => decide (e ∈ b.turns)) b.days.toNat = b.turns := by
 have hdd := hV.days
 have hu := sel_up (fun e => decide (e ∈ b.turns)) b.days.toNat
 rw [show ((b.days.toNat : Nat) : Int) = b.days by omega] at hu
 refine up_same hu hV.up fun x => ?_
 rw [sel_mem, decide_eq_true_eq]
 constructor
 ·exact fun h => h.2.2
 ·intro h
  have := hV.up.mem h
  exact ⟨by omega, by omega, h⟩
/-- The chain lies alike, with a turn more in its place or at the end of the list. -/
theorem flips_more {b : Book} (hV : Valid b) {day : Int} (hd : 1 ≤ day ∧ day ≤ b.days) (hn : day ∉ b.turns) (d : Int) : flips (withF b day).turns d = flips (b.turns ++ [day]) d ∧ (d < day → flips (withF b day).turns d = flips b.turns d) := by
 have hdd := hV.days
 have e : flips (withF b day).turns d = Bool.xor (flips b.turns d) (decide (1 ≤ day ∧ day ≤ b.days ∧ day ≤ d)) := by
  have := flips_with hn d b.days.toNat
  rw [sel_turns hV, show ((b.days.toNat : Nat) : Int) = b.days by omega] at this
  exact this
 constructor
 ·rw [e, flips_append, flips_one]
  congr 1
  rw [decide_eq_decide]
  omega
 ·intro h
  rw [e, decide_eq_false (by omega)]
  simp
/-! ### The turn that is told -/
end Go.Di

