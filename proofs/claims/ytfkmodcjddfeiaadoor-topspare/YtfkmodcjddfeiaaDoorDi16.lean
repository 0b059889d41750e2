/- Part 16: an interpreter over plain data for this code, with the proof that it says what the model does, and the contracts of the functions. No condition. -/
import Derived.Test.YtfkmodcjddfeiaaDoorDi15
set_option linter.unusedVariables false
set_option linter.unusedSimpArgs false
namespace Go.Di
open Proofs
theorem cutA_fn : FnOk PR (mk PR (lookN types) glob 49) 40 (body Tryd.f40) [.tmp 4,.tmp 5] := by refine ⟨Tryd.f40,?_,?_,?_,?_,?_⟩ <;> kernel_rfl
def cutB_S0 (b : Book) (d : Int) (m : Mp) (ts : List TrC) (i : Nat) (y : Int) (r : List Int) : List (Key × Val) :=
 [(.tmp 1,.d (D.int .i64 d)),
  (.tmp 2,.d (D.ptr 2 0)),
  (.tmp 6,.d (D.ptr 6 0)),
  (.tmp 8,.d (.own 41 (y :: r).length)),
  (.tmp 23,.d (D.int .i64 (((List.length (Book.secs b) : Nat) : Int)))),
  (.tmp 24,.d (.int .i64 i)),
  (.box 2,.bx (some (Box.mk false (cellsOf (bookD b))))),
  (.box 6,.bx (some (Box.mk false (cellsOf (bkD b m ts))))),
  (.obj 41,.ob (some ⟨.int,y :: r⟩))]
def cutB_K0 : List Key := [.tmp 1,.tmp 2,.tmp 6,.tmp 8,.tmp 23,.tmp 24,.box 2,.box 6,.obj 41]
def cutA_S0 (b : Book) (d : Int) (m : Mp) (ts : List TrC) (i : Nat) : List (Key × Val) :=
 [(.tmp 1,.d (D.int .i64 d)),
  (.tmp 2,.d (D.ptr 2 0)),
  (.tmp 6,.d (D.ptr 6 0)),
  (.tmp 8,.d (D.sl true E.int [])),
  (.tmp 23,.d (D.int .i64 (((List.length (Book.secs b) : Nat) : Int)))),
  (.tmp 24,.d (.int .i64 i)),
  (.box 2,.bx (some (Box.mk false (cellsOf (bookD b))))),
  (.box 6,.bx (some (Box.mk false (cellsOf (bkD b m ts))))),
  (.obj 41,.ob none)]
def cutA_K0 : List Key := [.tmp 1,.tmp 2,.tmp 6,.tmp 8,.tmp 23,.tmp 24,.box 2,.box 6,.obj 41]
theorem cutB_0_no (b : Book) (d : Int) (m : Mp) (ts : List TrC) (i : Nat) (y : Int) (r : List Int) (o : Span) (t : Bool) :
  runK (mk PR (lookN types) glob 49) [(25,true),(37,false)] [(34,spD o),(37,.bool t)] [] (Code.at [1,1,1,1,0,1,0,0] (body Tryd.f40)) (cutB_S0 b d m ts i y r) cutB_K0 =
   some ([decide ((i : Int) < ((List.length (Book.secs b) : Nat) : Int)) = true,(0 : Int) ≤ (0 : Int) ∧ (0 : Int) < (Nat.cast : Nat → Int) 2,Contract PR glob 123 [bkD b m ts,D.int .i64 ((i : Int)),D.int .i64 d,D.sl false E.int (Book.turns b)] (D.agg [D.int .i64 (Span.lo o),D.int .i64 (Span.hi o)]),Contract PR glob 223 [D.agg [D.int .i64 (Span.lo o),D.int .i64 (Span.hi o)],D.int .i64 (Book.rule b)] (D.bool t),t = false,inI64 ((i : Int) + (1 : Int))],Ex.normal,[(.tmp 1,.d (D.int .i64 d)),(.tmp 2,.d (D.ptr 2 0)),(.tmp 6,.d (D.ptr 6 0)),(.tmp 8,.d (D.own 41 (List.length (y :: r)))),(.tmp 23,.d (D.int .i64 (((List.length (Book.secs b) : Nat) : Int)))),(.tmp 24,.d (D.int .i64 ((i : Int) + (1 : Int)))),(.box 2,.bx (some (Box.mk false (cellsOf (bookD b))))),(.box 6,.bx (some (Box.mk false (cellsOf (bkD b m ts))))),(.obj 41,.ob (some (Ob.mk E.int (y :: r))))]) := by kernel_rfl
theorem cutB_0_yes (b : Book) (d : Int) (m : Mp) (ts : List TrC) (i : Nat) (y : Int) (r : List Int) (o : Span) (t : Bool) :
  runK (mk PR (lookN types) glob 49) [(25,true),(37,true)] [(34,spD o),(37,.bool t)] [] (Code.at [1,1,1,1,0,1,0,0] (body Tryd.f40)) (cutB_S0 b d m ts i y r) cutB_K0 =
   some ([decide ((i : Int) < ((List.length (Book.secs b) : Nat) : Int)) = true,(0 : Int) ≤ (0 : Int) ∧ (0 : Int) < (Nat.cast : Nat → Int) 2,Contract PR glob 123 [bkD b m ts,D.int .i64 ((i : Int)),D.int .i64 d,D.sl false E.int (Book.turns b)] (D.agg [D.int .i64 (Span.lo o),D.int .i64 (Span.hi o)]),Contract PR glob 223 [D.agg [D.int .i64 (Span.lo o),D.int .i64 (Span.hi o)],D.int .i64 (Book.rule b)] (D.bool t),t = true,List.length (y :: r) = List.length ((y :: r)),List.length ((y :: r) ++ [(i : Int)]) * (8 + 1) ≤ 140737488355328,inI64 ((i : Int) + (1 : Int))],Ex.normal,[(.tmp 1,.d (D.int .i64 d)),(.tmp 2,.d (D.ptr 2 0)),(.tmp 6,.d (D.ptr 6 0)),(.tmp 8,.d (D.own 41 (List.length ((y :: r) ++ [(i : Int)])))),(.tmp 23,.d (D.int .i64 (((List.length (Book.secs b) : Nat) : Int)))),(.tmp 24,.d (D.int .i64 ((i : Int) + (1 : Int)))),(.box 2,.bx (some (Box.mk false (cellsOf (bookD b))))),(.box 6,.bx (some (Box.mk false (cellsOf (bkD b m ts))))),(.obj 41,.ob (some (Ob.mk E.int ((y :: r) ++ [(i : Int)]))))]) := by kernel_rfl
theorem cutB_0_end (b : Book) (d : Int) (m : Mp) (ts : List TrC) (i : Nat) (y : Int) (r : List Int) :
  runK (mk PR (lookN types) glob 49) [(25,false)] [] [] (Code.at [1,1,1,1,0,1,0,0] (body Tryd.f40)) (cutB_S0 b d m ts i y r) cutB_K0 =
   some ([decide ((i : Int) < ((List.length (Book.secs b) : Nat) : Int)) = false],Ex.exit 0,[(.tmp 1,.d (D.int .i64 d)),(.tmp 2,.d (D.ptr 2 0)),(.tmp 6,.d (D.ptr 6 0)),(.tmp 8,.d (D.own 41 (List.length (y :: r)))),(.tmp 23,.d (D.int .i64 (((List.length (Book.secs b) : Nat) : Int)))),(.tmp 24,.d (D.int .i64 ((i : Int)))),(.box 2,.bx (some (Box.mk false (cellsOf (bookD b))))),(.box 6,.bx (some (Box.mk false (cellsOf (bkD b m ts))))),(.obj 41,.ob (some (Ob.mk E.int (y :: r))))]) := by kernel_rfl
theorem cutA_0_no (b : Book) (d : Int) (m : Mp) (ts : List TrC) (i : Nat) (o : Span) (t : Bool) :
  runK (mk PR (lookN types) glob 49) [(25,true),(37,false)] [(34,spD o),(37,.bool t)] [] (Code.at [1,1,1,1,0,1,0,0] (body Tryd.f40)) (cutA_S0 b d m ts i) cutA_K0 =
   some ([decide ((i : Int) < ((List.length (Book.secs b) : Nat) : Int)) = true,(0 : Int) ≤ (0 : Int) ∧ (0 : Int) < (Nat.cast : Nat → Int) 2,Contract PR glob 123 [bkD b m ts,D.int .i64 ((i : Int)),D.int .i64 d,D.sl false E.int (Book.turns b)] (D.agg [D.int .i64 (Span.lo o),D.int .i64 (Span.hi o)]),Contract PR glob 223 [D.agg [D.int .i64 (Span.lo o),D.int .i64 (Span.hi o)],D.int .i64 (Book.rule b)] (D.bool t),t = false,inI64 ((i : Int) + (1 : Int))],Ex.normal,[(.tmp 1,.d (D.int .i64 d)),(.tmp 2,.d (D.ptr 2 0)),(.tmp 6,.d (D.ptr 6 0)),(.tmp 8,.d (D.sl true E.int [])),(.tmp 23,.d (D.int .i64 (((List.length (Book.secs b) : Nat) : Int)))),(.tmp 24,.d (D.int .i64 ((i : Int) + (1 : Int)))),(.box 2,.bx (some (Box.mk false (cellsOf (bookD b))))),(.box 6,.bx (some (Box.mk false (cellsOf (bkD b m ts))))),(.obj 41,.ob Option.none)]) := by kernel_rfl
theorem cutA_0_yes (b : Book) (d : Int) (m : Mp) (ts : List TrC) (i : Nat) (o : Span) (t : Bool) :
  runK (mk PR (lookN types) glob 49) [(25,true),(37,true)] [(34,spD o),(37,.bool t)] [] (Code.at [1,1,1,1,0,1,0,0] (body Tryd.f40)) (cutA_S0 b d m ts i) cutB_K0 =
   some ([decide ((i : Int) < ((List.length (Book.secs b) : Nat) : Int)) = true,(0 : Int) ≤ (0 : Int) ∧ (0 : Int) < (Nat.cast : Nat → Int) 2,Contract PR glob 123 [bkD b m ts,D.int .i64 ((i : Int)),D.int .i64 d,D.sl false E.int (Book.turns b)] (D.agg [D.int .i64 (Span.lo o),D.int .i64 (Span.hi o)]),Contract PR glob 223 [D.agg [D.int .i64 (Span.lo o),D.int .i64 (Span.hi o)],D.int .i64 (Book.rule b)] (D.bool t),t = true,1 * (8 + 1) ≤ 140737488355328,inI64 ((i : Int) + (1 : Int))],Ex.normal,[(.tmp 1,.d (D.int .i64 d)),(.tmp 2,.d (D.ptr 2 0)),(.tmp 6,.d (D.ptr 6 0)),(.tmp 8,.d (D.own 41 1)),(.tmp 23,.d (D.int .i64 (((List.length (Book.secs b) : Nat) : Int)))),(.tmp 24,.d (D.int .i64 ((i : Int) + (1 : Int)))),(.box 2,.bx (some (Box.mk false (cellsOf (bookD b))))),(.box 6,.bx (some (Box.mk false (cellsOf (bkD b m ts))))),(.obj 41,.ob (some (Ob.mk E.int ([] ++ [(i : Int)]))))]) := by kernel_rfl
theorem cutA_0_end (b : Book) (d : Int) (m : Mp) (ts : List TrC) (i : Nat) :
  runK (mk PR (lookN types) glob 49) [(25,false)] [] [] (Code.at [1,1,1,1,0,1,0,0] (body Tryd.f40)) (cutA_S0 b d m ts i) cutA_K0 =
   some ([decide ((i : Int) < ((List.length (Book.secs b) : Nat) : Int)) = false],Ex.exit 0,[(.tmp 1,.d (D.int .i64 d)),(.tmp 2,.d (D.ptr 2 0)),(.tmp 6,.d (D.ptr 6 0)),(.tmp 8,.d (D.sl true E.int [])),(.tmp 23,.d (D.int .i64 (((List.length (Book.secs b) : Nat) : Int)))),(.tmp 24,.d (D.int .i64 ((i : Int)))),(.box 2,.bx (some (Box.mk false (cellsOf (bookD b))))),(.box 6,.bx (some (Box.mk false (cellsOf (bkD b m ts))))),(.obj 41,.ob Option.none)]) := by kernel_rfl
theorem cutA_err (b : Book) (d : Int) (e : Int) :
  callF (mk PR (lookN types) glob 49) [(19,true)] [(14,.bool (isDayF b d)),(15,.tup [zbookD,.int .i64 e])] [] (body Tryd.f40) [.tmp 4,.tmp 5] [bookD b,.int .i64 d] =
   some ([Contract PR glob 122 [bookD b,D.int .i64 d] (D.bool (isDayF b d)),Contract PR glob 121 [bookD b,D.bool (isDayF b d)] (D.tup [D.agg [D.nil,D.nil,D.nil,D.int .i64 0,D.int .i64 0,D.nilmap,D.nil],D.int .i64 e]),(e != (0 : Int)) = true],D.tup [D.sl true E.int [],D.int .i64 e]) := by kernel_rfl
theorem cutA_false (b : Book) (d : Int) (m : Mp) :
  callF (mk PR (lookN types) glob 49) [] [(14,.bool (isDayF b d)),(15,.tup [bkD b m [],.int .i64 12])] [] (body Tryd.f40) [.tmp 4,.tmp 5] [bookD b,.int .i64 d] =
   some ([Contract PR glob 122 [bookD b,D.int .i64 d] (D.bool (isDayF b d)),Contract PR glob 121 [bookD b,D.bool (isDayF b d)] (D.tup [bkD b m [],D.int .i64 12])],D.tup [D.sl true E.int [],D.int .i64 12]) := by kernel_rfl
theorem cutA_none (b : Book) (d : Int) (m : Mp) (ts : List TrC) (i : Nat) :
  callF (mk PR (lookN types) glob 49) [] [(14,.bool (isDayF b d)),(15,.tup [bkD b m ts,.int .i64 0])] [(0,(cutA_K0,(.normal,cutA_S0 b d m ts i)))] (body Tryd.f40) [.tmp 4,.tmp 5] [bookD b,.int .i64 d] =
   some ([Contract PR glob 122 [bookD b,D.int .i64 d] (D.bool (isDayF b d)),Contract PR glob 121 [bookD b,D.bool (isDayF b d)] (D.tup [bkD b m ts,D.int .i64 0]),LoopT PR glob 49 (Code.at [1,1,1,1,0,1] (body Tryd.f40)) [(.tmp 1,.d (D.int .i64 d)),(.tmp 2,.d (D.ptr 2 0)),(.tmp 6,.d (D.ptr 6 0)),(.tmp 8,.d (D.sl true E.int [])),(.tmp 23,.d (D.int .i64 (((List.length (Book.secs b) : Nat) : Int)))),(.tmp 24,.d (D.int .i64 0)),(.box 2,.bx (some (Box.mk false (cellsOf (bookD b))))),(.box 6,.bx (some (Box.mk false (cellsOf (bkD b m ts))))),(.obj 41,.ob Option.none)] Ex.normal (cutA_S0 b d m ts i),(0 : Int) ≤ (0 : Int) ∧ (0 : Int) ≤ (Nat.cast : Nat → Int) 0 ∧ (Nat.cast : Nat → Int) 0 ≤ (Nat.cast : Nat → Int) 0 ∧ (Nat.cast : Nat → Int) 0 = (Nat.cast : Nat → Int) 0],D.tup [D.sl true E.int (List.drop (Int.toNat (0 : Int)) (List.take (Int.toNat ((Nat.cast : Nat → Int) 0)) [])),D.int .i64 0]) := by kernel_rfl
theorem cutA_some (b : Book) (d : Int) (m : Mp) (ts : List TrC) (i : Nat) (y : Int) (r : List Int) :
  callF (mk PR (lookN types) glob 49) [] [(14,.bool (isDayF b d)),(15,.tup [bkD b m ts,.int .i64 0])] [(0,(cutB_K0,(.normal,cutB_S0 b d m ts i y r)))] (body Tryd.f40) [.tmp 4,.tmp 5] [bookD b,.int .i64 d] =
   some ([Contract PR glob 122 [bookD b,D.int .i64 d] (D.bool (isDayF b d)),Contract PR glob 121 [bookD b,D.bool (isDayF b d)] (D.tup [bkD b m ts,D.int .i64 0]),LoopT PR glob 49 (Code.at [1,1,1,1,0,1] (body Tryd.f40)) [(.tmp 1,.d (D.int .i64 d)),(.tmp 2,.d (D.ptr 2 0)),(.tmp 6,.d (D.ptr 6 0)),(.tmp 8,.d (D.sl true E.int [])),(.tmp 23,.d (D.int .i64 (((List.length (Book.secs b) : Nat) : Int)))),(.tmp 24,.d (D.int .i64 0)),(.box 2,.bx (some (Box.mk false (cellsOf (bookD b))))),(.box 6,.bx (some (Box.mk false (cellsOf (bkD b m ts))))),(.obj 41,.ob Option.none)] Ex.normal (cutB_S0 b d m ts i y r),List.length (y :: r) = List.length ((y :: r)),List.length (y :: r) = List.length ((y :: r)),List.length (y :: r) = List.length ((y :: r)),(0 : Int) ≤ (0 : Int) ∧ (0 : Int) ≤ (Nat.cast : Nat → Int) (List.length ((y :: r))) ∧ (Nat.cast : Nat → Int) (List.length ((y :: r))) ≤ (Nat.cast : Nat → Int) (List.length ((y :: r))) ∧ (Nat.cast : Nat → Int) (List.length ((y :: r))) = (Nat.cast : Nat → Int) (List.length ((y :: r)))],D.tup [D.sl true E.int (List.drop (Int.toNat (0 : Int)) (List.take (Int.toNat ((Nat.cast : Nat → Int) (List.length ((y :: r))))) ((y :: r)))),D.int .i64 0]) := by kernel_rfl
end Go.Di

namespace Go.Di
open Proofs

theorem whole_slice {α : Type} (l : List α) : List.drop (Int.toNat (0 : Int)) (List.take (Int.toNat ((Nat.cast : Nat → Int) l.length)) l) = l := by simp
/-! ### Cut -/
def cutGo (b : Book) (ts : List TrC) (d : Int) : Nat → List Int
 | 0 => []
 | i + 1 => if (thickF b ts b.turns i d).lo < b.rule then cutGo b ts d i ++ [(i : Int)] else cutGo b ts d i
theorem cutGo_len (b : Book) (ts : List TrC) (d : Int) : ∀ i,(cutGo b ts d i).length ≤ i
 | 0 => Nat.le_refl _
 | i + 1 => by
  have h := cutGo_len b ts d i
  simp only [cutGo]
  split
  ·simp only [List.length_append,List.length_singleton]; omega
  ·omega
def cutAF (b : Book) (d : Int) : List Int × Int := if errF b (isDayF b d) = 0 then (cutGo b (truthsF b []) d b.secs.length,0) else ([],errF b (isDayF b d))
def cutS (b : Book) (d : Int) (m : Mp) (ts : List TrC) (i : Nat) : List Int → List (Key × Val)
 | [] => cutA_S0 b d m ts i
 | y :: r => cutB_S0 b d m ts i y r
theorem cut_round (b : Book) (d : Int) (m : Mp) (ts : List TrC) (i : Nat) (o : Span) (l : List Int) (hi : i < b.secs.length) (hsz : l.length ≤ 1000) (h4 : b.secs.length ≤ 4)
  (hth : Contract PR glob 123 [bkD b m ts,.int .i64 i,.int .i64 d,.sl false .int b.turns] (spD o)) :
  WpL PR (mk PR (lookN types) glob 49) (Code.at [1,1,1,1,0,1,0,0] (body Tryd.f40)) (cutS b d m ts i l) fun e1 L1 => e1 = .normal ∧ L1 = cutS b d m ts (i + 1) (if o.lo < b.rule then l ++ [(i : Int)] else l) := by
 have hm := may_con o b.rule
 by_cases hlo : o.lo < b.rule
 ·rw [if_pos hlo]
  have hm' : decide (o.lo < b.rule) = true := decide_eq_true hlo
  cases l with
  | nil =>
   refine WpL.path (G 49) (cutA_0_yes b d m ts i o (decide (o.lo < b.rule))) ?_ ⟨rfl,rfl⟩
   exact ⟨decide_eq_true (by omega),by omega,hth,hm,hm',by omega,by simp only [inI64]; omega,trivial⟩
  | cons y r =>
   refine WpL.path (G 49) (cutB_0_yes b d m ts i y r o (decide (o.lo < b.rule))) ?_ ⟨rfl,rfl⟩
   exact ⟨decide_eq_true (by omega),by omega,hth,hm,hm',rfl,by simp only [List.length_append,List.length_cons] at hsz ⊢; simp; omega,by simp only [inI64]; omega,trivial⟩
 ·rw [if_neg hlo]
  have hm' : decide (o.lo < b.rule) = false := decide_eq_false hlo
  cases l with
  | nil =>
   refine WpL.path (G 49) (cutA_0_no b d m ts i o (decide (o.lo < b.rule))) ?_ ⟨rfl,rfl⟩
   exact ⟨decide_eq_true (by omega),by omega,hth,hm,hm',by simp only [inI64]; omega,trivial⟩
  | cons y r =>
   refine WpL.path (G 49) (cutB_0_no b d m ts i y r o (decide (o.lo < b.rule))) ?_ ⟨rfl,rfl⟩
   exact ⟨decide_eq_true (by omega),by omega,hth,hm,hm',by simp only [inI64]; omega,trivial⟩
theorem cut_loop {b : Book} (hV : Valid b) (d : Int) (hd : d ≤ 1000) (m : Mp) (hne : truthsF b [] ≠ []) :
  LoopT PR glob 49 (Code.at [1,1,1,1,0,1] (body Tryd.f40)) (cutS b d m (truthsF b []) 0 []) .normal (cutS b d m (truthsF b []) b.secs.length (cutGo b (truthsF b []) d b.secs.length)) := by
 refine LoopT.count (tt := lookN types) (id := 0) (c := Code.at [1,1,1,1,0,1,0,0] (body Tryd.f40)) (by kernel_rfl) b.secs.length (fun i => cutS b d m (truthsF b []) i (cutGo b (truthsF b []) d i)) (fun i hi => ?_) ?_
 ·have h4 := hV.secs.2
  have hl := cutGo_len b (truthsF b []) d i
  exact cut_round b d m (truthsF b []) i _ _ hi (by omega) h4 (thick_con b m (truthsF b []) i d b.turns (truths_ok hV []) hne (by have := truths_len hV []; omega) (by omega) h4 (by have := hV.turns; omega) hd)
 ·cases cutGo b (truthsF b []) d b.secs.length with
  | nil => exact WpL.path (G 49) (cutA_0_end b d m _ _) ⟨decide_eq_false (Int.lt_irrefl _),trivial⟩ ⟨.inl ⟨rfl,rfl⟩,rfl⟩
  | cons y r => exact WpL.path (G 49) (cutB_0_end b d m _ _ y r) ⟨decide_eq_false (Int.lt_irrefl _),trivial⟩ ⟨.inl ⟨rfl,rfl⟩,rfl⟩
theorem cutA_con {b : Book} (hs : Small b) (d : Int) : Contract PR glob 40 [bookD b,.int .i64 d] (.tup [.sl true .int (cutAF b d).1,.int .i64 (cutAF b d).2]) := by
 have h1 := isDay_con b d
 have hc := err_cases hs (isDayF b d)
 unfold cutAF
 generalize he : errF b (isDayF b d) = e at hc
 rcases hc with ⟨hne,h12,h3⟩ | ⟨h0,hV,his,hcan⟩
 ·rw [if_neg hne]
  by_cases e12 : e = 12
  ·obtain ⟨hV,his,hcan⟩ := h12 e12
   have ha := asked_false_con hs hV hcan
   subst e12
   have hr := cutA_false b d (.spot (openF b []))
   rw [his] at hr h1
   exact contract_of_path (G 49) cutA_fn hr ⟨h1,ha,trivial⟩
  ·exact contract_of_path (G 49) cutA_fn (cutA_err b d e) ⟨h1,h3 e12,by simpa using hne,trivial⟩
 ·subst h0
  rw [if_pos rfl]
  have hday := within_iff.1 his
  have hdd := hV.days
  have ha := asked_ok_con hs hV hcan
  have hl := cut_loop hV d (by omega) (.spot (openF b [])) (ne_of_can hcan)
  cases hcut : cutGo b (truthsF b []) d b.secs.length with
  | nil =>
   rw [hcut] at hl
   have hr := cutA_none b d (.spot (openF b [])) (truthsF b []) b.secs.length
   rw [his] at hr h1
   exact contract_of_path (G 49) cutA_fn hr ⟨h1,ha,hl,by omega,trivial⟩
  | cons y r =>
   rw [hcut] at hl
   have hr := cutA_some b d (.spot (openF b [])) (truthsF b []) b.secs.length y r
   rw [his] at hr h1
   refine Eq.subst (motive := fun l : List Int => Contract PR glob 40 [bookD b,.int .i64 d] (.tup [.sl true .int l,.int .i64 0])) ?_ (contract_of_path (G 49) cutA_fn hr ⟨h1,ha,hl,rfl,rfl,rfl,⟨by omega,by omega,by omega,rfl⟩,trivial⟩)
   exact whole_slice (y :: r)

/-! ### Turn -/
end Go.Di

namespace Go.Di
open Proofs
end Go.Di

namespace Go.Di
open Proofs

theorem relA_weaken {R : Foot} {w : World} {e : E} {xs : List e.α} {v : Value} (h : RelA R w (.sl true e xs) v) : RelA R w (.sl false e xs) v := by
 obtain ⟨A,c,hv,hc,hm,_,hr⟩ := h
 exact ⟨A,c,hv,hc,hm,fun h => (by cases h),hr⟩

/-! ### Wrong: surveys that are left out -/
end Go.Di

/-
 DI,part Y: a function that captures a box and its own variable.
-/
namespace Go.Di
open Go.RowKit

section
variable {P : Program} {C : Cfg} {w0 w w' : World} {R0 R : Foot} {a : Act} {s : St} {β : Nat → Nat} {σ : Sig} {Q : Exit → Act → World → Prop}

theorem SelfR.make {f : FuncId} {cells : List D} {p v : Value} {b : Nat} (hv : v = .func (.func f) #[] #[p,.pointer (some ⟨b,0,none⟩)]) (hp : RelCap R w cells p) (hR : R b 0) (hc : w.cell? ⟨b,0,none⟩ = some v) : ∀ n,SelfR R w f cells n v
 | 0 => trivial
 | n + 1 => ⟨p,b,0,v,hv,hp,hR,hc,⟨_,_,hv⟩,SelfR.make hv hp hR hc n⟩

end
end Go.Di

namespace Go.Di
open Proofs
end Go.Di

namespace Go.Di
open Proofs

/-! ### Wrong -/
end Go.Di

namespace Go.Di
open Proofs
def insideF (n lo hi : Int) : Bool := decide (n ≥ lo) && decide (n ≤ hi)
end Go.Di

namespace Go.Di
open Proofs
theorem rangeB_fn : FnOk PR (mk PR (lookN types) glob 8) 61 (body Tryd.f61) [.cell 4 51] := by refine ⟨Tryd.f61,?_,?_,?_,?_,?_⟩ <;> kernel_rfl
theorem point_fn : FnOk PR (mk PR (lookN types) glob 6) 49 (body Tryd.f49) [.cell 2 51] := by refine ⟨Tryd.f49,?_,?_,?_,?_,?_⟩ <;> kernel_rfl
theorem inside_fn : FnOk PR (mk PR (lookN types) glob 15) 50 (body Tryd.f50) [.tmp 6] := by refine ⟨Tryd.f50,?_,?_,?_,?_,?_⟩ <;> kernel_rfl
theorem validB_fn : FnOk PR (mk PR (lookN types) glob 24) 117 (body Tryd.f117) [.tmp 6] := by refine ⟨Tryd.f117,?_,?_,?_,?_,?_⟩ <;> kernel_rfl
theorem alike_fn : FnOk PR (mk PR (lookN types) glob 26) 55 (body Tryd.f55) [.tmp 4] := by refine ⟨Tryd.f55,?_,?_,?_,?_,?_⟩ <;> kernel_rfl
theorem climbs_fn : FnOk PR (mk PR (lookN types) glob 36) 52 (body Tryd.f52) [.tmp 4] := by refine ⟨Tryd.f52,?_,?_,?_,?_,?_⟩ <;> kernel_rfl
def alike_S0 (xs ys : List Int) (i : Nat) : List (Key × Val) :=
 [(.tmp 0,.d (D.sl false E.int xs)),
  (.tmp 1,.d (D.sl false E.int ys)),
  (.tmp 5,.d (.int .i64 i))]
def alike_K0 : List Key := [.tmp 0,.tmp 1,.tmp 5]
def climbs_S0 (xs : List Int) (m : Int) (i : Nat) : List (Key × Val) :=
 [(.tmp 0,.d (D.sl false E.int xs)),
  (.tmp 1,.d (D.int .i64 m)),
  (.tmp 5,.d (.int .i64 i))]
def climbs_K0 : List Key := [.tmp 0,.tmp 1,.tmp 5]
theorem alike_0_on (xs ys : List Int) (i : Nat) :
  runK (mk PR (lookN types) glob 26) [(14,true),(25,false)] [] [] (Code.at [1,1,0,1,0,0] (body Tryd.f55)) (alike_S0 xs ys i) alike_K0 =
   some ([decide ((i : Int) < ((List.length xs : Nat) : Int)) = true,(0 : Int) ≤ (i : Int) ∧ (i : Int) < ((List.length xs : Nat) : Int),0 + 1 ≤ 1,(0 : Int) ≤ (i : Int) ∧ (i : Int) < ((List.length ys : Nat) : Int),0 + 1 ≤ 1,(List.getD xs (Int.toNat ((i : Int))) (E.z E.int) != List.getD ys (Int.toNat ((i : Int))) (E.z E.int)) = false,inI64 ((i : Int) + (1 : Int))],Ex.normal,[(.tmp 0,.d (D.sl false E.int xs)),(.tmp 1,.d (D.sl false E.int ys)),(.tmp 5,.d (D.int .i64 ((i : Int) + (1 : Int))))]) := by kernel_rfl
theorem alike_0_diff (xs ys : List Int) (i : Nat) :
  runK (mk PR (lookN types) glob 26) [(14,true),(25,true)] [] [] (Code.at [1,1,0,1,0,0] (body Tryd.f55)) (alike_S0 xs ys i) [.tmp 0,.tmp 1,.tmp 5,.tmp 4] =
   some ([decide ((i : Int) < ((List.length xs : Nat) : Int)) = true,(0 : Int) ≤ (i : Int) ∧ (i : Int) < ((List.length xs : Nat) : Int),0 + 1 ≤ 1,(0 : Int) ≤ (i : Int) ∧ (i : Int) < ((List.length ys : Nat) : Int),0 + 1 ≤ 1,(List.getD xs (Int.toNat ((i : Int))) (E.z E.int) != List.getD ys (Int.toNat ((i : Int))) (E.z E.int)) = true],Ex.ret,[(.tmp 0,.d (D.sl false E.int xs)),(.tmp 1,.d (D.sl false E.int ys)),(.tmp 5,.d (D.int .i64 ((i : Int)))),(.tmp 4,.d (D.bool false))]) := by kernel_rfl
theorem alike_0_end (xs ys : List Int) (i : Nat) :
  runK (mk PR (lookN types) glob 26) [(14,false)] [] [] (Code.at [1,1,0,1,0,0] (body Tryd.f55)) (alike_S0 xs ys i) alike_K0 =
   some ([decide ((i : Int) < ((List.length xs : Nat) : Int)) = false],Ex.exit 0,[(.tmp 0,.d (D.sl false E.int xs)),(.tmp 1,.d (D.sl false E.int ys)),(.tmp 5,.d (D.int .i64 ((i : Int))))]) := by kernel_rfl
theorem climbs_0_on0 (xs : List Int) (m : Int) (i : Nat) :
  runK (mk PR (lookN types) glob 36) [(9,true),(23,false)] [(18,.bool true)] [] (Code.at [1,0,1,0,0] (body Tryd.f52)) (climbs_S0 xs m i) climbs_K0 =
   some ([decide ((i : Int) < ((List.length xs : Nat) : Int)) = true,(0 : Int) ≤ (i : Int) ∧ (i : Int) < ((List.length xs : Nat) : Int),0 + 1 ≤ 1,inI64 (m - (1 : Int)),Contract PR glob 50 [D.int .i64 (List.getD xs (Int.toNat ((i : Int))) (E.z E.int)),D.int .i64 0,D.int .i64 (m - (1 : Int))] (D.bool true),decide ((i : Int) > (0 : Int)) = false,decide ((i : Int) > (0 : Int)) = false,decide ((i : Int) > (0 : Int)) = false,decide ((i : Int) > (0 : Int)) = false,decide ((i : Int) > (0 : Int)) = false,decide ((i : Int) > (0 : Int)) = false,decide ((i : Int) > (0 : Int)) = false,decide ((i : Int) > (0 : Int)) = false,decide ((i : Int) > (0 : Int)) = false,decide ((i : Int) > (0 : Int)) = false,decide ((i : Int) > (0 : Int)) = false,inI64 ((i : Int) + (1 : Int))],Ex.normal,[(.tmp 0,.d (D.sl false E.int xs)),(.tmp 1,.d (D.int .i64 m)),(.tmp 5,.d (D.int .i64 ((i : Int) + (1 : Int))))]) := by kernel_rfl
theorem climbs_0_on1 (xs : List Int) (m : Int) (i : Nat) :
  runK (mk PR (lookN types) glob 36) [(9,true),(23,true),(35,false)] [(18,.bool true)] [] (Code.at [1,0,1,0,0] (body Tryd.f52)) (climbs_S0 xs m i) climbs_K0 =
   some ([decide ((i : Int) < ((List.length xs : Nat) : Int)) = true,(0 : Int) ≤ (i : Int) ∧ (i : Int) < ((List.length xs : Nat) : Int),0 + 1 ≤ 1,inI64 (m - (1 : Int)),Contract PR glob 50 [D.int .i64 (List.getD xs (Int.toNat ((i : Int))) (E.z E.int)),D.int .i64 0,D.int .i64 (m - (1 : Int))] (D.bool true),decide ((i : Int) > (0 : Int)) = true,decide ((i : Int) > (0 : Int)) = true,decide ((i : Int) > (0 : Int)) = true,(0 : Int) ≤ (i : Int) ∧ (i : Int) < ((List.length xs : Nat) : Int),decide ((i : Int) > (0 : Int)) = true,0 + 1 ≤ 1,decide ((i : Int) > (0 : Int)) = true,decide ((i : Int) > (0 : Int)) = true,decide ((i : Int) > (0 : Int)) = true,inI64 ((i : Int) - (1 : Int)),decide ((i : Int) > (0 : Int)) = true,(0 : Int) ≤ (i : Int) - (1 : Int) ∧ (i : Int) - (1 : Int) < ((List.length xs : Nat) : Int),decide ((i : Int) > (0 : Int)) = true,0 + 1 ≤ 1,decide ((i : Int) > (0 : Int)) = true,decide ((i : Int) > (0 : Int)) = true,decide (List.getD xs (Int.toNat ((i : Int))) (E.z E.int) ≤ List.getD xs (Int.toNat ((i : Int) - (1 : Int))) (E.z E.int)) = false,inI64 ((i : Int) + (1 : Int))],Ex.normal,[(.tmp 0,.d (D.sl false E.int xs)),(.tmp 1,.d (D.int .i64 m)),(.tmp 5,.d (D.int .i64 ((i : Int) + (1 : Int))))]) := by kernel_rfl
theorem climbs_0_out (xs : List Int) (m : Int) (i : Nat) :
  runK (mk PR (lookN types) glob 36) [(9,true)] [(18,.bool false)] [] (Code.at [1,0,1,0,0] (body Tryd.f52)) (climbs_S0 xs m i) [.tmp 0,.tmp 1,.tmp 5,.tmp 4] =
   some ([decide ((i : Int) < ((List.length xs : Nat) : Int)) = true,(0 : Int) ≤ (i : Int) ∧ (i : Int) < ((List.length xs : Nat) : Int),0 + 1 ≤ 1,inI64 (m - (1 : Int)),Contract PR glob 50 [D.int .i64 (List.getD xs (Int.toNat ((i : Int))) (E.z E.int)),D.int .i64 0,D.int .i64 (m - (1 : Int))] (D.bool false)],Ex.ret,[(.tmp 0,.d (D.sl false E.int xs)),(.tmp 1,.d (D.int .i64 m)),(.tmp 5,.d (D.int .i64 ((i : Int)))),(.tmp 4,.d (D.bool false))]) := by kernel_rfl
theorem climbs_0_low (xs : List Int) (m : Int) (i : Nat) :
  runK (mk PR (lookN types) glob 36) [(9,true),(23,true),(35,true)] [(18,.bool true)] [] (Code.at [1,0,1,0,0] (body Tryd.f52)) (climbs_S0 xs m i) [.tmp 0,.tmp 1,.tmp 5,.tmp 4] =
   some ([decide ((i : Int) < ((List.length xs : Nat) : Int)) = true,(0 : Int) ≤ (i : Int) ∧ (i : Int) < ((List.length xs : Nat) : Int),0 + 1 ≤ 1,inI64 (m - (1 : Int)),Contract PR glob 50 [D.int .i64 (List.getD xs (Int.toNat ((i : Int))) (E.z E.int)),D.int .i64 0,D.int .i64 (m - (1 : Int))] (D.bool true),decide ((i : Int) > (0 : Int)) = true,decide ((i : Int) > (0 : Int)) = true,decide ((i : Int) > (0 : Int)) = true,(0 : Int) ≤ (i : Int) ∧ (i : Int) < ((List.length xs : Nat) : Int),decide ((i : Int) > (0 : Int)) = true,0 + 1 ≤ 1,decide ((i : Int) > (0 : Int)) = true,decide ((i : Int) > (0 : Int)) = true,decide ((i : Int) > (0 : Int)) = true,inI64 ((i : Int) - (1 : Int)),decide ((i : Int) > (0 : Int)) = true,(0 : Int) ≤ (i : Int) - (1 : Int) ∧ (i : Int) - (1 : Int) < ((List.length xs : Nat) : Int),decide ((i : Int) > (0 : Int)) = true,0 + 1 ≤ 1,decide ((i : Int) > (0 : Int)) = true,decide ((i : Int) > (0 : Int)) = true,decide (List.getD xs (Int.toNat ((i : Int))) (E.z E.int) ≤ List.getD xs (Int.toNat ((i : Int) - (1 : Int))) (E.z E.int)) = true],Ex.ret,[(.tmp 0,.d (D.sl false E.int xs)),(.tmp 1,.d (D.int .i64 m)),(.tmp 5,.d (D.int .i64 ((i : Int)))),(.tmp 4,.d (D.bool false))]) := by kernel_rfl
theorem climbs_0_end (xs : List Int) (m : Int) (i : Nat) :
  runK (mk PR (lookN types) glob 36) [(9,false)] [] [] (Code.at [1,0,1,0,0] (body Tryd.f52)) (climbs_S0 xs m i) climbs_K0 =
   some ([decide ((i : Int) < ((List.length xs : Nat) : Int)) = false],Ex.exit 0,[(.tmp 0,.d (D.sl false E.int xs)),(.tmp 1,.d (D.int .i64 m)),(.tmp 5,.d (D.int .i64 ((i : Int))))]) := by kernel_rfl
def alike_T0_diff (xs ys : List Int) (i : Nat)  : List (Key × Val) :=
 [(.tmp 0,.d (D.sl false E.int xs)),(.tmp 1,.d (D.sl false E.int ys)),(.tmp 5,.d (D.int .i64 ((i : Int)))),(.tmp 4,.d (D.bool false))]
def climbs_T0_out (xs : List Int) (m : Int) (i : Nat)  : List (Key × Val) :=
 [(.tmp 0,.d (D.sl false E.int xs)),(.tmp 1,.d (D.int .i64 m)),(.tmp 5,.d (D.int .i64 ((i : Int)))),(.tmp 4,.d (D.bool false))]
def climbs_T0_low (xs : List Int) (m : Int) (i : Nat)  : List (Key × Val) :=
 [(.tmp 0,.d (D.sl false E.int xs)),(.tmp 1,.d (D.int .i64 m)),(.tmp 5,.d (D.int .i64 ((i : Int)))),(.tmp 4,.d (D.bool false))]
theorem rangeB_all (a c : Int) :
  callF (mk PR (lookN types) glob 8) [] [] [] (body Tryd.f61) [.cell 4 51] [.int .i64 a,.int .i64 c] =
   some ([0 + 2 ≤ 2],D.agg [D.int .i64 a,D.int .i64 c]) := by kernel_rfl
theorem point_all (a : Int) :
  callF (mk PR (lookN types) glob 6) [] [(5,spD ⟨a,a⟩)] [] (body Tryd.f49) [.cell 2 51] [.int .i64 a] =
   some ([Contract PR glob 61 [D.int .i64 a,D.int .i64 a] (D.agg [D.int .i64 (Span.lo (Span.mk a a)),D.int .i64 (Span.hi (Span.mk a a))]),0 + 2 ≤ 2],D.agg [D.int .i64 (Span.lo (Span.mk a a)),D.int .i64 (Span.hi (Span.mk a a))]) := by kernel_rfl
theorem inside_no (n lo hi : Int) :
  callF (mk PR (lookN types) glob 15) [(10,false)] [] [] (body Tryd.f50) [.tmp 6] [.int .i64 n,.int .i64 lo,.int .i64 hi] =
   some ([decide (n ≥ lo) = false,decide (n ≥ lo) = false,decide (n ≥ lo) = false,decide (n ≥ lo) = false],D.bool false) := by kernel_rfl
theorem inside_yes (n lo hi : Int) :
  callF (mk PR (lookN types) glob 15) [(10,true)] [] [] (body Tryd.f50) [.tmp 6] [.int .i64 n,.int .i64 lo,.int .i64 hi] =
   some ([decide (n ≥ lo) = true,decide (n ≥ lo) = true,decide (n ≥ lo) = true,decide (n ≥ lo) = true],D.bool (decide (n ≤ hi))) := by kernel_rfl
theorem validB_a (s : Span) (lo hi : Int) :
  callF (mk PR (lookN types) glob 24) [(11,false)] [] [] (body Tryd.f117) [.tmp 6] [spD s,.int .i64 lo,.int .i64 hi] =
   some ([0 + 0 + 1 ≤ 2,decide (Span.lo s ≥ lo) = false,decide (Span.lo s ≥ lo) = false,decide (Span.lo s ≥ lo) = false,decide (Span.lo s ≥ lo) = false,decide (Span.lo s ≥ lo) = false,decide (Span.lo s ≥ lo) = false],D.bool false) := by kernel_rfl
theorem validB_b (s : Span) (lo hi : Int) :
  callF (mk PR (lookN types) glob 24) [(11,true),(18,false)] [] [] (body Tryd.f117) [.tmp 6] [spD s,.int .i64 lo,.int .i64 hi] =
   some ([0 + 0 + 1 ≤ 2,decide (Span.lo s ≥ lo) = true,decide (Span.lo s ≥ lo) = true,0 + 0 + 1 ≤ 2,decide (Span.lo s ≥ lo) = true,decide (Span.lo s ≥ lo) = true,0 + 1 + 1 ≤ 2,decide (Span.lo s ≥ lo) = true,decide (Span.lo s ≥ lo) = true,decide (Span.lo s ≤ Span.hi s) = false,decide (Span.lo s ≤ Span.hi s) = false,decide (Span.lo s ≤ Span.hi s) = false,decide (Span.lo s ≤ Span.hi s) = false,decide (Span.lo s ≤ Span.hi s) = false],D.bool false) := by kernel_rfl
theorem validB_c (s : Span) (lo hi : Int) :
  callF (mk PR (lookN types) glob 24) [(11,true),(18,true)] [] [] (body Tryd.f117) [.tmp 6] [spD s,.int .i64 lo,.int .i64 hi] =
   some ([0 + 0 + 1 ≤ 2,decide (Span.lo s ≥ lo) = true,decide (Span.lo s ≥ lo) = true,0 + 0 + 1 ≤ 2,decide (Span.lo s ≥ lo) = true,decide (Span.lo s ≥ lo) = true,0 + 1 + 1 ≤ 2,decide (Span.lo s ≥ lo) = true,decide (Span.lo s ≥ lo) = true,decide (Span.lo s ≤ Span.hi s) = true,decide (Span.lo s ≤ Span.hi s) = true,0 + 1 + 1 ≤ 2,decide (Span.lo s ≤ Span.hi s) = true,decide (Span.lo s ≤ Span.hi s) = true,decide (Span.lo s ≤ Span.hi s) = true],D.bool (decide (Span.hi s ≤ hi))) := by kernel_rfl
theorem alike_len (xs ys : List Int) :
  callF (mk PR (lookN types) glob 26) [(10,true)] [] [] (body Tryd.f55) [.tmp 4] [.sl false .int xs,.sl false .int ys] =
   some ([(((List.length xs : Nat) : Int) != ((List.length ys : Nat) : Int)) = true],D.bool false) := by kernel_rfl
theorem alike_diff (xs ys : List Int) (i : Nat) :
  callF (mk PR (lookN types) glob 26) [(10,false)] [] [(0,(alike_K0,(.ret,alike_T0_diff xs ys i)))] (body Tryd.f55) [.tmp 4] [.sl false .int xs,.sl false .int ys] =
   some ([(((List.length xs : Nat) : Int) != ((List.length ys : Nat) : Int)) = false,LoopT PR glob 26 (Code.at [1,1,0,1] (body Tryd.f55)) [(.tmp 0,.d (D.sl false E.int xs)),(.tmp 1,.d (D.sl false E.int ys)),(.tmp 5,.d (D.int .i64 0))] Ex.ret (alike_T0_diff xs ys i)],D.bool false) := by kernel_rfl
theorem alike_all (xs ys : List Int) (i : Nat) :
  callF (mk PR (lookN types) glob 26) [(10,false)] [] [(0,(alike_K0,(.normal,alike_S0 xs ys i)))] (body Tryd.f55) [.tmp 4] [.sl false .int xs,.sl false .int ys] =
   some ([(((List.length xs : Nat) : Int) != ((List.length ys : Nat) : Int)) = false,LoopT PR glob 26 (Code.at [1,1,0,1] (body Tryd.f55)) [(.tmp 0,.d (D.sl false E.int xs)),(.tmp 1,.d (D.sl false E.int ys)),(.tmp 5,.d (D.int .i64 0))] Ex.normal (alike_S0 xs ys i)],D.bool true) := by kernel_rfl
theorem climbs_out (xs : List Int) (m : Int) (i : Nat) :
  callF (mk PR (lookN types) glob 36) [] [] [(0,(climbs_K0,(.ret,climbs_T0_out xs m i)))] (body Tryd.f52) [.tmp 4] [.sl false .int xs,.int .i64 m] =
   some ([LoopT PR glob 36 (Code.at [1,0,1] (body Tryd.f52)) [(.tmp 0,.d (D.sl false E.int xs)),(.tmp 1,.d (D.int .i64 m)),(.tmp 5,.d (D.int .i64 0))] Ex.ret (climbs_T0_out xs m i)],D.bool false) := by kernel_rfl
theorem climbs_low (xs : List Int) (m : Int) (i : Nat) :
  callF (mk PR (lookN types) glob 36) [] [] [(0,(climbs_K0,(.ret,climbs_T0_low xs m i)))] (body Tryd.f52) [.tmp 4] [.sl false .int xs,.int .i64 m] =
   some ([LoopT PR glob 36 (Code.at [1,0,1] (body Tryd.f52)) [(.tmp 0,.d (D.sl false E.int xs)),(.tmp 1,.d (D.int .i64 m)),(.tmp 5,.d (D.int .i64 0))] Ex.ret (climbs_T0_low xs m i)],D.bool false) := by kernel_rfl
theorem climbs_end (xs : List Int) (m : Int) (i : Nat) :
  callF (mk PR (lookN types) glob 36) [] [] [(0,(climbs_K0,(.normal,climbs_S0 xs m i)))] (body Tryd.f52) [.tmp 4] [.sl false .int xs,.int .i64 m] =
   some ([LoopT PR glob 36 (Code.at [1,0,1] (body Tryd.f52)) [(.tmp 0,.d (D.sl false E.int xs)),(.tmp 1,.d (D.int .i64 m)),(.tmp 5,.d (D.int .i64 0))] Ex.normal (climbs_S0 xs m i)],D.bool true) := by kernel_rfl
end Go.Di

namespace Go.Di
open Proofs

theorem find_first (p : Nat → Bool) : ∀ n,(∃ k,k < n ∧ p k = true ∧ ∀ i < k,p i = false) ∨ ∀ i < n,p i = false
 | 0 => .inr fun i h => by omega
 | n + 1 => by
  rcases find_first p n with ⟨k,h1,h2,h3⟩ | h
  ·exact .inl ⟨k,by omega,h2,h3⟩
  ·cases hn : p n with
   | true => exact .inl ⟨n,by omega,hn,h⟩
   | false =>
    refine .inr fun i hi => ?_
    by_cases e : i = n
    ·subst e; exact hn
    ·exact h i (by omega)
theorem Contract.toWeak {P : Program} {glob : Nat → Option (List D)} {f : FuncId} {args : List D} {r : D} (h : Contract P glob f args r) : Contract P glob f args (weak r) := h.toRes fun _ _ _ => weak_rel

/-! ### Small functions of the laws -/
theorem rangeB_con (a c : Int) : Contract PR glob 61 [.int .i64 a,.int .i64 c] (spD ⟨a,c⟩) := contract_of_path (G 8) rangeB_fn (rangeB_all a c) ⟨by omega,trivial⟩
theorem point_con (a : Int) : Contract PR glob 49 [.int .i64 a] (spD ⟨a,a⟩) := contract_of_path (G 6) point_fn (point_all a) ⟨rangeB_con a a,by omega,trivial⟩
theorem inside_con (n lo hi : Int) : Contract PR glob 50 [.int .i64 n,.int .i64 lo,.int .i64 hi] (.bool (insideF n lo hi)) := by
 unfold insideF
 cases h : decide (n ≥ lo) with
 | false => exact contract_of_path (G 15) inside_fn (inside_no n lo hi) ⟨h,h,h,h,trivial⟩
 | true => exact contract_of_path (G 15) inside_fn (inside_yes n lo hi) ⟨h,h,h,h,trivial⟩
def validSF (s : Span) (lo hi : Int) : Bool := decide (s.lo ≥ lo) && decide (s.lo ≤ s.hi) && decide (s.hi ≤ hi)
theorem validB_con (s : Span) (lo hi : Int) : Contract PR glob 117 [spD s,.int .i64 lo,.int .i64 hi] (.bool (validSF s lo hi)) := by
 unfold validSF
 cases h : decide (s.lo ≥ lo) with
 | false =>
  refine contract_of_path (G 24) validB_fn (validB_a s lo hi) ?_
  repeat (first | exact trivial | refine ⟨by first | exact h | omega,?_⟩)
 | true =>
  cases h2 : decide (s.lo ≤ s.hi) with
  | false =>
   refine contract_of_path (G 24) validB_fn (validB_b s lo hi) ?_
   repeat (first | exact trivial | refine ⟨by first | exact h | exact h2 | omega,?_⟩)
  | true =>
   refine contract_of_path (G 24) validB_fn (validB_c s lo hi) ?_
   repeat (first | exact trivial | refine ⟨by first | exact h | exact h2 | omega,?_⟩)
theorem ext_getD {xs ys : List Int} (hl : xs.length = ys.length) (h : ∀ i < xs.length,xs.getD i 0 = ys.getD i 0) : xs = ys := by
 refine List.ext_getElem hl fun i h1 h2 => ?_
 have := h i h1
 rwa [List.getD_eq_getElem?_getD,List.getD_eq_getElem?_getD,List.getElem?_eq_getElem h1,List.getElem?_eq_getElem h2] at this
theorem alike_con (xs ys : List Int) (hl : xs.length ≤ 9223372036854775807) : Contract PR glob 55 [.sl false .int xs,.sl false .int ys] (.bool (decide (xs = ys))) := by
 have hb : Code.at [1,1,0,1] (body Tryd.f55) = .block 0 (.loop (Code.at [1,1,0,1,0,0] (body Tryd.f55))) := by kernel_rfl
 by_cases hlen : xs.length = ys.length
 ·have hne : ((xs.length : Int) != (ys.length : Int)) = false := by rw [hlen]; simp
  have hon : ∀ k,k ≤ xs.length → (∀ i < k,(xs.getD i 0 != ys.getD i 0) = false) → ∀ i,i < k → WpL PR (mk PR (lookN types) glob 26) (Code.at [1,1,0,1,0,0] (body Tryd.f55)) (alike_S0 xs ys i) fun e1 L1 => e1 = .normal ∧ L1 = alike_S0 xs ys (i + 1) := fun k hk h i hi =>
   WpL.path (G 26) (alike_0_on xs ys i) ⟨decide_eq_true (by omega),by omega,by omega,by omega,by omega,h i hi,by simp only [inI64]; omega,trivial⟩ ⟨rfl,rfl⟩
  rcases find_first (fun i => xs.getD i 0 != ys.getD i 0) xs.length with ⟨k,h1,h2,h3⟩ | h
  ·have : decide (xs = ys) = false := decide_eq_false fun e => by subst e; simp at h2
   rw [this]
   exact contract_of_path (G 26) alike_fn (alike_diff xs ys k) ⟨hne,LoopT.count (tt := lookN types) hb k (alike_S0 xs ys) (hon k (by omega) h3) (WpL.path (G 26) (alike_0_diff xs ys k) ⟨decide_eq_true (by omega),by omega,by omega,by omega,by omega,h2,trivial⟩ ⟨.inr ⟨rfl,rfl⟩,rfl⟩),trivial⟩
  ·have : decide (xs = ys) = true := decide_eq_true (ext_getD hlen fun i hi => by simpa using h i hi)
   rw [this]
   exact contract_of_path (G 26) alike_fn (alike_all xs ys xs.length) ⟨hne,LoopT.count (tt := lookN types) hb xs.length (alike_S0 xs ys) (hon _ (Nat.le_refl _) h) (WpL.path (G 26) (alike_0_end xs ys _) ⟨decide_eq_false (Int.lt_irrefl _),trivial⟩ ⟨.inl ⟨rfl,rfl⟩,rfl⟩),trivial⟩
 ·have : decide (xs = ys) = false := decide_eq_false fun e => hlen (by rw [e])
  rw [this]
  exact contract_of_path (G 26) alike_fn (alike_len xs ys) ⟨by simp; omega,trivial⟩
/-- Each greater than the one before it,all from 0 to below m. -/
def climbAt (xs : List Int) (m : Int) (i : Nat) : Bool := insideF (xs.getD i 0) 0 (m - 1) && !(decide (i > 0) && decide (xs.getD i 0 ≤ xs.getD (i - 1) 0))
def climbsF (xs : List Int) (m : Int) : Bool := (List.range xs.length).all (climbAt xs m)
theorem climbs_con (xs : List Int) (m : Int) (hl : xs.length ≤ 9223372036854775807) (hm : 0 ≤ m ∧ m ≤ 4611686018427387904) : Contract PR glob 52 [.sl false .int xs,.int .i64 m] (.bool (climbsF xs m)) := by
 have hb : Code.at [1,0,1] (body Tryd.f52) = .block 0 (.loop (Code.at [1,0,1,0,0] (body Tryd.f52))) := by kernel_rfl
 have hin := fun i : Nat => inside_con (xs.getD i 0) 0 (m - 1)
 have hi64 : inI64 (m - 1) := by simp only [inI64]; omega
 have hix : ∀ i : Nat,i > 0 → ((i : Int) - 1).toNat = i - 1 := fun i hi => by omega
 have hon : ∀ k,k ≤ xs.length → (∀ i < k,(!climbAt xs m i) = false) → ∀ i,i < k → WpL PR (mk PR (lookN types) glob 36) (Code.at [1,0,1,0,0] (body Tryd.f52)) (climbs_S0 xs m i) fun e1 L1 => e1 = .normal ∧ L1 = climbs_S0 xs m (i + 1) := by
  intro k hk h i hi
  have h' := h i hi
  unfold climbAt at h'
  simp only [Bool.not_eq_eq_eq_not,Bool.not_false,Bool.and_eq_true,Bool.not_true] at h'
  have hq := hin i
  rw [h'.1] at hq
  by_cases hz : i > 0
  ·have h1 : decide ((i : Int) > 0) = true := decide_eq_true (by omega)
   have h2 : decide (xs.getD i 0 ≤ xs.getD ((i : Int) - 1).toNat 0) = false := by
    rw [hix i hz]
    have := h'.2
    rw [decide_eq_true hz] at this
    simpa using this
   refine WpL.path (G 36) (climbs_0_on1 xs m i) ?_ ⟨rfl,rfl⟩
   repeat (first | exact trivial | refine ⟨by first | exact hq | exact h1 | exact h2 | exact hi64 | exact decide_eq_true (by omega) | omega | (simp only [inI64]; omega),?_⟩)
  ·have h1 : decide ((i : Int) > 0) = false := decide_eq_false (by omega)
   refine WpL.path (G 36) (climbs_0_on0 xs m i) ?_ ⟨rfl,rfl⟩
   repeat (first | exact trivial | refine ⟨by first | exact hq | exact h1 | exact hi64 | exact decide_eq_true (by omega) | omega | (simp only [inI64]; omega),?_⟩)
 rcases find_first (fun i => !climbAt xs m i) xs.length with ⟨k,h1,h2,h3⟩ | h
 ·have hF : climbsF xs m = false := by
   unfold climbsF
   rw [List.all_eq_false]
   exact ⟨k,by simpa using h1,by simpa using h2⟩
  rw [hF]
  have h2' : climbAt xs m k = false := by simpa using h2
  unfold climbAt at h2'
  have hq := hin k
  cases hc : insideF (xs.getD k 0) 0 (m - 1) with
  | false =>
   rw [hc] at hq
   refine contract_of_path (G 36) climbs_fn (climbs_out xs m k) ⟨LoopT.count (tt := lookN types) hb k (climbs_S0 xs m) (hon k (by omega) h3) (WpL.path (G 36) (climbs_0_out xs m k) ?_ ⟨.inr ⟨rfl,rfl⟩,rfl⟩),trivial⟩
   repeat (first | exact trivial | refine ⟨by first | exact hq | exact hi64 | exact decide_eq_true (by omega) | omega,?_⟩)
  | true =>
   rw [hc] at hq h2'
   simp only [Bool.true_and,Bool.not_eq_eq_eq_not,Bool.not_false,Bool.and_eq_true,decide_eq_true_eq] at h2'
   have h1' : decide ((k : Int) > 0) = true := decide_eq_true (by omega)
   have hle : decide (xs.getD k 0 ≤ xs.getD ((k : Int) - 1).toNat 0) = true := by
    rw [hix k h2'.1]
    exact decide_eq_true h2'.2
   refine contract_of_path (G 36) climbs_fn (climbs_low xs m k) ⟨LoopT.count (tt := lookN types) hb k (climbs_S0 xs m) (hon k (by omega) h3) (WpL.path (G 36) (climbs_0_low xs m k) ?_ ⟨.inr ⟨rfl,rfl⟩,rfl⟩),trivial⟩
   repeat (first | exact trivial | refine ⟨by first | exact hq | exact h1' | exact hle | exact hi64 | exact decide_eq_true (by omega) | omega | (simp only [inI64]; omega),?_⟩)
 ·have hF : climbsF xs m = true := by
   unfold climbsF
   rw [List.all_eq_true]
   intro i hi
   have := h i (by simpa using hi)
   simpa using this
  rw [hF]
  exact contract_of_path (G 36) climbs_fn (climbs_end xs m xs.length) ⟨LoopT.count (tt := lookN types) hb xs.length (climbs_S0 xs m) (hon _ (Nat.le_refl _) h) (WpL.path (G 36) (climbs_0_end xs m _) ⟨decide_eq_false (Int.lt_irrefl _),trivial⟩ ⟨.inl ⟨rfl,rfl⟩,rfl⟩),trivial⟩
end Go.Di

namespace Go.Di
open Proofs
/-- The types of package forge,and those of package chain. -/
def typesF : List (Nat × TI) :=
 [(84,⟨.struct [(0,26),(5,23),(6,3),(7,23),(8,3),(9,3)],10,160,[.nil,.nil,.nil,.int .i64 0,.int .i64 0,.nil,.int .i64 0,.nil,.int .i64 0,.int .i64 0],some .fbook,false⟩),
  (151,⟨.struct [(0,84),(10,149),(11,40),(12,23)],13,216,[.nil,.nil,.nil,.int .i64 0,.int .i64 0,.nil,.int .i64 0,.nil,.int .i64 0,.int .i64 0,.nilmap,.nil,.nil],none,false⟩),
  (149,⟨.map 108 4 false,1,8,[.nilmap],none,false⟩),
  (90,⟨.slice 108,1,24,[.nil],some (.list .work),false⟩),
  (163,⟨.other,1,8,[.nilfn],none,false⟩),
  (154,⟨.other,1,8,[.nilfn],none,false⟩),
  (157,⟨.other,1,8,[.nilfn],none,false⟩),
  (110,⟨.other,1,8,[.nilfn],none,false⟩),
  (188,⟨.struct [(0,110)],1,8,[.nilfn],none,false⟩),
  (190,⟨.other,1,8,[.nilfn],none,false⟩),
  (191,⟨.other,1,8,[.nilfn],none,false⟩),
  (192,⟨.array 2 191,2,16,[.nilfn,.nilfn],none,false⟩),
  (101,⟨.array 3 3,3,24,[.int .i64 0,.int .i64 0,.int .i64 0],none,true⟩),
  (195,⟨.other,1,8,[.nilfn],none,false⟩)] ++ types
theorem typesF_ok : TabOk PR (lookN typesF) := tabOk (by kernel_rfl)
/-- The listed variables of both. -/
def globF : Nat → Option (List D)
 | 2 => some [.int .i64 (-1),.int .i64 0]
 | 3 => some [.fn 226 [] [],.fn 227 [] []]
 | g => glob g
/-- The program; its configurations,contracts and loops. -/
noncomputable abbrev PRG : Program := PR
noncomputable abbrev MF (n : Nat) : Cfg := mk PRG (lookN typesF) globF n
abbrev CF (f : FuncId) (args : List D) (r : D) : Prop := Contract PRG globF f args r
abbrev LF (n : Nat) (c : Code) (L : List (Key × Val)) (e : Ex) (L' : List (Key × Val)) : Prop := LoopT PRG globF n c L e L'
theorem GF (n : Nat) : Good PR (mk PR (lookN typesF) globF n) := good mixed_ok typesF_ok
theorem glob_up {g : Nat} {cs : List D} (h : glob g = some cs) : globF g = some cs := by
 match g,h with
 | 0,h => exact h
 | 1,h => exact h
theorem Contract.up {P : Program} {f : FuncId} {args : List D} {r : D} (h : Contract P glob f args r) : Contract P globF f args r :=
 ⟨h.form,fun w R vs h1 h2 h3 => h.calls w R vs h1 (fun g cs hg => h2 g cs (glob_up hg)) h3⟩
end Go.Di

namespace Go.Di
open Proofs

/-! ### Package forge: values -/
def fbookD (x : FBook) : D := .agg [.sl false .sec x.chain.secs,.sl false .int x.chain.turns,.sl false .sv x.chain.svs,.int .i64 x.chain.rule,.int .i64 x.chain.days,.sl false .int x.feet,.int .i64 x.new,.sl false .int x.opn,.int .i64 x.stock,.int .i64 x.make]
def fbkD (x : FBook) (m : Mp) (th : List (List Int)) (wr : List Int) : D := .agg [.sl false .sec x.chain.secs,.sl false .int x.chain.turns,.sl false .sv x.chain.svs,.int .i64 x.chain.rule,.int .i64 x.chain.days,.sl false .int x.feet,.int .i64 x.new,.sl false .int x.opn,.int .i64 x.stock,.int .i64 x.make,.map m,.sl false (.list .int) th,.sl false .int wr]
def wkD (x : Work) : D := .agg [.int .i64 x.d,.int .i64 x.s]
def work0 : Work := ⟨0,0⟩
def setsD (x : W4) : D := wD x.a x.b x.c x.d
def W4.get (x : W4) (s : Nat) : Int := [x.a,x.b,x.c,x.d].getD s 0

/-! ### Check -/
def fok0F (x : FBook) : Bool := (checkF x.chain == 0) && decide ((x.feet.length : Int) = x.chain.secs.length) && withinF x.new 0 200 && decide (x.opn.length ≤ 4) && withinF x.stock 0 200 && withinF x.make 0 9
def fok1F (x : FBook) (l : List Int) : Bool := l.foldl (fun ok n => ok && withinF n 1 30) (fok0F x)
def fok2F (x : FBook) (l : List Int) : Bool × Int := l.foldl (turnF x.chain.days) (fok1F x x.feet,-1)
/-- Is it a book of the forge? -/
def fvalidF (x : FBook) : Bool := (fok2F x x.opn).1
def fcheckF (x : FBook) : Int := if fvalidF x then 0 else 70

/-! ### Works and plans -/
/-- The map of works,in the order in which they come. -/
def worksS (m : List (K2 × Bool)) (d : Int) : Nat → List (K2 × Bool)
 | 0 => m
 | s + 1 => updK (worksS m d s) (d,(s : Int)) true
def worksO (x : FBook) : Nat → List (K2 × Bool)
 | 0 => [((-1,0),false)]
 | i + 1 => worksS (worksO x i) (x.opn.getD i 0) x.feet.length
def worksF (x : FBook) : List (K2 × Bool) := worksO x x.opn.length
def compareF (x y : Work) : Int := if x.d = y.d then x.s - y.s else x.d - y.d
def isWorkF (m : List (K2 × Bool)) (w : Work) : Bool := (lookK m (w.d,w.s)).getD false
/-- A work that may not stand behind another one. -/
def badF (m : List (K2 × Bool)) (last w : Work) : Bool := !(isWorkF m w) || (!(decide (last.d = -1 ∧ last.s = 0)) && decide (compareF last w ≥ 0))
def isPlanGo (m : List (K2 × Bool)) (last : Work) : List Work → Bool
 | [] => true
 | w :: r => if badF m last w = true then false else isPlanGo m w r
def isPlanF (m : List (K2 × Bool)) (plan : List Work) : Bool := isPlanGo m ⟨-1,0⟩ plan

/-! ### How thick -/
def fplaceF (x : FBook) (s d : Int) : Int := placeF x.feet.length x.chain.turns d s
def oldF (th : List (List Int)) (s d : Int) : Int := (th.getD s.toNat []).getD d.toNat 0
def freshF (x : FBook) (wr : List Int) (s c : Int) : Nat → Int
 | 0 => x.new
 | k + 1 => freshF x wr s c k - wr.getD (fplaceF x s (c + k)).toNat 0
/-- Was it changed up to a day,and when at last? -/
def lastStep (s d : Int) (p : Int × Int) (w : Work) : Int × Int := if w.s = s ∧ w.d ≤ d then (1,w.d) else p
def lastF (plan : List Work) (s d : Int) : Int × Int := plan.foldl (lastStep s d) (0,0)
def fleastF (x : FBook) (th : List (List Int)) (wr : List Int) (plan : List Work) (s d : Int) : Int :=
 if (lastF plan s d).1 = 0 then oldF th s d else freshF x wr s (lastF plan s d).2 (d - (lastF plan s d).2).toNat
/-- Is a section too thin on a day? The pairs are counted: day times sections,and section. -/
def fbadF (x : FBook) (th : List (List Int)) (wr : List Int) (plan : List Work) (d s : Nat) : Bool := decide (fleastF x th wr plan s d < x.chain.rule)
/-- The first section from s on,of k. -/
def fsecF (x : FBook) (th : List (List Int)) (wr : List Int) (plan : List Work) (d : Nat) : Option Nat := (List.range x.feet.length).find? (fbadF x th wr plan d)
def fthinGo (x : FBook) (th : List (List Int)) (wr : List Int) (plan : List Work) : Nat → Nat → Option (Nat × Nat)
 | 0,_ => none
 | k + 1,d => match fsecF x th wr plan d with
  | some s => some (d,s)
  | none => fthinGo x th wr plan k (d + 1)
def fthinF (x : FBook) (th : List (List Int)) (wr : List Int) (plan : List Work) : Option (Nat × Nat) := fthinGo x th wr plan (x.chain.days + 1).toNat 0

/-! ### Feet -/
def feetLF (x : FBook) (plan : List Work) : List Int := plan.map fun w => x.feet.getD w.s.toNat 0
def sumF (l : List Int) : Int := l.foldl (· + ·) 0
def feetF (x : FBook) (plan : List Work) : Int := sumF (feetLF x plan)
def needsTo (x : FBook) (plan : List Work) : Nat → Int
 | 0 => 0
 | k + 1 => mx (needsTo x plan k) (feetF x (plan.take (k + 1)) - x.make * (plan.getD k work0).d)
def needsF (x : FBook) (plan : List Work) : Int := needsTo x plan plan.length
def fgoodF (x : FBook) (plan : List Work) : Bool := decide (needsF x plan ≤ x.stock)
/-! ### Plans -/
/-- The meet of two sets. -/
def andF (a b : Int) : Int := IntKind.i64.wrap ((BitVec.ofInt 64 a &&& BitVec.ofInt 64 b).toNat : Int)
/-- Is a number in a set? -/
def bitF (set : Int) (k : Nat) : Bool := andF (set.fdiv (2 ^ min k 64)) 1 == 1
def plannedDay (x : FBook) (on : W4) (k : Nat) (l : List Work) : Nat → List Work
 | 0 => l
 | s + 1 => if bitF (on.get s) k = true then plannedDay x on k l s ++ [⟨x.opn.getD k 0,s⟩] else plannedDay x on k l s
def plannedTo (x : FBook) (on : W4) : Nat → List Work
 | 0 => []
 | k + 1 => plannedDay x on k (plannedTo x on k) x.feet.length
def plannedF (x : FBook) (on : W4) : List Work := plannedTo x on x.opn.length
def zeroW : W4 := ⟨0,0,0,0⟩
/-- Is it enough to change a section on a set of open days? -/
def keepsF (x : FBook) (th : List (List Int)) (wr : List Int) (s : Nat) (set : Int) : Bool :=
 (List.range (x.chain.days + 1).toNat).all fun d => !(decide (fleastF x th wr (plannedF x (zeroW.set s set)) s d < x.chain.rule))
def changesTo (x : FBook) (th : List (List Int)) (wr : List Int) (s : Nat) : Nat → List Int
 | 0 => []
 | k + 1 => if ((changesTo x th wr s k).any fun l => andF k l == l) = true then changesTo x th wr s k
  else if keepsF x th wr s k = true then changesTo x th wr s k ++ [(k : Int)] else changesTo x th wr s k
def changesF (x : FBook) (th : List (List Int)) (wr : List Int) (s : Nat) : List Int := changesTo x th wr s (2 ^ x.opn.length)
def plansGo (x : FBook) (all : List (List Int)) : Nat → Nat → W4 → List (List Work)
 | 0,_,on => [plannedF x on]
 | f + 1,s,on => (all.getD s []).flatMap fun set => plansGo x all f (s + 1) (on.set s set)
def allF (x : FBook) (th : List (List Int)) (wr : List Int) : List (List Int) := (List.range x.feet.length).map (changesF x th wr)
def plansF (x : FBook) (th : List (List Int)) (wr : List Int) : List (List Work) := plansGo x (allF x th wr) x.feet.length 0 zeroW

/-! ### The best one -/
def cmpPlans : List Work → List Work → Int
 | [],[] => 0
 | [],_ :: _ => -1
 | _ :: _,[] => 1
 | x :: l,y :: m => if compareF x y ≠ 0 then compareF x y else cmpPlans l m
def betterWF (x : FBook) (p q : List Work) : Bool := decide (feetF x p < feetF x q) || (decide (feetF x p = feetF x q) && decide (cmpPlans p q < 0))
def bestStep (x : FBook) (o : List Work × Bool) (p : List Work) : List Work × Bool := if fgoodF x p && (!o.2 || betterWF x p o.1) then (p,true) else o
def bestOf (x : FBook) (l : List (List Work)) : List Work × Bool := l.foldl (bestStep x) ([],false)
def bestF (x : FBook) (th : List (List Int)) (wr : List Int) : List Work × Bool := bestOf x (plansF x th wr)
def stockOf (x : FBook) (l : List (List Work)) : Int := l.foldl (fun n p => mn n (needsF x p)) 201
def stockF (x : FBook) (th : List (List Int)) (wr : List Int) : Int := stockOf x (plansF x th wr)

/-! ### What chain says -/
def wearHi (b : Book) (p : Int) : Int := (toldF (wearAt p) (truthsF b [])).hi
def thickLo (b : Book) (s d : Int) : Int := (thickF b (truthsF b []) b.turns s d).lo
def knowWr (x : FBook) : List Int := (List.range x.feet.length).map fun s => wearHi x.chain (s : Nat)
def knowTh (x : FBook) : List (List Int) := (List.range x.feet.length).map fun s => (List.range (x.chain.days + 1).toNat).map fun d => thickLo x.chain (s : Nat) (d : Nat)

/-! ### What is asked -/
def ferrF (x : FBook) (is : Bool) : Int := if fvalidF x = false then 70 else if is = false then 71 else if canF x.chain = false then 72 else 0
end Go.Di

