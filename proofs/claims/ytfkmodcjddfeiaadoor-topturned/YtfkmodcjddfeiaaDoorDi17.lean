/- Part 17: an interpreter over plain data for this code, with the proof that it says what the model does, and the contracts of the functions. No condition. -/
import Derived.Test.YtfkmodcjddfeiaaDoorDi16
set_option linter.unusedVariables false
set_option linter.unusedSimpArgs false
namespace Go.Di
open Proofs

/-! ### Package forge: values -/
def fbookD (x : FBook) : D := .agg [.sl false .sec x.chain.secs,.sl false .int x.chain.turns,.sl false .sv x.chain.svs,.int .i64 x.chain.rule,.int .i64 x.chain.days,.sl false .int x.feet,.int .i64 x.new,.sl false .int x.opn,.int .i64 x.stock,.int .i64 x.make]
def fbkD (x : FBook) (m : Mp) (th : List (List Int)) (wr : List Int) : D := .agg [.sl false .sec x.chain.secs,.sl false .int x.chain.turns,.sl false .sv x.chain.svs,.int .i64 x.chain.rule,.int .i64 x.chain.days,.sl false .int x.feet,.int .i64 x.new,.sl false .int x.opn,.int .i64 x.stock,.int .i64 x.make,.map m,.sl false (.list .int) th,.sl false .int wr]
def wkD (x : Work) : D := .agg [.int .i64 x.d,.int .i64 x.s]
def work0 : Work := ⟨0,0⟩
def setsD (x : W4) : D := wD x.a x.b x.c x.d
def W4.get (x : W4) (s : Nat) : Int := [x.a,x.b,x.c,x.d].getD s 0

/-! ### Check -/
def fok0F (x : FBook) : Bool := (checkF x.chain == 0) && decide ((x.feet.length : Int) = x.chain.secs.length) && withinF x.new 0 200 && decide (x.opn.length ≤ 4) && withinF x.stock 0 200 && withinF x.make 0 9
def fok1F (x : FBook) (l : List Int) : Bool := l.foldl (fun ok n => ok && withinF n 1 30) (fok0F x)
def fok2F (x : FBook) (l : List Int) : Bool × Int := l.foldl (turnF x.chain.days) (fok1F x x.feet,-1)
/-- Is it a book of the forge? -/
def fvalidF (x : FBook) : Bool := (fok2F x x.opn).1
def fcheckF (x : FBook) : Int := if fvalidF x then 0 else 70

/-! ### Works and plans -/
/-- The map of works,in the order in which they come. -/
def worksS (m : List (K2 × Bool)) (d : Int) : Nat → List (K2 × Bool)
 | 0 => m
 | s + 1 => updK (worksS m d s) (d,(s : Int)) true
def worksO (x : FBook) : Nat → List (K2 × Bool)
 | 0 => [((-1,0),false)]
 | i + 1 => worksS (worksO x i) (x.opn.getD i 0) x.feet.length
def worksF (x : FBook) : List (K2 × Bool) := worksO x x.opn.length
def compareF (x y : Work) : Int := if x.d = y.d then x.s - y.s else x.d - y.d
def isWorkF (m : List (K2 × Bool)) (w : Work) : Bool := (lookK m (w.d,w.s)).getD false
/-- A work that may not stand behind another one. -/
def badF (m : List (K2 × Bool)) (last w : Work) : Bool := !(isWorkF m w) || (!(decide (last.d = -1 ∧ last.s = 0)) && decide (compareF last w ≥ 0))
def isPlanGo (m : List (K2 × Bool)) (last : Work) : List Work → Bool
 | [] => true
 | w :: r => if badF m last w = true then false else isPlanGo m w r
def isPlanF (m : List (K2 × Bool)) (plan : List Work) : Bool := isPlanGo m ⟨-1,0⟩ plan

/-! ### How thick -/
def fplaceF (x : FBook) (s d : Int) : Int := placeF x.feet.length x.chain.turns d s
def oldF (th : List (List Int)) (s d : Int) : Int := (th.getD s.toNat []).getD d.toNat 0
def freshF (x : FBook) (wr : List Int) (s c : Int) : Nat → Int
 | 0 => x.new
 | k + 1 => freshF x wr s c k - wr.getD (fplaceF x s (c + k)).toNat 0
/-- Was it changed up to a day,and when at last? -/
def lastStep (s d : Int) (p : Int × Int) (w : Work) : Int × Int := if w.s = s ∧ w.d ≤ d then (1,w.d) else p
def lastF (plan : List Work) (s d : Int) : Int × Int := plan.foldl (lastStep s d) (0,0)
def fleastF (x : FBook) (th : List (List Int)) (wr : List Int) (plan : List Work) (s d : Int) : Int :=
 if (lastF plan s d).1 = 0 then oldF th s d else freshF x wr s (lastF plan s d).2 (d - (lastF plan s d).2).toNat
/-- Is a section too thin on a day? The pairs are counted: day times sections,and section. -/
def fbadF (x : FBook) (th : List (List Int)) (wr : List Int) (plan : List Work) (d s : Nat) : Bool := decide (fleastF x th wr plan s d < x.chain.rule)
/-- The first section from s on,of k. -/
def fsecF (x : FBook) (th : List (List Int)) (wr : List Int) (plan : List Work) (d : Nat) : Option Nat := (List.range x.feet.length).find? (fbadF x th wr plan d)
def fthinGo (x : FBook) (th : List (List Int)) (wr : List Int) (plan : List Work) : Nat → Nat → Option (Nat × Nat)
 | 0,_ => none
 | k + 1,d => match fsecF x th wr plan d with
  | some s => some (d,s)
  | none => fthinGo x th wr plan k (d + 1)
def fthinF (x : FBook) (th : List (List Int)) (wr : List Int) (plan : List Work) : Option (Nat × Nat) := fthinGo x th wr plan (x.chain.days + 1).toNat 0

/-! ### Feet -/
def feetLF (x : FBook) (plan : List Work) : List Int := plan.map fun w => x.feet.getD w.s.toNat 0
def sumF (l : List Int) : Int := l.foldl (· + ·) 0
def feetF (x : FBook) (plan : List Work) : Int := sumF (feetLF x plan)
def needsTo (x : FBook) (plan : List Work) : Nat → Int
 | 0 => 0
 | k + 1 => mx (needsTo x plan k) (feetF x (plan.take (k + 1)) - x.make * (plan.getD k work0).d)
def needsF (x : FBook) (plan : List Work) : Int := needsTo x plan plan.length
def fgoodF (x : FBook) (plan : List Work) : Bool := decide (needsF x plan ≤ x.stock)
/-! ### Plans -/
/-- The meet of two sets. -/
def andF (a b : Int) : Int := IntKind.i64.wrap ((BitVec.ofInt 64 a &&& BitVec.ofInt 64 b).toNat : Int)
/-- Is a number in a set? -/
def bitF (set : Int) (k : Nat) : Bool := andF (set.fdiv (2 ^ min k 64)) 1 == 1
def plannedDay (x : FBook) (on : W4) (k : Nat) (l : List Work) : Nat → List Work
 | 0 => l
 | s + 1 => if bitF (on.get s) k = true then plannedDay x on k l s ++ [⟨x.opn.getD k 0,s⟩] else plannedDay x on k l s
def plannedTo (x : FBook) (on : W4) : Nat → List Work
 | 0 => []
 | k + 1 => plannedDay x on k (plannedTo x on k) x.feet.length
def plannedF (x : FBook) (on : W4) : List Work := plannedTo x on x.opn.length
def zeroW : W4 := ⟨0,0,0,0⟩
/-- Is it enough to change a section on a set of open days? -/
def keepsF (x : FBook) (th : List (List Int)) (wr : List Int) (s : Nat) (set : Int) : Bool :=
 (List.range (x.chain.days + 1).toNat).all fun d => !(decide (fleastF x th wr (plannedF x (zeroW.set s set)) s d < x.chain.rule))
def changesTo (x : FBook) (th : List (List Int)) (wr : List Int) (s : Nat) : Nat → List Int
 | 0 => []
 | k + 1 => if ((changesTo x th wr s k).any fun l => andF k l == l) = true then changesTo x th wr s k
  else if keepsF x th wr s k = true then changesTo x th wr s k ++ [(k : Int)] else changesTo x th wr s k
def changesF (x : FBook) (th : List (List Int)) (wr : List Int) (s : Nat) : List Int := changesTo x th wr s (2 ^ x.opn.length)
def plansGo (x : FBook) (all : List (List Int)) : Nat → Nat → W4 → List (List Work)
 | 0,_,on => [plannedF x on]
 | f + 1,s,on => (all.getD s []).flatMap fun set => plansGo x all f (s + 1) (on.set s set)
def allF (x : FBook) (th : List (List Int)) (wr : List Int) : List (List Int) := (List.range x.feet.length).map (changesF x th wr)
def plansF (x : FBook) (th : List (List Int)) (wr : List Int) : List (List Work) := plansGo x (allF x th wr) x.feet.length 0 zeroW

/-! ### The best one -/
def cmpPlans : List Work → List Work → Int
 | [],[] => 0
 | [],_ :: _ => -1
 | _ :: _,[] => 1
 | x :: l,y :: m => if compareF x y ≠ 0 then compareF x y else cmpPlans l m
def betterWF (x : FBook) (p q : List Work) : Bool := decide (feetF x p < feetF x q) || (decide (feetF x p = feetF x q) && decide (cmpPlans p q < 0))
def bestStep (x : FBook) (o : List Work × Bool) (p : List Work) : List Work × Bool := if fgoodF x p && (!o.2 || betterWF x p o.1) then (p,true) else o
def bestOf (x : FBook) (l : List (List Work)) : List Work × Bool := l.foldl (bestStep x) ([],false)
def bestF (x : FBook) (th : List (List Int)) (wr : List Int) : List Work × Bool := bestOf x (plansF x th wr)
def stockOf (x : FBook) (l : List (List Work)) : Int := l.foldl (fun n p => mn n (needsF x p)) 201
def stockF (x : FBook) (th : List (List Int)) (wr : List Int) : Int := stockOf x (plansF x th wr)

/-! ### What chain says -/
def wearHi (b : Book) (p : Int) : Int := (toldF (wearAt p) (truthsF b [])).hi
def thickLo (b : Book) (s d : Int) : Int := (thickF b (truthsF b []) b.turns s d).lo
def knowWr (x : FBook) : List Int := (List.range x.feet.length).map fun s => wearHi x.chain (s : Nat)
def knowTh (x : FBook) : List (List Int) := (List.range x.feet.length).map fun s => (List.range (x.chain.days + 1).toNat).map fun d => thickLo x.chain (s : Nat) (d : Nat)

/-! ### What is asked -/
def ferrF (x : FBook) (is : Bool) : Int := if fvalidF x = false then 70 else if is = false then 71 else if canF x.chain = false then 72 else 0
end Go.Di

namespace Go.Di
open Proofs
theorem fwithin_fn : FnOk PRG (MF 15) 142 (body Tryd.f142) [.tmp 6] := by refine ⟨Tryd.f142,?_,?_,?_,?_,?_⟩ <;> kernel_rfl
theorem fnever_fn : FnOk PRG (MF 3) 183 (body Tryd.f183) [.cell 0 196] := by refine ⟨Tryd.f183,?_,?_,?_,?_,?_⟩ <;> kernel_rfl
theorem fcompare_fn : FnOk PRG (MF 20) 177 (body Tryd.f177) [.tmp 4] := by refine ⟨Tryd.f177,?_,?_,?_,?_,?_⟩ <;> kernel_rfl
theorem fplace_fn : FnOk PRG (MF 30) 228 (body Tryd.f228) [.tmp 6] := by refine ⟨Tryd.f228,?_,?_,?_,?_,?_⟩ <;> kernel_rfl
theorem fold_fn : FnOk PRG (MF 17) 226 (body Tryd.f226) [.tmp 8] := by refine ⟨Tryd.f226,?_,?_,?_,?_,?_⟩ <;> kernel_rfl
theorem ffresh_fn : FnOk PRG (MF 34) 227 (body Tryd.f227) [.tmp 8] := by refine ⟨Tryd.f227,?_,?_,?_,?_,?_⟩ <;> kernel_rfl
theorem fleast_fn : FnOk PRG (MF 40) 143 (body Tryd.f143) [.tmp 8] := by refine ⟨Tryd.f143,?_,?_,?_,?_,?_⟩ <;> kernel_rfl
theorem fsum_fn : FnOk PRG (MF 17) 178 (body Tryd.f178) [.tmp 2] := by refine ⟨Tryd.f178,?_,?_,?_,?_,?_⟩ <;> kernel_rfl
theorem feetA_fn : FnOk PRG (MF 27) 147 (body Tryd.f147) [.tmp 4] := by refine ⟨Tryd.f147,?_,?_,?_,?_,?_⟩ <;> kernel_rfl
theorem fneeds_fn : FnOk PRG (MF 32) 148 (body Tryd.f148) [.tmp 4] := by refine ⟨Tryd.f148,?_,?_,?_,?_,?_⟩ <;> kernel_rfl
theorem fgood_fn : FnOk PRG (MF 12) 175 (body Tryd.f175) [.tmp 4] := by refine ⟨Tryd.f175,?_,?_,?_,?_,?_⟩ <;> kernel_rfl
theorem isPlan_fn : FnOk PRG (MF 33) 141 (body Tryd.f141) [.tmp 4] := by refine ⟨Tryd.f141,?_,?_,?_,?_,?_⟩ <;> kernel_rfl
theorem fthin_fn : FnOk PRG (MF 38) 145 (body Tryd.f145) [.tmp 4,.tmp 5,.tmp 6] := by refine ⟨Tryd.f145,?_,?_,?_,?_,?_⟩ <;> kernel_rfl
def fplace_S0 (x : FBook) (m : Mp) (th : List (List Int)) (wr : List Int) (s d : Int) (p : Int) (i : Nat) : List (Key × Val) :=
 [(.tmp 1,.d (.int .i64 p)),
  (.tmp 2,.d (D.int .i64 d)),
  (.tmp 3,.d (D.ptr 3 0)),
  (.tmp 12,.d (D.sl false E.int (Book.turns (FBook.chain x)))),
  (.tmp 13,.d (D.int .i64 ((List.length (Book.turns (FBook.chain x)) : Int)))),
  (.tmp 14,.d (.int .i64 i)),
  (.box 3,.bx (some (Box.mk false (cellsOf (fbkD x m th wr)))))]
def fplace_K0 : List Key := [.tmp 1,.tmp 2,.tmp 3,.tmp 12,.tmp 13,.tmp 14,.box 3]
def ffresh_S0 (x : FBook) (m : Mp) (th : List (List Int)) (wr : List Int) (s c d : Int) (n : Int) (i : Nat) : List (Key × Val) :=
 [(.tmp 1,.d (D.int .i64 s)),
  (.tmp 2,.d (D.int .i64 c)),
  (.tmp 4,.d (D.ptr 4 0)),
  (.tmp 9,.d (.int .i64 n)),
  (.tmp 16,.d (D.int .i64 (d - c))),
  (.tmp 17,.d (.int .i64 i)),
  (.box 4,.bx (some (Box.mk false (cellsOf (fbkD x m th wr)))))]
def ffresh_K0 : List Key := [.tmp 1,.tmp 2,.tmp 4,.tmp 9,.tmp 16,.tmp 17,.box 4]
def fleast_S0 (x : FBook) (m : Mp) (th : List (List Int)) (wr : List Int) (plan : List Work) (s d : Int) (k c : Int) (i : Nat) : List (Key × Val) :=
 [(.tmp 2,.d (D.int .i64 s)),
  (.tmp 3,.d (D.int .i64 d)),
  (.tmp 4,.d (D.ptr 4 0)),
  (.tmp 9,.d (.int .i64 k)),
  (.tmp 10,.d (.int .i64 c)),
  (.tmp 13,.d (D.sl false E.work plan)),
  (.tmp 14,.d (D.int .i64 ((List.length plan : Int)))),
  (.tmp 15,.d (.int .i64 i)),
  (.box 4,.bx (some (Box.mk false (cellsOf (fbkD x m th wr)))))]
def fleast_K0 : List Key := [.tmp 2,.tmp 3,.tmp 4,.tmp 9,.tmp 10,.tmp 13,.tmp 14,.tmp 15,.box 4]
def fsum_S0 (xs : List Int) (n : Int) (i : Nat) : List (Key × Val) :=
 [(.tmp 3,.d (.int .i64 n)),
  (.tmp 6,.d (D.sl false E.int xs)),
  (.tmp 7,.d (D.int .i64 ((List.length xs : Int)))),
  (.tmp 8,.d (.int .i64 i))]
def fsum_K0 : List Key := [.tmp 3,.tmp 6,.tmp 7,.tmp 8]
def feetB_S0 (x : FBook) (m : Mp) (th : List (List Int)) (wr : List Int) (plan : List Work) (y : Int) (r : List Int) (i : Nat) : List (Key × Val) :=
 [(.tmp 2,.d (D.ptr 2 0)),
  (.tmp 5,.d (.own 23 (y :: r).length)),
  (.tmp 8,.d (D.sl false E.work plan)),
  (.tmp 9,.d (D.int .i64 ((List.length plan : Int)))),
  (.tmp 10,.d (.int .i64 i)),
  (.box 2,.bx (some (Box.mk false (cellsOf (fbkD x m th wr))))),
  (.obj 23,.ob (some ⟨.int,y :: r⟩))]
def feetB_K0 : List Key := [.tmp 2,.tmp 5,.tmp 8,.tmp 9,.tmp 10,.box 2,.obj 23]
def feetA_S0 (x : FBook) (m : Mp) (th : List (List Int)) (wr : List Int) (plan : List Work) (i : Nat) : List (Key × Val) :=
 [(.tmp 2,.d (D.ptr 2 0)),
  (.tmp 5,.d (D.sl true E.int [])),
  (.tmp 8,.d (D.sl false E.work plan)),
  (.tmp 9,.d (D.int .i64 ((List.length plan : Int)))),
  (.tmp 10,.d (.int .i64 i)),
  (.box 2,.bx (some (Box.mk false (cellsOf (fbkD x m th wr))))),
  (.obj 23,.ob none)]
def feetA_K0 : List Key := [.tmp 2,.tmp 5,.tmp 8,.tmp 9,.tmp 10,.box 2,.obj 23]
def fneeds_S0 (x : FBook) (m : Mp) (th : List (List Int)) (wr : List Int) (plan : List Work) (n : Int) (i : Nat) : List (Key × Val) :=
 [(.tmp 1,.d (D.sl false E.work plan)),
  (.tmp 2,.d (D.ptr 2 0)),
  (.tmp 5,.d (.int .i64 n)),
  (.tmp 8,.d (D.sl false E.work plan)),
  (.tmp 9,.d (D.int .i64 ((List.length plan : Int)))),
  (.tmp 10,.d (.int .i64 i)),
  (.box 2,.bx (some (Box.mk false (cellsOf (fbkD x m th wr)))))]
def fneeds_K0 : List Key := [.tmp 1,.tmp 2,.tmp 5,.tmp 8,.tmp 9,.tmp 10,.box 2]
def isPlan_S0 (x : FBook) (l : List (K2 × Bool)) (th : List (List Int)) (wr : List Int) (plan : List Work) (la : Work) (i : Nat) : List (Key × Val) :=
 [(.tmp 2,.d (D.ptr 2 0)),
  (.tmp 5,.d (D.ptr 5 0)),
  (.tmp 9,.d (D.sl false E.work plan)),
  (.tmp 10,.d (D.int .i64 ((List.length plan : Int)))),
  (.tmp 11,.d (.int .i64 i)),
  (.box 2,.bx (some (Box.mk false (cellsOf (fbkD x (Mp.work l) th wr))))),
  (.box 5,.bx (some ⟨false,E.enc .work la⟩))]
def isPlan_K0 : List Key := [.tmp 2,.tmp 5,.tmp 9,.tmp 10,.tmp 11,.box 2,.box 5]
def fthin_S0 (x : FBook) (m : Mp) (th : List (List Int)) (wr : List Int) (plan : List Work) (i : Nat) : List (Key × Val) :=
 [(.tmp 1,.d (D.sl false E.work plan)),
  (.tmp 2,.d (D.ptr 2 0)),
  (.tmp 13,.d (D.int .i64 (Book.days (FBook.chain x) + (1 : Int)))),
  (.tmp 14,.d (.int .i64 i)),
  (.box 2,.bx (some (Box.mk false (cellsOf (fbkD x m th wr)))))]
def fthin_K0 : List Key := [.tmp 1,.tmp 2,.tmp 13,.tmp 14,.box 2]
def fthin_S2 (x : FBook) (m : Mp) (th : List (List Int)) (wr : List Int) (plan : List Work) (i j : Nat) : List (Key × Val) :=
 [(.tmp 1,.d (D.sl false E.work plan)),
  (.tmp 2,.d (D.ptr 2 0)),
  (.tmp 7,.d (.int .i64 i)),
  (.tmp 13,.d (D.int .i64 (Book.days (FBook.chain x) + (1 : Int)))),
  (.tmp 14,.d (.int .i64 i)),
  (.tmp 20,.d (D.int .i64 ((List.length (FBook.feet x) : Int)))),
  (.tmp 21,.d (.int .i64 j)),
  (.box 2,.bx (some (Box.mk false (cellsOf (fbkD x m th wr)))))]
def fthin_K2 : List Key := [.tmp 1,.tmp 2,.tmp 7,.tmp 13,.tmp 14,.tmp 20,.tmp 21,.box 2]
def isPlan_T0_none (x : FBook) (l : List (K2 × Bool)) (th : List (List Int)) (wr : List Int) (plan : List Work) (la : Work) (i : Nat)  : List (Key × Val) :=
 [(.tmp 2,.d (D.ptr 2 0)),(.tmp 5,.d (D.ptr 5 0)),(.tmp 9,.d (D.sl false E.work plan)),(.tmp 10,.d (D.int .i64 ((List.length plan : Int)))),(.tmp 11,.d (D.int .i64 (i : Int))),(.box 2,.bx (some (Box.mk false (cellsOf (fbkD x (Mp.work l) th wr))))),(.box 5,.bx (some (Box.mk false [D.int .i64 (Work.d la),D.int .i64 (Work.s la)]))),(.tmp 4,.d (D.bool false))]
def isPlan_T0_bad (x : FBook) (l : List (K2 × Bool)) (th : List (List Int)) (wr : List Int) (plan : List Work) (la : Work) (i : Nat) (c : Int) : List (Key × Val) :=
 [(.tmp 2,.d (D.ptr 2 0)),(.tmp 5,.d (D.ptr 5 0)),(.tmp 9,.d (D.sl false E.work plan)),(.tmp 10,.d (D.int .i64 ((List.length plan : Int)))),(.tmp 11,.d (D.int .i64 (i : Int))),(.box 2,.bx (some (Box.mk false (cellsOf (fbkD x (Mp.work l) th wr))))),(.box 5,.bx (some (Box.mk false [D.int .i64 (Work.d la),D.int .i64 (Work.s la)]))),(.tmp 4,.d (D.bool false))]
def fthin_T2_hit (x : FBook) (m : Mp) (th : List (List Int)) (wr : List Int) (plan : List Work) (i j : Nat) (v : Int) : List (Key × Val) :=
 [(.tmp 1,.d (D.sl false E.work plan)),(.tmp 2,.d (D.ptr 2 0)),(.tmp 7,.d (D.int .i64 (i : Int))),(.tmp 13,.d (D.int .i64 (Book.days (FBook.chain x) + (1 : Int)))),(.tmp 14,.d (D.int .i64 (i : Int))),(.tmp 20,.d (D.int .i64 ((List.length (FBook.feet x) : Int)))),(.tmp 21,.d (D.int .i64 (j : Int))),(.box 2,.bx (some (Box.mk false (cellsOf (fbkD x m th wr))))),(.tmp 4,.d (D.int .i64 (i : Int))),(.tmp 5,.d (D.int .i64 (j : Int))),(.tmp 6,.d (D.bool true))]
def fthin_T0_hit (x : FBook) (m : Mp) (th : List (List Int)) (wr : List Int) (plan : List Work) (i : Nat) (j : Nat) (v : Int) : List (Key × Val) :=
 [(.tmp 1,.d (D.sl false E.work plan)),(.tmp 2,.d (D.ptr 2 0)),(.tmp 13,.d (D.int .i64 (Book.days (FBook.chain x) + (1 : Int)))),(.tmp 14,.d (D.int .i64 (i : Int))),(.box 2,.bx (some (Box.mk false (cellsOf (fbkD x m th wr))))),(.tmp 4,.d (D.int .i64 (i : Int))),(.tmp 5,.d (D.int .i64 (j : Int))),(.tmp 6,.d (D.bool true))]
theorem fplace_0_yes (x : FBook) (m : Mp) (th : List (List Int)) (wr : List Int) (s d : Int) (p : Int) (i : Nat) :
  runK (MF 30) [(15,true),(20,true)] [] [] (Code.at [1,0,1,0,0] (body Tryd.f228)) (fplace_S0 x m th wr s d p i) fplace_K0 =
   some ([decide ((i : Int) < (List.length (Book.turns (FBook.chain x)) : Int)) = true,(0 : Int) ≤ (i : Int) ∧ (i : Int) < (List.length (Book.turns (FBook.chain x)) : Int),0 + 1 ≤ 1,decide (List.getD (Book.turns (FBook.chain x)) (i) (0 : Int) ≤ d) = true,inI64 ((List.length (FBook.feet x) : Int) - (1 : Int)),inI64 ((List.length (FBook.feet x) : Int) - (1 : Int) - p),inI64 ((i : Int) + (1 : Int))],Ex.normal,fplace_S0 x m th wr s d (x.feet.length - 1 - p) (i + 1)) := by kernel_rfl
theorem fplace_0_no (x : FBook) (m : Mp) (th : List (List Int)) (wr : List Int) (s d : Int) (p : Int) (i : Nat) :
  runK (MF 30) [(15,true),(20,false)] [] [] (Code.at [1,0,1,0,0] (body Tryd.f228)) (fplace_S0 x m th wr s d p i) fplace_K0 =
   some ([decide ((i : Int) < (List.length (Book.turns (FBook.chain x)) : Int)) = true,(0 : Int) ≤ (i : Int) ∧ (i : Int) < (List.length (Book.turns (FBook.chain x)) : Int),0 + 1 ≤ 1,decide (List.getD (Book.turns (FBook.chain x)) (i) (0 : Int) ≤ d) = false,inI64 ((i : Int) + (1 : Int))],Ex.normal,fplace_S0 x m th wr s d p (i + 1)) := by kernel_rfl
theorem fplace_0_end (x : FBook) (m : Mp) (th : List (List Int)) (wr : List Int) (s d : Int) (p : Int) (i : Nat) :
  runK (MF 30) [(15,false)] [] [] (Code.at [1,0,1,0,0] (body Tryd.f228)) (fplace_S0 x m th wr s d p i) fplace_K0 =
   some ([decide ((i : Int) < (List.length (Book.turns (FBook.chain x)) : Int)) = false],Ex.exit 0,fplace_S0 x m th wr s d p i) := by kernel_rfl
theorem ffresh_0_on (x : FBook) (m : Mp) (th : List (List Int)) (wr : List Int) (s c d : Int) (n : Int) (i : Nat) (p : Int) :
  runK (MF 34) [(18,true)] [(28,.int .i64 p)] [] (Code.at [1,1,0,1,0,0] (body Tryd.f227)) (ffresh_S0 x m th wr s c d n i) ffresh_K0 =
   some ([decide ((i : Int) < d - c) = true,inI64 (c + (i : Int)),CF 228 [fbkD x m th wr,D.int .i64 s,D.int .i64 (c + (i : Int))] (D.int .i64 p),(0 : Int) ≤ p ∧ p < (List.length wr : Int),0 + 1 ≤ 1,inI64 (n - List.getD wr (Int.toNat p) (0 : Int)),inI64 ((i : Int) + (1 : Int))],Ex.normal,ffresh_S0 x m th wr s c d (n - wr.getD p.toNat 0) (i + 1)) := by kernel_rfl
theorem ffresh_0_end (x : FBook) (m : Mp) (th : List (List Int)) (wr : List Int) (s c d : Int) (n : Int) (i : Nat) :
  runK (MF 34) [(18,false)] [] [] (Code.at [1,1,0,1,0,0] (body Tryd.f227)) (ffresh_S0 x m th wr s c d n i) ffresh_K0 =
   some ([decide ((i : Int) < d - c) = false],Ex.exit 0,ffresh_S0 x m th wr s c d n i) := by kernel_rfl
theorem fleast_0_yes (x : FBook) (m : Mp) (th : List (List Int)) (wr : List Int) (plan : List Work) (s d : Int) (k c : Int) (i : Nat) :
  runK (MF 40) [(16,true),(23,true),(28,true)] [] [] (Code.at [1,1,0,1,0,0] (body Tryd.f143)) (fleast_S0 x m th wr plan s d k c i) fleast_K0 =
   some ([decide ((i : Int) < (List.length plan : Int)) = true,(0 : Int) ≤ (i : Int) ∧ (i : Int) < (List.length plan : Int),0 + 2 ≤ 2,0 + 1 + 1 ≤ 2,(Work.s (List.getD plan (i) work0) == s) = true,(Work.s (List.getD plan (i) work0) == s) = true,0 + 0 + 1 ≤ 2,(Work.s (List.getD plan (i) work0) == s) = true,(Work.s (List.getD plan (i) work0) == s) = true,(Work.s (List.getD plan (i) work0) == s) = true,decide (Work.d (List.getD plan (i) work0) ≤ d) = true,0 + 0 + 1 ≤ 2,inI64 ((i : Int) + (1 : Int))],Ex.normal,fleast_S0 x m th wr plan s d 1 (plan.getD i work0).d (i + 1)) := by kernel_rfl
theorem fleast_0_no1 (x : FBook) (m : Mp) (th : List (List Int)) (wr : List Int) (plan : List Work) (s d : Int) (k c : Int) (i : Nat) :
  runK (MF 40) [(16,true),(23,false)] [] [] (Code.at [1,1,0,1,0,0] (body Tryd.f143)) (fleast_S0 x m th wr plan s d k c i) fleast_K0 =
   some ([decide ((i : Int) < (List.length plan : Int)) = true,(0 : Int) ≤ (i : Int) ∧ (i : Int) < (List.length plan : Int),0 + 2 ≤ 2,0 + 1 + 1 ≤ 2,(Work.s (List.getD plan (i) work0) == s) = false,(Work.s (List.getD plan (i) work0) == s) = false,(Work.s (List.getD plan (i) work0) == s) = false,(Work.s (List.getD plan (i) work0) == s) = false,(Work.s (List.getD plan (i) work0) == s) = false,inI64 ((i : Int) + (1 : Int))],Ex.normal,fleast_S0 x m th wr plan s d k c (i + 1)) := by kernel_rfl
theorem fleast_0_no2 (x : FBook) (m : Mp) (th : List (List Int)) (wr : List Int) (plan : List Work) (s d : Int) (k c : Int) (i : Nat) :
  runK (MF 40) [(16,true),(23,true),(28,false)] [] [] (Code.at [1,1,0,1,0,0] (body Tryd.f143)) (fleast_S0 x m th wr plan s d k c i) fleast_K0 =
   some ([decide ((i : Int) < (List.length plan : Int)) = true,(0 : Int) ≤ (i : Int) ∧ (i : Int) < (List.length plan : Int),0 + 2 ≤ 2,0 + 1 + 1 ≤ 2,(Work.s (List.getD plan (i) work0) == s) = true,(Work.s (List.getD plan (i) work0) == s) = true,0 + 0 + 1 ≤ 2,(Work.s (List.getD plan (i) work0) == s) = true,(Work.s (List.getD plan (i) work0) == s) = true,(Work.s (List.getD plan (i) work0) == s) = true,decide (Work.d (List.getD plan (i) work0) ≤ d) = false,inI64 ((i : Int) + (1 : Int))],Ex.normal,fleast_S0 x m th wr plan s d k c (i + 1)) := by kernel_rfl
theorem fleast_0_end (x : FBook) (m : Mp) (th : List (List Int)) (wr : List Int) (plan : List Work) (s d : Int) (k c : Int) (i : Nat) :
  runK (MF 40) [(16,false)] [] [] (Code.at [1,1,0,1,0,0] (body Tryd.f143)) (fleast_S0 x m th wr plan s d k c i) fleast_K0 =
   some ([decide ((i : Int) < (List.length plan : Int)) = false],Ex.exit 0,fleast_S0 x m th wr plan s d k c i) := by kernel_rfl
theorem fsum_0_on (xs : List Int) (n : Int) (i : Nat) :
  runK (MF 17) [(9,true)] [] [] (Code.at [1,1,0,1,0,0] (body Tryd.f178)) (fsum_S0 xs n i) fsum_K0 =
   some ([decide ((i : Int) < (List.length xs : Int)) = true,(0 : Int) ≤ (i : Int) ∧ (i : Int) < (List.length xs : Int),0 + 1 ≤ 1,inI64 (n + List.getD xs (i) (0 : Int)),inI64 ((i : Int) + (1 : Int))],Ex.normal,fsum_S0 xs (n + xs.getD i 0) (i + 1)) := by kernel_rfl
theorem fsum_0_end (xs : List Int) (n : Int) (i : Nat) :
  runK (MF 17) [(9,false)] [] [] (Code.at [1,1,0,1,0,0] (body Tryd.f178)) (fsum_S0 xs n i) fsum_K0 =
   some ([decide ((i : Int) < (List.length xs : Int)) = false],Ex.exit 0,fsum_S0 xs n i) := by kernel_rfl
theorem feetB_0_on (x : FBook) (m : Mp) (th : List (List Int)) (wr : List Int) (plan : List Work) (y : Int) (r : List Int) (i : Nat) :
  runK (MF 27) [(11,true)] [] [] (Code.at [1,1,0,1,0,0] (body Tryd.f147)) (feetB_S0 x m th wr plan y r i) feetB_K0 =
   some ([decide ((i : Int) < (List.length plan : Int)) = true,(0 : Int) ≤ (i : Int) ∧ (i : Int) < (List.length plan : Int),0 + 2 ≤ 2,0 + 1 + 1 ≤ 2,(0 : Int) ≤ Work.s (List.getD plan (i) work0) ∧ Work.s (List.getD plan (i) work0) < (List.length (FBook.feet x) : Int),0 + 1 ≤ 1,List.length (y :: r) = List.length ((y :: r)),List.length ((y :: r) ++ [List.getD (FBook.feet x) (Int.toNat (Work.s (List.getD plan (i) work0))) (0 : Int)]) * (8 + 1) ≤ 140737488355328,inI64 ((i : Int) + (1 : Int))],Ex.normal,feetB_S0 x m th wr plan y (r ++ [(x.feet.getD (plan.getD i work0).s.toNat 0)]) (i + 1)) := by kernel_rfl
theorem feetB_0_end (x : FBook) (m : Mp) (th : List (List Int)) (wr : List Int) (plan : List Work) (y : Int) (r : List Int) (i : Nat) :
  runK (MF 27) [(11,false)] [] [] (Code.at [1,1,0,1,0,0] (body Tryd.f147)) (feetB_S0 x m th wr plan y r i) feetB_K0 =
   some ([decide ((i : Int) < (List.length plan : Int)) = false],Ex.exit 0,feetB_S0 x m th wr plan y r i) := by kernel_rfl
theorem feetA_0_on (x : FBook) (m : Mp) (th : List (List Int)) (wr : List Int) (plan : List Work) (i : Nat) :
  runK (MF 27) [(11,true)] [] [] (Code.at [1,1,0,1,0,0] (body Tryd.f147)) (feetA_S0 x m th wr plan i) feetB_K0 =
   some ([decide ((i : Int) < (List.length plan : Int)) = true,(0 : Int) ≤ (i : Int) ∧ (i : Int) < (List.length plan : Int),0 + 2 ≤ 2,0 + 1 + 1 ≤ 2,(0 : Int) ≤ Work.s (List.getD plan (i) work0) ∧ Work.s (List.getD plan (i) work0) < (List.length (FBook.feet x) : Int),0 + 1 ≤ 1,1 * (8 + 1) ≤ 140737488355328,inI64 ((i : Int) + (1 : Int))],Ex.normal,feetB_S0 x m th wr plan (x.feet.getD (plan.getD i work0).s.toNat 0) [] (i + 1)) := by kernel_rfl
theorem feetA_0_end (x : FBook) (m : Mp) (th : List (List Int)) (wr : List Int) (plan : List Work) (i : Nat) :
  runK (MF 27) [(11,false)] [] [] (Code.at [1,1,0,1,0,0] (body Tryd.f147)) (feetA_S0 x m th wr plan i) feetA_K0 =
   some ([decide ((i : Int) < (List.length plan : Int)) = false],Ex.exit 0,feetA_S0 x m th wr plan i) := by kernel_rfl
theorem fneeds_0_on (x : FBook) (m : Mp) (th : List (List Int)) (wr : List Int) (plan : List Work) (n : Int) (i : Nat) (v : Int) :
  runK (MF 32) [(11,true)] [(21,.int .i64 v)] [] (Code.at [1,1,0,1,0,0] (body Tryd.f148)) (fneeds_S0 x m th wr plan n i) fneeds_K0 =
   some ([decide ((i : Int) < (List.length plan : Int)) = true,(0 : Int) ≤ (i : Int) ∧ (i : Int) < (List.length plan : Int),0 + 2 ≤ 2,inI64 ((i : Int) + (1 : Int)),(0 : Int) ≤ (0 : Int) ∧ (0 : Int) ≤ (i : Int) + (1 : Int) ∧ (i : Int) + (1 : Int) ≤ (List.length plan : Int),CF 147 [fbkD x m th wr,D.sl false E.work (List.drop 0 (List.take (Int.toNat ((i : Int) + (1 : Int))) plan))] (D.int .i64 v),0 + 0 + 1 ≤ 2,inI64 (FBook.make x * Work.d (List.getD plan (i) work0)),inI64 (v - FBook.make x * Work.d (List.getD plan (i) work0)),inI64 ((i : Int) + (1 : Int))],Ex.normal,fneeds_S0 x m th wr plan (mx n (v - x.make * (plan.getD i work0).d)) (i + 1)) := by kernel_rfl
theorem fneeds_0_end (x : FBook) (m : Mp) (th : List (List Int)) (wr : List Int) (plan : List Work) (n : Int) (i : Nat) :
  runK (MF 32) [(11,false)] [] [] (Code.at [1,1,0,1,0,0] (body Tryd.f148)) (fneeds_S0 x m th wr plan n i) fneeds_K0 =
   some ([decide ((i : Int) < (List.length plan : Int)) = false],Ex.exit 0,fneeds_S0 x m th wr plan n i) := by kernel_rfl
theorem isPlan_0_none (x : FBook) (l : List (K2 × Bool)) (th : List (List Int)) (wr : List Int) (plan : List Work) (la : Work) (i : Nat) :
  runK (MF 33) [(12,true),(20,true)] [] [] (Code.at [1,1,0,1,0,0] (body Tryd.f141)) (isPlan_S0 x l th wr plan la i) [.tmp 2,.tmp 5,.tmp 9,.tmp 10,.tmp 11,.box 2,.box 5,.tmp 4] =
   some ([decide ((i : Int) < (List.length plan : Int)) = true,(0 : Int) ≤ (i : Int) ∧ (i : Int) < (List.length plan : Int),0 + 2 ≤ 2,0 + 2 ≤ 2,(!Option.getD (lookK l (Work.d (List.getD plan (i) work0),Work.s (List.getD plan (i) work0))) false) = true,(!Option.getD (lookK l (Work.d (List.getD plan (i) work0),Work.s (List.getD plan (i) work0))) false) = true,(!Option.getD (lookK l (Work.d (List.getD plan (i) work0),Work.s (List.getD plan (i) work0))) false) = true,(!Option.getD (lookK l (Work.d (List.getD plan (i) work0),Work.s (List.getD plan (i) work0))) false) = true,(!Option.getD (lookK l (Work.d (List.getD plan (i) work0),Work.s (List.getD plan (i) work0))) false) = true,(!Option.getD (lookK l (Work.d (List.getD plan (i) work0),Work.s (List.getD plan (i) work0))) false) = true],Ex.ret,isPlan_T0_none x l th wr plan la i ) := by kernel_rfl
theorem isPlan_0_first (x : FBook) (l : List (K2 × Bool)) (th : List (List Int)) (wr : List Int) (plan : List Work) (la : Work) (i : Nat) :
  runK (MF 33) [(12,true),(20,false),(24,false)] [] [] (Code.at [1,1,0,1,0,0] (body Tryd.f141)) (isPlan_S0 x l th wr plan la i) isPlan_K0 =
   some ([decide ((i : Int) < (List.length plan : Int)) = true,(0 : Int) ≤ (i : Int) ∧ (i : Int) < (List.length plan : Int),0 + 2 ≤ 2,0 + 2 ≤ 2,(!Option.getD (lookK l (Work.d (List.getD plan (i) work0),Work.s (List.getD plan (i) work0))) false) = false,0 + 2 ≤ 2,(!Option.getD (lookK l (Work.d (List.getD plan (i) work0),Work.s (List.getD plan (i) work0))) false) = false,0 + 2 ≤ 2,(!Option.getD (lookK l (Work.d (List.getD plan (i) work0),Work.s (List.getD plan (i) work0))) false) = false,(!Option.getD (lookK l (Work.d (List.getD plan (i) work0),Work.s (List.getD plan (i) work0))) false) = false,(!eqI [Work.d la,Work.s la] [-(1 : Int),(0 : Int)]) = false,(!eqI [Work.d la,Work.s la] [-(1 : Int),(0 : Int)]) = false,(!eqI [Work.d la,Work.s la] [-(1 : Int),(0 : Int)]) = false,(!eqI [Work.d la,Work.s la] [-(1 : Int),(0 : Int)]) = false,(!Option.getD (lookK l (Work.d (List.getD plan (i) work0),Work.s (List.getD plan (i) work0))) false) = false,(!eqI [Work.d la,Work.s la] [-(1 : Int),(0 : Int)]) = false,(!Option.getD (lookK l (Work.d (List.getD plan (i) work0),Work.s (List.getD plan (i) work0))) false) = false,0 + 2 ≤ 2,inI64 ((i : Int) + (1 : Int))],Ex.normal,isPlan_S0 x l th wr plan (plan.getD i work0) (i + 1)) := by kernel_rfl
theorem isPlan_0_ok (x : FBook) (l : List (K2 × Bool)) (th : List (List Int)) (wr : List Int) (plan : List Work) (la : Work) (i : Nat) (c : Int) :
  runK (MF 33) [(12,true),(20,false),(24,true),(30,false)] [(27,.int .i64 c)] [] (Code.at [1,1,0,1,0,0] (body Tryd.f141)) (isPlan_S0 x l th wr plan la i) isPlan_K0 =
   some ([decide ((i : Int) < (List.length plan : Int)) = true,(0 : Int) ≤ (i : Int) ∧ (i : Int) < (List.length plan : Int),0 + 2 ≤ 2,0 + 2 ≤ 2,(!Option.getD (lookK l (Work.d (List.getD plan (i) work0),Work.s (List.getD plan (i) work0))) false) = false,0 + 2 ≤ 2,(!Option.getD (lookK l (Work.d (List.getD plan (i) work0),Work.s (List.getD plan (i) work0))) false) = false,0 + 2 ≤ 2,(!Option.getD (lookK l (Work.d (List.getD plan (i) work0),Work.s (List.getD plan (i) work0))) false) = false,(!Option.getD (lookK l (Work.d (List.getD plan (i) work0),Work.s (List.getD plan (i) work0))) false) = false,(!eqI [Work.d la,Work.s la] [-(1 : Int),(0 : Int)]) = true,0 + 2 ≤ 2,(!eqI [Work.d la,Work.s la] [-(1 : Int),(0 : Int)]) = true,0 + 2 ≤ 2,(!eqI [Work.d la,Work.s la] [-(1 : Int),(0 : Int)]) = true,CF 177 [D.agg [D.int .i64 (Work.d la),D.int .i64 (Work.s la)],D.agg [D.int .i64 (Work.d (List.getD plan (i) work0)),D.int .i64 (Work.s (List.getD plan (i) work0))]] (D.int .i64 c),(!eqI [Work.d la,Work.s la] [-(1 : Int),(0 : Int)]) = true,(!Option.getD (lookK l (Work.d (List.getD plan (i) work0),Work.s (List.getD plan (i) work0))) false) = false,(!eqI [Work.d la,Work.s la] [-(1 : Int),(0 : Int)]) = true,(!Option.getD (lookK l (Work.d (List.getD plan (i) work0),Work.s (List.getD plan (i) work0))) false) = false,decide (c ≥ (0 : Int)) = false,0 + 2 ≤ 2,inI64 ((i : Int) + (1 : Int))],Ex.normal,isPlan_S0 x l th wr plan (plan.getD i work0) (i + 1)) := by kernel_rfl
theorem isPlan_0_bad (x : FBook) (l : List (K2 × Bool)) (th : List (List Int)) (wr : List Int) (plan : List Work) (la : Work) (i : Nat) (c : Int) :
  runK (MF 33) [(12,true),(20,false),(24,true),(30,true)] [(27,.int .i64 c)] [] (Code.at [1,1,0,1,0,0] (body Tryd.f141)) (isPlan_S0 x l th wr plan la i) [.tmp 2,.tmp 5,.tmp 9,.tmp 10,.tmp 11,.box 2,.box 5,.tmp 4] =
   some ([decide ((i : Int) < (List.length plan : Int)) = true,(0 : Int) ≤ (i : Int) ∧ (i : Int) < (List.length plan : Int),0 + 2 ≤ 2,0 + 2 ≤ 2,(!Option.getD (lookK l (Work.d (List.getD plan (i) work0),Work.s (List.getD plan (i) work0))) false) = false,0 + 2 ≤ 2,(!Option.getD (lookK l (Work.d (List.getD plan (i) work0),Work.s (List.getD plan (i) work0))) false) = false,0 + 2 ≤ 2,(!Option.getD (lookK l (Work.d (List.getD plan (i) work0),Work.s (List.getD plan (i) work0))) false) = false,(!Option.getD (lookK l (Work.d (List.getD plan (i) work0),Work.s (List.getD plan (i) work0))) false) = false,(!eqI [Work.d la,Work.s la] [-(1 : Int),(0 : Int)]) = true,0 + 2 ≤ 2,(!eqI [Work.d la,Work.s la] [-(1 : Int),(0 : Int)]) = true,0 + 2 ≤ 2,(!eqI [Work.d la,Work.s la] [-(1 : Int),(0 : Int)]) = true,CF 177 [D.agg [D.int .i64 (Work.d la),D.int .i64 (Work.s la)],D.agg [D.int .i64 (Work.d (List.getD plan (i) work0)),D.int .i64 (Work.s (List.getD plan (i) work0))]] (D.int .i64 c),(!eqI [Work.d la,Work.s la] [-(1 : Int),(0 : Int)]) = true,(!Option.getD (lookK l (Work.d (List.getD plan (i) work0),Work.s (List.getD plan (i) work0))) false) = false,(!eqI [Work.d la,Work.s la] [-(1 : Int),(0 : Int)]) = true,(!Option.getD (lookK l (Work.d (List.getD plan (i) work0),Work.s (List.getD plan (i) work0))) false) = false,decide (c ≥ (0 : Int)) = true],Ex.ret,isPlan_T0_bad x l th wr plan la i c) := by kernel_rfl
theorem isPlan_0_end (x : FBook) (l : List (K2 × Bool)) (th : List (List Int)) (wr : List Int) (plan : List Work) (la : Work) (i : Nat) :
  runK (MF 33) [(12,false)] [] [] (Code.at [1,1,0,1,0,0] (body Tryd.f141)) (isPlan_S0 x l th wr plan la i) isPlan_K0 =
   some ([decide ((i : Int) < (List.length plan : Int)) = false],Ex.exit 0,isPlan_S0 x l th wr plan la i) := by kernel_rfl
theorem fthin_0_on (x : FBook) (m : Mp) (th : List (List Int)) (wr : List Int) (plan : List Work) (i : Nat) (j : Nat) :
  runK (MF 38) [(15,true)] [] [(2,(fthin_K2,(.normal,fthin_S2 x m th wr plan i j)))] (Code.at [1,0,1,0,0] (body Tryd.f145)) (fthin_S0 x m th wr plan i) fthin_K0 =
   some ([decide ((i : Int) < Book.days (FBook.chain x) + (1 : Int)) = true,LF 38 (Code.at [1,0,1,0,0,1,1,0,0,1,1] (body Tryd.f145)) [(.tmp 1,.d (D.sl false E.work plan)),(.tmp 2,.d (D.ptr 2 0)),(.tmp 7,.d (D.int .i64 (i : Int))),(.tmp 13,.d (D.int .i64 (Book.days (FBook.chain x) + (1 : Int)))),(.tmp 14,.d (D.int .i64 (i : Int))),(.tmp 20,.d (D.int .i64 ((List.length (FBook.feet x) : Int)))),(.tmp 21,.d (D.int .i64 0)),(.box 2,.bx (some (Box.mk false (cellsOf (fbkD x m th wr)))))] Ex.normal (fthin_S2 x m th wr plan i j),inI64 ((i : Int) + (1 : Int))],Ex.normal,fthin_S0 x m th wr plan (i + 1)) := by kernel_rfl
theorem fthin_0_hit (x : FBook) (m : Mp) (th : List (List Int)) (wr : List Int) (plan : List Work) (i : Nat) (j : Nat) (v : Int) :
  runK (MF 38) [(15,true)] [] [(2,(fthin_K2,(.ret,fthin_T2_hit x m th wr plan i j v)))] (Code.at [1,0,1,0,0] (body Tryd.f145)) (fthin_S0 x m th wr plan i) [.tmp 1,.tmp 2,.tmp 13,.tmp 14,.box 2,.tmp 4,.tmp 5,.tmp 6] =
   some ([decide ((i : Int) < Book.days (FBook.chain x) + (1 : Int)) = true,LF 38 (Code.at [1,0,1,0,0,1,1,0,0,1,1] (body Tryd.f145)) [(.tmp 1,.d (D.sl false E.work plan)),(.tmp 2,.d (D.ptr 2 0)),(.tmp 7,.d (D.int .i64 (i : Int))),(.tmp 13,.d (D.int .i64 (Book.days (FBook.chain x) + (1 : Int)))),(.tmp 14,.d (D.int .i64 (i : Int))),(.tmp 20,.d (D.int .i64 ((List.length (FBook.feet x) : Int)))),(.tmp 21,.d (D.int .i64 0)),(.box 2,.bx (some (Box.mk false (cellsOf (fbkD x m th wr)))))] Ex.ret (fthin_T2_hit x m th wr plan i j v)],Ex.ret,fthin_T0_hit x m th wr plan i j v) := by kernel_rfl
theorem fthin_0_end (x : FBook) (m : Mp) (th : List (List Int)) (wr : List Int) (plan : List Work) (i : Nat) :
  runK (MF 38) [(15,false)] [] [] (Code.at [1,0,1,0,0] (body Tryd.f145)) (fthin_S0 x m th wr plan i) fthin_K0 =
   some ([decide ((i : Int) < Book.days (FBook.chain x) + (1 : Int)) = false],Ex.exit 0,fthin_S0 x m th wr plan i) := by kernel_rfl
theorem fthin_2_on (x : FBook) (m : Mp) (th : List (List Int)) (wr : List Int) (plan : List Work) (i j : Nat) (v : Int) :
  runK (MF 38) [(22,true),(33,false)] [(28,.int .i64 v)] [] (Code.at [1,0,1,0,0,1,1,0,0,1,1,0,0] (body Tryd.f145)) (fthin_S2 x m th wr plan i j) fthin_K2 =
   some ([decide ((j : Int) < (List.length (FBook.feet x) : Int)) = true,CF 143 [fbkD x m th wr,D.sl false E.work plan,D.int .i64 (j : Int),D.int .i64 (i : Int)] (D.int .i64 v),decide (v < Book.rule (FBook.chain x)) = false,inI64 ((j : Int) + (1 : Int))],Ex.normal,fthin_S2 x m th wr plan i (j + 1)) := by kernel_rfl
theorem fthin_2_hit (x : FBook) (m : Mp) (th : List (List Int)) (wr : List Int) (plan : List Work) (i j : Nat) (v : Int) :
  runK (MF 38) [(22,true),(33,true)] [(28,.int .i64 v)] [] (Code.at [1,0,1,0,0,1,1,0,0,1,1,0,0] (body Tryd.f145)) (fthin_S2 x m th wr plan i j) [.tmp 1,.tmp 2,.tmp 7,.tmp 13,.tmp 14,.tmp 20,.tmp 21,.box 2,.tmp 4,.tmp 5,.tmp 6] =
   some ([decide ((j : Int) < (List.length (FBook.feet x) : Int)) = true,CF 143 [fbkD x m th wr,D.sl false E.work plan,D.int .i64 (j : Int),D.int .i64 (i : Int)] (D.int .i64 v),decide (v < Book.rule (FBook.chain x)) = true],Ex.ret,fthin_T2_hit x m th wr plan i j v) := by kernel_rfl
theorem fthin_2_end (x : FBook) (m : Mp) (th : List (List Int)) (wr : List Int) (plan : List Work) (i j : Nat) :
  runK (MF 38) [(22,false)] [] [] (Code.at [1,0,1,0,0,1,1,0,0,1,1,0,0] (body Tryd.f145)) (fthin_S2 x m th wr plan i j) fthin_K2 =
   some ([decide ((j : Int) < (List.length (FBook.feet x) : Int)) = false],Ex.exit 2,fthin_S2 x m th wr plan i j) := by kernel_rfl
theorem fwithin_no (n lo hi : Int) :
  callF (MF 15) [(10,false)] [] [] (body Tryd.f142) [.tmp 6] [.int .i64 n,.int .i64 lo,.int .i64 hi] =
   some ([decide (lo ≤ n) = false,decide (lo ≤ n) = false,decide (lo ≤ n) = false,decide (lo ≤ n) = false],D.bool false) := by kernel_rfl
theorem fwithin_yes (n lo hi : Int) :
  callF (MF 15) [(10,true)] [] [] (body Tryd.f142) [.tmp 6] [.int .i64 n,.int .i64 lo,.int .i64 hi] =
   some ([decide (lo ≤ n) = true,decide (lo ≤ n) = true,decide (lo ≤ n) = true,decide (lo ≤ n) = true],D.bool (decide (n ≤ hi))) := by kernel_rfl
theorem fnever_all  :
  callF (MF 3) [] [] [] (body Tryd.f183) [.cell 0 196] [] =
   some ([0 + 4 ≤ 4,0 + 4 ≤ 4],D.agg [D.int .i64 0,D.int .i64 0,D.int .i64 0,D.int .i64 0]) := by kernel_rfl
theorem fcompare_ne (a b : Work) :
  callF (MF 20) [(9,true)] [] [] (body Tryd.f177) [.tmp 4] [wkD a,wkD b] =
   some ([0 + 0 + 1 ≤ 2,0 + 0 + 1 ≤ 2,(Work.d a != Work.d b) = true,0 + 0 + 1 ≤ 2,0 + 0 + 1 ≤ 2,inI64 (Work.d a - Work.d b)],D.int .i64 (Work.d a - Work.d b)) := by kernel_rfl
theorem fcompare_eq (a b : Work) :
  callF (MF 20) [(9,false)] [] [] (body Tryd.f177) [.tmp 4] [wkD a,wkD b] =
   some ([0 + 0 + 1 ≤ 2,0 + 0 + 1 ≤ 2,(Work.d a != Work.d b) = false,0 + 1 + 1 ≤ 2,0 + 1 + 1 ≤ 2,inI64 (Work.s a - Work.s b)],D.int .i64 (Work.s a - Work.s b)) := by kernel_rfl
theorem fplace_all (x : FBook) (m : Mp) (th : List (List Int)) (wr : List Int) (s d : Int) (p : Int) (i : Nat) :
  callF (MF 30) [] [] [(0,(fplace_K0,(.normal,fplace_S0 x m th wr s d p i)))] (body Tryd.f228) [.tmp 6] [fbkD x m th wr,.int .i64 s,.int .i64 d] =
   some ([LF 30 (Code.at [1,0,1] (body Tryd.f228)) [(.tmp 1,.d (D.int .i64 s)),(.tmp 2,.d (D.int .i64 d)),(.tmp 3,.d (D.ptr 3 0)),(.tmp 12,.d (D.sl false E.int (Book.turns (FBook.chain x)))),(.tmp 13,.d (D.int .i64 ((List.length (Book.turns (FBook.chain x)) : Int)))),(.tmp 14,.d (D.int .i64 0)),(.box 3,.bx (some (Box.mk false (cellsOf (fbkD x m th wr)))))] Ex.normal (fplace_S0 x m th wr s d p i)],D.int .i64 p) := by kernel_rfl
theorem fold_all (x : FBook) (m : Mp) (th : List (List Int)) (wr : List Int) (s c d : Int) :
  callF (MF 17) [] [] [] (body Tryd.f226) [.tmp 8] [fbkD x m th wr,.int .i64 s,.int .i64 c,.int .i64 d] =
   some ([(0 : Int) ≤ s ∧ s < (List.length th : Int),(0 : Int) ≤ d ∧ d < (Nat.cast : Nat → Int) (List.length (List.getD th (Int.toNat s) (E.z (E.list E.int)))),0 + 1 ≤ 1],D.int .i64 (List.getD (List.getD th (Int.toNat s) (E.z (E.list E.int))) (Int.toNat d) (0 : Int))) := by kernel_rfl
theorem ffresh_all (x : FBook) (m : Mp) (th : List (List Int)) (wr : List Int) (s c d : Int) (n : Int) (i : Nat) :
  callF (MF 34) [] [] [(0,(ffresh_K0,(.normal,ffresh_S0 x m th wr s c d n i)))] (body Tryd.f227) [.tmp 8] [fbkD x m th wr,.int .i64 s,.int .i64 c,.int .i64 d] =
   some ([inI64 (d - c),LF 34 (Code.at [1,1,0,1] (body Tryd.f227)) [(.tmp 1,.d (D.int .i64 s)),(.tmp 2,.d (D.int .i64 c)),(.tmp 4,.d (D.ptr 4 0)),(.tmp 9,.d (D.int .i64 (FBook.new x))),(.tmp 16,.d (D.int .i64 (d - c))),(.tmp 17,.d (D.int .i64 0)),(.box 4,.bx (some (Box.mk false (cellsOf (fbkD x m th wr)))))] Ex.normal (ffresh_S0 x m th wr s c d n i)],D.int .i64 n) := by kernel_rfl
theorem fleast_old (x : FBook) (m : Mp) (th : List (List Int)) (wr : List Int) (plan : List Work) (s d : Int) (v c : Int) (i : Nat) :
  callF (MF 40) [] [(39,.int .i64 v)] [(0,(fleast_K0,(.normal,fleast_S0 x m th wr plan s d 0 c i)))] (body Tryd.f143) [.tmp 8] [fbkD x m th wr,.sl false .work plan,.int .i64 s,.int .i64 d] =
   some ([LF 40 (Code.at [1,1,0,1] (body Tryd.f143)) [(.tmp 2,.d (D.int .i64 s)),(.tmp 3,.d (D.int .i64 d)),(.tmp 4,.d (D.ptr 4 0)),(.tmp 9,.d (D.int .i64 0)),(.tmp 10,.d (D.int .i64 0)),(.tmp 13,.d (D.sl false E.work plan)),(.tmp 14,.d (D.int .i64 ((List.length plan : Int)))),(.tmp 15,.d (D.int .i64 0)),(.box 4,.bx (some (Box.mk false (cellsOf (fbkD x m th wr)))))] Ex.normal (fleast_S0 x m th wr plan s d (0 : Int) c i),(0 : Int) ≤ (0 : Int) ∧ (0 : Int) < (Nat.cast : Nat → Int) 2,CF 226 [fbkD x m th wr,D.int .i64 s,D.int .i64 c,D.int .i64 d] (D.int .i64 v)],D.int .i64 v) := by kernel_rfl
theorem fleast_new (x : FBook) (m : Mp) (th : List (List Int)) (wr : List Int) (plan : List Work) (s d : Int) (v c : Int) (i : Nat) :
  callF (MF 40) [] [(39,.int .i64 v)] [(0,(fleast_K0,(.normal,fleast_S0 x m th wr plan s d 1 c i)))] (body Tryd.f143) [.tmp 8] [fbkD x m th wr,.sl false .work plan,.int .i64 s,.int .i64 d] =
   some ([LF 40 (Code.at [1,1,0,1] (body Tryd.f143)) [(.tmp 2,.d (D.int .i64 s)),(.tmp 3,.d (D.int .i64 d)),(.tmp 4,.d (D.ptr 4 0)),(.tmp 9,.d (D.int .i64 0)),(.tmp 10,.d (D.int .i64 0)),(.tmp 13,.d (D.sl false E.work plan)),(.tmp 14,.d (D.int .i64 ((List.length plan : Int)))),(.tmp 15,.d (D.int .i64 0)),(.box 4,.bx (some (Box.mk false (cellsOf (fbkD x m th wr)))))] Ex.normal (fleast_S0 x m th wr plan s d (1 : Int) c i),(0 : Int) ≤ (1 : Int) ∧ (1 : Int) < (Nat.cast : Nat → Int) 2,CF 227 [fbkD x m th wr,D.int .i64 s,D.int .i64 c,D.int .i64 d] (D.int .i64 v)],D.int .i64 v) := by kernel_rfl
theorem fsum_all (xs : List Int) (n : Int) (i : Nat) :
  callF (MF 17) [] [] [(0,(fsum_K0,(.normal,fsum_S0 xs n i)))] (body Tryd.f178) [.tmp 2] [.sl false .int xs] =
   some ([LF 17 (Code.at [1,1,0,1] (body Tryd.f178)) [(.tmp 3,.d (D.int .i64 0)),(.tmp 6,.d (D.sl false E.int xs)),(.tmp 7,.d (D.int .i64 ((List.length xs : Int)))),(.tmp 8,.d (D.int .i64 0))] Ex.normal (fsum_S0 xs n i)],D.int .i64 n) := by kernel_rfl
theorem feetA_none (x : FBook) (m : Mp) (th : List (List Int)) (wr : List Int) (plan : List Work) (n : Int) (i : Nat) :
  callF (MF 27) [] [(26,.int .i64 n)] [(0,(feetA_K0,(.normal,feetA_S0 x m th wr plan i)))] (body Tryd.f147) [.tmp 4] [fbkD x m th wr,.sl false .work plan] =
   some ([LF 27 (Code.at [1,1,0,1] (body Tryd.f147)) [(.tmp 2,.d (D.ptr 2 0)),(.tmp 5,.d (D.sl true E.int [])),(.tmp 8,.d (D.sl false E.work plan)),(.tmp 9,.d (D.int .i64 ((List.length plan : Int)))),(.tmp 10,.d (D.int .i64 0)),(.box 2,.bx (some (Box.mk false (cellsOf (fbkD x m th wr))))),(.obj 23,.ob Option.none)] Ex.normal (feetA_S0 x m th wr plan i),CF 178 [D.sl false E.int []] (D.int .i64 n)],D.int .i64 n) := by kernel_rfl
theorem feetA_some (x : FBook) (m : Mp) (th : List (List Int)) (wr : List Int) (plan : List Work) (n : Int) (i : Nat) (y : Int) (r : List Int) :
  callF (MF 27) [] [(26,.int .i64 n)] [(0,(feetA_K0,(.normal,feetB_S0 x m th wr plan y r i)))] (body Tryd.f147) [.tmp 4] [fbkD x m th wr,.sl false .work plan] =
   some ([LF 27 (Code.at [1,1,0,1] (body Tryd.f147)) [(.tmp 2,.d (D.ptr 2 0)),(.tmp 5,.d (D.sl true E.int [])),(.tmp 8,.d (D.sl false E.work plan)),(.tmp 9,.d (D.int .i64 ((List.length plan : Int)))),(.tmp 10,.d (D.int .i64 0)),(.box 2,.bx (some (Box.mk false (cellsOf (fbkD x m th wr))))),(.obj 23,.ob Option.none)] Ex.normal (feetB_S0 x m th wr plan y r i),List.length (y :: r) = List.length ((y :: r)),CF 178 [D.sl false E.int ((y :: r))] (D.int .i64 n)],D.int .i64 n) := by kernel_rfl
theorem fneeds_all (x : FBook) (m : Mp) (th : List (List Int)) (wr : List Int) (plan : List Work) (n : Int) (i : Nat) :
  callF (MF 32) [] [] [(0,(fneeds_K0,(.normal,fneeds_S0 x m th wr plan n i)))] (body Tryd.f148) [.tmp 4] [fbkD x m th wr,.sl false .work plan] =
   some ([LF 32 (Code.at [1,1,0,1] (body Tryd.f148)) [(.tmp 1,.d (D.sl false E.work plan)),(.tmp 2,.d (D.ptr 2 0)),(.tmp 5,.d (D.int .i64 0)),(.tmp 8,.d (D.sl false E.work plan)),(.tmp 9,.d (D.int .i64 ((List.length plan : Int)))),(.tmp 10,.d (D.int .i64 0)),(.box 2,.bx (some (Box.mk false (cellsOf (fbkD x m th wr)))))] Ex.normal (fneeds_S0 x m th wr plan n i)],D.int .i64 n) := by kernel_rfl
theorem fgood_all (x : FBook) (m : Mp) (th : List (List Int)) (wr : List Int) (plan : List Work) (n : Int) :
  callF (MF 12) [] [(7,.int .i64 n)] [] (body Tryd.f175) [.tmp 4] [fbkD x m th wr,.sl false .work plan] =
   some ([CF 148 [fbkD x m th wr,D.sl false E.work plan] (D.int .i64 n)],D.bool (decide (n ≤ FBook.stock x))) := by kernel_rfl
theorem isPlan_yes (x : FBook) (l : List (K2 × Bool)) (th : List (List Int)) (wr : List Int) (plan : List Work) (la : Work) (i : Nat) :
  callF (MF 33) [] [] [(0,(isPlan_K0,(.normal,isPlan_S0 x l th wr plan la i)))] (body Tryd.f141) [.tmp 4] [fbkD x (.work l) th wr,.sl false .work plan] =
   some ([0 + 2 ≤ 2,LF 33 (Code.at [1,1,0,1] (body Tryd.f141)) [(.tmp 2,.d (D.ptr 2 0)),(.tmp 5,.d (D.ptr 5 0)),(.tmp 9,.d (D.sl false E.work plan)),(.tmp 10,.d (D.int .i64 ((List.length plan : Int)))),(.tmp 11,.d (D.int .i64 0)),(.box 2,.bx (some (Box.mk false (cellsOf (fbkD x (Mp.work l) th wr))))),(.box 5,.bx (some (Box.mk false [D.int .i64 (-(1 : Int)),D.int .i64 0])))] Ex.normal (isPlan_S0 x l th wr plan la i)],D.bool true) := by kernel_rfl
theorem isPlan_none (x : FBook) (l : List (K2 × Bool)) (th : List (List Int)) (wr : List Int) (plan : List Work) (la : Work) (i : Nat) :
  callF (MF 33) [] [] [(0,(isPlan_K0,(.ret,isPlan_T0_none x l th wr plan la i)))] (body Tryd.f141) [.tmp 4] [fbkD x (.work l) th wr,.sl false .work plan] =
   some ([0 + 2 ≤ 2,LF 33 (Code.at [1,1,0,1] (body Tryd.f141)) [(.tmp 2,.d (D.ptr 2 0)),(.tmp 5,.d (D.ptr 5 0)),(.tmp 9,.d (D.sl false E.work plan)),(.tmp 10,.d (D.int .i64 ((List.length plan : Int)))),(.tmp 11,.d (D.int .i64 0)),(.box 2,.bx (some (Box.mk false (cellsOf (fbkD x (Mp.work l) th wr))))),(.box 5,.bx (some (Box.mk false [D.int .i64 (-(1 : Int)),D.int .i64 0])))] Ex.ret (isPlan_T0_none x l th wr plan la i)],D.bool false) := by kernel_rfl
theorem isPlan_bad (x : FBook) (l : List (K2 × Bool)) (th : List (List Int)) (wr : List Int) (plan : List Work) (la : Work) (i : Nat) (c : Int) :
  callF (MF 33) [] [] [(0,(isPlan_K0,(.ret,isPlan_T0_bad x l th wr plan la i c)))] (body Tryd.f141) [.tmp 4] [fbkD x (.work l) th wr,.sl false .work plan] =
   some ([0 + 2 ≤ 2,LF 33 (Code.at [1,1,0,1] (body Tryd.f141)) [(.tmp 2,.d (D.ptr 2 0)),(.tmp 5,.d (D.ptr 5 0)),(.tmp 9,.d (D.sl false E.work plan)),(.tmp 10,.d (D.int .i64 ((List.length plan : Int)))),(.tmp 11,.d (D.int .i64 0)),(.box 2,.bx (some (Box.mk false (cellsOf (fbkD x (Mp.work l) th wr))))),(.box 5,.bx (some (Box.mk false [D.int .i64 (-(1 : Int)),D.int .i64 0])))] Ex.ret (isPlan_T0_bad x l th wr plan la i c)],D.bool false) := by kernel_rfl
theorem fthin_none (x : FBook) (m : Mp) (th : List (List Int)) (wr : List Int) (plan : List Work) (i : Nat) :
  callF (MF 38) [] [] [(0,(fthin_K0,(.normal,fthin_S0 x m th wr plan i)))] (body Tryd.f145) [.tmp 4,.tmp 5,.tmp 6] [fbkD x m th wr,.sl false .work plan] =
   some ([inI64 (Book.days (FBook.chain x) + (1 : Int)),LF 38 (Code.at [1,0,1] (body Tryd.f145)) [(.tmp 1,.d (D.sl false E.work plan)),(.tmp 2,.d (D.ptr 2 0)),(.tmp 13,.d (D.int .i64 (Book.days (FBook.chain x) + (1 : Int)))),(.tmp 14,.d (D.int .i64 0)),(.box 2,.bx (some (Box.mk false (cellsOf (fbkD x m th wr)))))] Ex.normal (fthin_S0 x m th wr plan i)],D.tup [D.int .i64 0,D.int .i64 0,D.bool false]) := by kernel_rfl
theorem fthin_hit (x : FBook) (m : Mp) (th : List (List Int)) (wr : List Int) (plan : List Work) (i j : Nat) (v : Int) :
  callF (MF 38) [] [] [(0,(fthin_K0,(.ret,fthin_T0_hit x m th wr plan i j v)))] (body Tryd.f145) [.tmp 4,.tmp 5,.tmp 6] [fbkD x m th wr,.sl false .work plan] =
   some ([inI64 (Book.days (FBook.chain x) + (1 : Int)),LF 38 (Code.at [1,0,1] (body Tryd.f145)) [(.tmp 1,.d (D.sl false E.work plan)),(.tmp 2,.d (D.ptr 2 0)),(.tmp 13,.d (D.int .i64 (Book.days (FBook.chain x) + (1 : Int)))),(.tmp 14,.d (D.int .i64 0)),(.box 2,.bx (some (Box.mk false (cellsOf (fbkD x m th wr)))))] Ex.ret (fthin_T0_hit x m th wr plan i j v)],D.tup [D.int .i64 (i : Int),D.int .i64 (j : Int),D.bool true]) := by kernel_rfl
end Go.Di

