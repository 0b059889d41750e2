/- Part 16: an interpreter over plain data for this code, with the proof that it says what the model does, and the contracts of the functions. No condition. -/
import Derived.Test.YtfkmodcjddfeiaaDoorDi15
set_option linter.unusedVariables false
set_option linter.unusedSimpArgs false
namespace Go.Di
open Proofs

theorem find_first (p : Nat → Bool) : ∀ n,(∃ k,k < n ∧ p k = true ∧ ∀ i < k,p i = false) ∨ ∀ i < n,p i = false
 | 0 => .inr fun i h => by omega
 | n + 1 => by
  rcases find_first p n with ⟨k,h1,h2,h3⟩ | h
  ·exact .inl ⟨k,by omega,h2,h3⟩
  ·cases hn : p n with
   | true => exact .inl ⟨n,by omega,hn,h⟩
   | false =>
    refine .inr fun i hi => ?_
    by_cases e : i = n
    ·subst e; exact hn
    ·exact h i (by omega)
theorem Contract.toWeak {P : Program} {glob : Nat → Option (List D)} {f : FuncId} {args : List D} {r : D} (h : Contract P glob f args r) : Contract P glob f args (weak r) := h.toRes fun _ _ _ => weak_rel

/-! ### Small functions of the laws -/
theorem rangeB_con (a c : Int) : Contract PR glob 61 [.int .i64 a,.int .i64 c] (spD ⟨a,c⟩) := contract_of_path (G 8) rangeB_fn (rangeB_all a c) ⟨by omega,trivial⟩
theorem inside_con (n lo hi : Int) : Contract PR glob 50 [.int .i64 n,.int .i64 lo,.int .i64 hi] (.bool (insideF n lo hi)) := by
 unfold insideF
 cases h : decide (n ≥ lo) with
 | false => exact contract_of_path (G 15) inside_fn (inside_no n lo hi) ⟨h,h,h,h,trivial⟩
 | true => exact contract_of_path (G 15) inside_fn (inside_yes n lo hi) ⟨h,h,h,h,trivial⟩
def validSF (s : Span) (lo hi : Int) : Bool := decide (s.lo ≥ lo) && decide (s.lo ≤ s.hi) && decide (s.hi ≤ hi)
theorem validB_con (s : Span) (lo hi : Int) : Contract PR glob 117 [spD s,.int .i64 lo,.int .i64 hi] (.bool (validSF s lo hi)) := by
 unfold validSF
 cases h : decide (s.lo ≥ lo) with
 | false =>
  refine contract_of_path (G 24) validB_fn (validB_a s lo hi) ?_
  repeat (first | exact trivial | refine ⟨by first | exact h | omega,?_⟩)
 | true =>
  cases h2 : decide (s.lo ≤ s.hi) with
  | false =>
   refine contract_of_path (G 24) validB_fn (validB_b s lo hi) ?_
   repeat (first | exact trivial | refine ⟨by first | exact h | exact h2 | omega,?_⟩)
  | true =>
   refine contract_of_path (G 24) validB_fn (validB_c s lo hi) ?_
   repeat (first | exact trivial | refine ⟨by first | exact h | exact h2 | omega,?_⟩)
def modF (n m : Int) : Int := if m ≤ 0 then 0 else if n.tmod m < 0 then n.tmod m + m else n.tmod m
theorem modF_emod {n m : Int} (h : 0 < m) : modF n m = n % m := by
 unfold modF
 rw [if_neg (by omega)]
 have h1 := Int.tmod_eq_emod (a := n) (b := m)
 have h2 := Int.emod_nonneg n (b := m) (by omega)
 have h3 := Int.emod_lt_of_pos n h
 have h4 : (m.natAbs : Int) = m := by omega
 by_cases hc : 0 ≤ n ∨ m ∣ n
 ·rw [if_pos hc] at h1
  split <;> omega
 ·rw [if_neg hc] at h1
  split <;> omega
theorem modF_in {n m : Int} (h : 0 < m) : 0 ≤ modF n m ∧ modF n m < m := by
 rw [modF_emod h]
 exact ⟨Int.emod_nonneg n (by omega),Int.emod_lt_of_pos n h⟩
theorem modB_con (n m : Int) (hm : m ≤ 9223372036854775807) : Contract PR glob 39 [.int .i64 n,.int .i64 m] (.int .i64 (modF n m)) := by
 by_cases h : m ≤ 0
 ·rw [show modF n m = 0 from if_pos h]
  exact contract_of_path (G 17) modB_fn (modB_zero n m) ⟨decide_eq_true h,trivial⟩
 ·have hin := modF_in (n := n) (m := m) (by omega)
  by_cases h2 : n.tmod m < 0
  ·have e : modF n m = n.tmod m + m := by unfold modF; rw [if_neg h,if_pos h2]
   rw [e] at hin ⊢
   exact contract_of_path (G 17) modB_fn (modB_neg n m) ⟨decide_eq_false h,by omega,decide_eq_true h2,by simp only [inI64]; omega,trivial⟩
  ·rw [show modF n m = n.tmod m by unfold modF; rw [if_neg h,if_neg h2]]
   exact contract_of_path (G 17) modB_fn (modB_pos n m) ⟨decide_eq_false h,by omega,decide_eq_false h2,trivial⟩
theorem atB_con (xs : List Int) (v : Int) (hl : xs.length ≤ 9223372036854775807) : Contract PR glob 46 [.sl false .int xs,.int .i64 v] (.int .i64 (indexF v xs 0)) := by
 have hb : Code.at [1,0,1] (body Tryd.f46) = .block 0 (.loop (Code.at [1,0,1,0,0] (body Tryd.f46))) := by kernel_rfl
 have hbeq : ∀ a b : Int,(a == b) = (b == a) := fun a b => BEq.comm
 have hon : ∀ k,k ≤ xs.length → (∀ i < k,(v == xs.getD i 0) = false) → ∀ i,i < k → WpL PR (mk PR (lookN types) glob 19) (Code.at [1,0,1,0,0] (body Tryd.f46)) (atB_S0 xs v i) fun e1 L1 => e1 = .normal ∧ L1 = atB_S0 xs v (i + 1) := fun k hk h i hi =>
  WpL.path (G 19) (atB_0_on xs v i) ⟨decide_eq_true (by omega),by omega,by omega,(hbeq _ _).trans (h i hi),by simp only [inI64]; omega,trivial⟩ ⟨rfl,rfl⟩
 rcases indexF_cases v xs with ⟨k,h1,h2,h3,h4⟩ | ⟨h2,h4⟩
 ·rw [h2]
  exact contract_of_path (G 19) atB_fn (atB_hit xs v k) ⟨LoopT.count (tt := lookN types) hb k (atB_S0 xs v) (hon k (by omega) h4) (WpL.path (G 19) (atB_0_hit xs v k) ⟨decide_eq_true (by omega),by omega,by omega,(hbeq _ _).trans h3,trivial⟩ ⟨.inr ⟨rfl,rfl⟩,rfl⟩),trivial⟩
 ·rw [h2]
  exact contract_of_path (G 19) atB_fn (atB_end xs v xs.length) ⟨LoopT.count (tt := lookN types) hb xs.length (atB_S0 xs v) (hon _ (Nat.le_refl _) h4) (WpL.path (G 19) (atB_0_end xs v _) ⟨decide_eq_false (Int.lt_irrefl _),trivial⟩ ⟨.inl ⟨rfl,rfl⟩,rfl⟩),trivial⟩
/-- Each greater than the one before it,all from 0 to below m. -/
def climbAt (xs : List Int) (m : Int) (i : Nat) : Bool := insideF (xs.getD i 0) 0 (m - 1) && !(decide (i > 0) && decide (xs.getD i 0 ≤ xs.getD (i - 1) 0))
def climbsF (xs : List Int) (m : Int) : Bool := (List.range xs.length).all (climbAt xs m)
theorem climbs_con (xs : List Int) (m : Int) (hl : xs.length ≤ 9223372036854775807) (hm : 0 ≤ m ∧ m ≤ 4611686018427387904) : Contract PR glob 52 [.sl false .int xs,.int .i64 m] (.bool (climbsF xs m)) := by
 have hb : Code.at [1,0,1] (body Tryd.f52) = .block 0 (.loop (Code.at [1,0,1,0,0] (body Tryd.f52))) := by kernel_rfl
 have hin := fun i : Nat => inside_con (xs.getD i 0) 0 (m - 1)
 have hi64 : inI64 (m - 1) := by simp only [inI64]; omega
 have hix : ∀ i : Nat,i > 0 → ((i : Int) - 1).toNat = i - 1 := fun i hi => by omega
 have hon : ∀ k,k ≤ xs.length → (∀ i < k,(!climbAt xs m i) = false) → ∀ i,i < k → WpL PR (mk PR (lookN types) glob 36) (Code.at [1,0,1,0,0] (body Tryd.f52)) (climbs_S0 xs m i) fun e1 L1 => e1 = .normal ∧ L1 = climbs_S0 xs m (i + 1) := by
  intro k hk h i hi
  have h' := h i hi
  unfold climbAt at h'
  simp only [Bool.not_eq_eq_eq_not,Bool.not_false,Bool.and_eq_true,Bool.not_true] at h'
  have hq := hin i
  rw [h'.1] at hq
  by_cases hz : i > 0
  ·have h1 : decide ((i : Int) > 0) = true := decide_eq_true (by omega)
   have h2 : decide (xs.getD i 0 ≤ xs.getD ((i : Int) - 1).toNat 0) = false := by
    rw [hix i hz]
    have := h'.2
    rw [decide_eq_true hz] at this
    simpa using this
   refine WpL.path (G 36) (climbs_0_on1 xs m i) ?_ ⟨rfl,rfl⟩
   repeat (first | exact trivial | refine ⟨by first | exact hq | exact h1 | exact h2 | exact hi64 | exact decide_eq_true (by omega) | omega | (simp only [inI64]; omega),?_⟩)
  ·have h1 : decide ((i : Int) > 0) = false := decide_eq_false (by omega)
   refine WpL.path (G 36) (climbs_0_on0 xs m i) ?_ ⟨rfl,rfl⟩
   repeat (first | exact trivial | refine ⟨by first | exact hq | exact h1 | exact hi64 | exact decide_eq_true (by omega) | omega | (simp only [inI64]; omega),?_⟩)
 rcases find_first (fun i => !climbAt xs m i) xs.length with ⟨k,h1,h2,h3⟩ | h
 ·have hF : climbsF xs m = false := by
   unfold climbsF
   rw [List.all_eq_false]
   exact ⟨k,by simpa using h1,by simpa using h2⟩
  rw [hF]
  have h2' : climbAt xs m k = false := by simpa using h2
  unfold climbAt at h2'
  have hq := hin k
  cases hc : insideF (xs.getD k 0) 0 (m - 1) with
  | false =>
   rw [hc] at hq
   refine contract_of_path (G 36) climbs_fn (climbs_out xs m k) ⟨LoopT.count (tt := lookN types) hb k (climbs_S0 xs m) (hon k (by omega) h3) (WpL.path (G 36) (climbs_0_out xs m k) ?_ ⟨.inr ⟨rfl,rfl⟩,rfl⟩),trivial⟩
   repeat (first | exact trivial | refine ⟨by first | exact hq | exact hi64 | exact decide_eq_true (by omega) | omega,?_⟩)
  | true =>
   rw [hc] at hq h2'
   simp only [Bool.true_and,Bool.not_eq_eq_eq_not,Bool.not_false,Bool.and_eq_true,decide_eq_true_eq] at h2'
   have h1' : decide ((k : Int) > 0) = true := decide_eq_true (by omega)
   have hle : decide (xs.getD k 0 ≤ xs.getD ((k : Int) - 1).toNat 0) = true := by
    rw [hix k h2'.1]
    exact decide_eq_true h2'.2
   refine contract_of_path (G 36) climbs_fn (climbs_low xs m k) ⟨LoopT.count (tt := lookN types) hb k (climbs_S0 xs m) (hon k (by omega) h3) (WpL.path (G 36) (climbs_0_low xs m k) ?_ ⟨.inr ⟨rfl,rfl⟩,rfl⟩),trivial⟩
   repeat (first | exact trivial | refine ⟨by first | exact hq | exact h1' | exact hle | exact hi64 | exact decide_eq_true (by omega) | omega | (simp only [inI64]; omega),?_⟩)
 ·have hF : climbsF xs m = true := by
   unfold climbsF
   rw [List.all_eq_true]
   intro i hi
   have := h i (by simpa using hi)
   simpa using this
  rw [hF]
  exact contract_of_path (G 36) climbs_fn (climbs_end xs m xs.length) ⟨LoopT.count (tt := lookN types) hb xs.length (climbs_S0 xs m) (hon _ (Nat.le_refl _) h) (WpL.path (G 36) (climbs_0_end xs m _) ⟨decide_eq_false (Int.lt_irrefl _),trivial⟩ ⟨.inl ⟨rfl,rfl⟩,rfl⟩),trivial⟩
end Go.Di

namespace Go.Di
open Proofs
/-- The types of package forge,and those of package chain. -/
def typesF : List (Nat × TI) :=
 [(84,⟨.struct [(0,26),(5,23),(6,3),(7,23),(8,3),(9,3)],10,160,[.nil,.nil,.nil,.int .i64 0,.int .i64 0,.nil,.int .i64 0,.nil,.int .i64 0,.int .i64 0],some .fbook,false⟩),
  (151,⟨.struct [(0,84),(10,149),(11,40),(12,23)],13,216,[.nil,.nil,.nil,.int .i64 0,.int .i64 0,.nil,.int .i64 0,.nil,.int .i64 0,.int .i64 0,.nilmap,.nil,.nil],none,false⟩),
  (149,⟨.map 108 4 false,1,8,[.nilmap],none,false⟩),
  (90,⟨.slice 108,1,24,[.nil],some (.list .work),false⟩),
  (163,⟨.other,1,8,[.nilfn],none,false⟩),
  (154,⟨.other,1,8,[.nilfn],none,false⟩),
  (157,⟨.other,1,8,[.nilfn],none,false⟩),
  (110,⟨.other,1,8,[.nilfn],none,false⟩),
  (188,⟨.struct [(0,110)],1,8,[.nilfn],none,false⟩),
  (190,⟨.other,1,8,[.nilfn],none,false⟩),
  (191,⟨.other,1,8,[.nilfn],none,false⟩),
  (192,⟨.array 2 191,2,16,[.nilfn,.nilfn],none,false⟩),
  (101,⟨.array 3 3,3,24,[.int .i64 0,.int .i64 0,.int .i64 0],none,true⟩),
  (195,⟨.other,1,8,[.nilfn],none,false⟩)] ++ types
theorem typesF_ok : TabOk PR (lookN typesF) := tabOk (by kernel_rfl)
/-- The listed variables of both. -/
def globF : Nat → Option (List D)
 | 2 => some [.int .i64 (-1),.int .i64 0]
 | 3 => some [.fn 226 [] [],.fn 227 [] []]
 | g => glob g
/-- The program; its configurations,contracts and loops. -/
noncomputable abbrev PRG : Program := PR
noncomputable abbrev MF (n : Nat) : Cfg := mk PRG (lookN typesF) globF n
abbrev CF (f : FuncId) (args : List D) (r : D) : Prop := Contract PRG globF f args r
abbrev LF (n : Nat) (c : Code) (L : List (Key × Val)) (e : Ex) (L' : List (Key × Val)) : Prop := LoopT PRG globF n c L e L'
theorem GF (n : Nat) : Good PR (mk PR (lookN typesF) globF n) := good mixed_ok typesF_ok
theorem glob_up {g : Nat} {cs : List D} (h : glob g = some cs) : globF g = some cs := by
 match g,h with
 | 1,h => exact h
theorem Contract.up {P : Program} {f : FuncId} {args : List D} {r : D} (h : Contract P glob f args r) : Contract P globF f args r :=
 ⟨h.form,fun w R vs h1 h2 h3 => h.calls w R vs h1 (fun g cs hg => h2 g cs (glob_up hg)) h3⟩
end Go.Di

namespace Go.Di
open Proofs

/-! ### Package forge: values -/
def fbookD (x : FBook) : D := .agg [.sl false .sec x.chain.secs,.sl false .int x.chain.turns,.sl false .sv x.chain.svs,.int .i64 x.chain.rule,.int .i64 x.chain.days,.sl false .int x.feet,.int .i64 x.new,.sl false .int x.opn,.int .i64 x.stock,.int .i64 x.make]
def fbkD (x : FBook) (m : Mp) (th : List (List Int)) (wr : List Int) : D := .agg [.sl false .sec x.chain.secs,.sl false .int x.chain.turns,.sl false .sv x.chain.svs,.int .i64 x.chain.rule,.int .i64 x.chain.days,.sl false .int x.feet,.int .i64 x.new,.sl false .int x.opn,.int .i64 x.stock,.int .i64 x.make,.map m,.sl false (.list .int) th,.sl false .int wr]
def wkD (x : Work) : D := .agg [.int .i64 x.d,.int .i64 x.s]
def work0 : Work := ⟨0,0⟩
def setsD (x : W4) : D := wD x.a x.b x.c x.d
def W4.get (x : W4) (s : Nat) : Int := [x.a,x.b,x.c,x.d].getD s 0

/-! ### Check -/
def fok0F (x : FBook) : Bool := (checkF x.chain == 0) && decide ((x.feet.length : Int) = x.chain.secs.length) && withinF x.new 0 200 && decide (x.opn.length ≤ 4) && withinF x.stock 0 200 && withinF x.make 0 9
def fok1F (x : FBook) (l : List Int) : Bool := l.foldl (fun ok n => ok && withinF n 1 30) (fok0F x)
def fok2F (x : FBook) (l : List Int) : Bool × Int := l.foldl (turnF x.chain.days) (fok1F x x.feet,-1)
/-- Is it a book of the forge? -/
def fvalidF (x : FBook) : Bool := (fok2F x x.opn).1
def fcheckF (x : FBook) : Int := if fvalidF x then 0 else 70

/-! ### Works and plans -/
/-- The map of works,in the order in which they come. -/
def worksS (m : List (K2 × Bool)) (d : Int) : Nat → List (K2 × Bool)
 | 0 => m
 | s + 1 => updK (worksS m d s) (d,(s : Int)) true
def worksO (x : FBook) : Nat → List (K2 × Bool)
 | 0 => [((-1,0),false)]
 | i + 1 => worksS (worksO x i) (x.opn.getD i 0) x.feet.length
def worksF (x : FBook) : List (K2 × Bool) := worksO x x.opn.length
def compareF (x y : Work) : Int := if x.d = y.d then x.s - y.s else x.d - y.d
def isWorkF (m : List (K2 × Bool)) (w : Work) : Bool := (lookK m (w.d,w.s)).getD false
/-- A work that may not stand behind another one. -/
def badF (m : List (K2 × Bool)) (last w : Work) : Bool := !(isWorkF m w) || (!(decide (last.d = -1 ∧ last.s = 0)) && decide (compareF last w ≥ 0))
def isPlanGo (m : List (K2 × Bool)) (last : Work) : List Work → Bool
 | [] => true
 | w :: r => if badF m last w = true then false else isPlanGo m w r
def isPlanF (m : List (K2 × Bool)) (plan : List Work) : Bool := isPlanGo m ⟨-1,0⟩ plan

/-! ### How thick -/
def fplaceF (x : FBook) (s d : Int) : Int := placeF x.feet.length x.chain.turns d s
def oldF (th : List (List Int)) (s d : Int) : Int := (th.getD s.toNat []).getD d.toNat 0
def freshF (x : FBook) (wr : List Int) (s c : Int) : Nat → Int
 | 0 => x.new
 | k + 1 => freshF x wr s c k - wr.getD (fplaceF x s (c + k)).toNat 0
/-- Was it changed up to a day,and when at last? -/
def lastStep (s d : Int) (p : Int × Int) (w : Work) : Int × Int := if w.s = s ∧ w.d ≤ d then (1,w.d) else p
def lastF (plan : List Work) (s d : Int) : Int × Int := plan.foldl (lastStep s d) (0,0)
def fleastF (x : FBook) (th : List (List Int)) (wr : List Int) (plan : List Work) (s d : Int) : Int :=
 if (lastF plan s d).1 = 0 then oldF th s d else freshF x wr s (lastF plan s d).2 (d - (lastF plan s d).2).toNat
/-- Is a section too thin on a day? The pairs are counted: day times sections,and section. -/
def fbadF (x : FBook) (th : List (List Int)) (wr : List Int) (plan : List Work) (d s : Nat) : Bool := decide (fleastF x th wr plan s d < x.chain.rule)
/-- The first section from s on,of k. -/
def fsecF (x : FBook) (th : List (List Int)) (wr : List Int) (plan : List Work) (d : Nat) : Option Nat := (List.range x.feet.length).find? (fbadF x th wr plan d)
def fthinGo (x : FBook) (th : List (List Int)) (wr : List Int) (plan : List Work) : Nat → Nat → Option (Nat × Nat)
 | 0,_ => none
 | k + 1,d => match fsecF x th wr plan d with
  | some s => some (d,s)
  | none => fthinGo x th wr plan k (d + 1)
def fthinF (x : FBook) (th : List (List Int)) (wr : List Int) (plan : List Work) : Option (Nat × Nat) := fthinGo x th wr plan (x.chain.days + 1).toNat 0

/-! ### Feet -/
def feetLF (x : FBook) (plan : List Work) : List Int := plan.map fun w => x.feet.getD w.s.toNat 0
def sumF (l : List Int) : Int := l.foldl (· + ·) 0
def feetF (x : FBook) (plan : List Work) : Int := sumF (feetLF x plan)
def needsTo (x : FBook) (plan : List Work) : Nat → Int
 | 0 => 0
 | k + 1 => mx (needsTo x plan k) (feetF x (plan.take (k + 1)) - x.make * (plan.getD k work0).d)
def needsF (x : FBook) (plan : List Work) : Int := needsTo x plan plan.length
def fgoodF (x : FBook) (plan : List Work) : Bool := decide (needsF x plan ≤ x.stock)
/-- The first work at which the stock falls short. -/
def shortF (x : FBook) (plan : List Work) : Option Nat := (List.range plan.length).find? fun k => decide (needsF x (plan.take (k + 1)) > x.stock)

/-! ### Plans -/
/-- The meet of two sets. -/
def andF (a b : Int) : Int := IntKind.i64.wrap ((BitVec.ofInt 64 a &&& BitVec.ofInt 64 b).toNat : Int)
/-- Is a number in a set? -/
def bitF (set : Int) (k : Nat) : Bool := andF (set.fdiv (2 ^ min k 64)) 1 == 1
def plannedDay (x : FBook) (on : W4) (k : Nat) (l : List Work) : Nat → List Work
 | 0 => l
 | s + 1 => if bitF (on.get s) k = true then plannedDay x on k l s ++ [⟨x.opn.getD k 0,s⟩] else plannedDay x on k l s
def plannedTo (x : FBook) (on : W4) : Nat → List Work
 | 0 => []
 | k + 1 => plannedDay x on k (plannedTo x on k) x.feet.length
def plannedF (x : FBook) (on : W4) : List Work := plannedTo x on x.opn.length
def zeroW : W4 := ⟨0,0,0,0⟩
/-- Is it enough to change a section on a set of open days? -/
def keepsF (x : FBook) (th : List (List Int)) (wr : List Int) (s : Nat) (set : Int) : Bool :=
 (List.range (x.chain.days + 1).toNat).all fun d => !(decide (fleastF x th wr (plannedF x (zeroW.set s set)) s d < x.chain.rule))
def changesTo (x : FBook) (th : List (List Int)) (wr : List Int) (s : Nat) : Nat → List Int
 | 0 => []
 | k + 1 => if ((changesTo x th wr s k).any fun l => andF k l == l) = true then changesTo x th wr s k
  else if keepsF x th wr s k = true then changesTo x th wr s k ++ [(k : Int)] else changesTo x th wr s k
def changesF (x : FBook) (th : List (List Int)) (wr : List Int) (s : Nat) : List Int := changesTo x th wr s (2 ^ x.opn.length)
def plansGo (x : FBook) (all : List (List Int)) : Nat → Nat → W4 → List (List Work)
 | 0,_,on => [plannedF x on]
 | f + 1,s,on => (all.getD s []).flatMap fun set => plansGo x all f (s + 1) (on.set s set)
def allF (x : FBook) (th : List (List Int)) (wr : List Int) : List (List Int) := (List.range x.feet.length).map (changesF x th wr)
def plansF (x : FBook) (th : List (List Int)) (wr : List Int) : List (List Work) := plansGo x (allF x th wr) x.feet.length 0 zeroW

/-! ### The best one -/
def cmpPlans : List Work → List Work → Int
 | [],[] => 0
 | [],_ :: _ => -1
 | _ :: _,[] => 1
 | x :: l,y :: m => if compareF x y ≠ 0 then compareF x y else cmpPlans l m
def betterWF (x : FBook) (p q : List Work) : Bool := decide (feetF x p < feetF x q) || (decide (feetF x p = feetF x q) && decide (cmpPlans p q < 0))
def bestStep (x : FBook) (o : List Work × Bool) (p : List Work) : List Work × Bool := if fgoodF x p && (!o.2 || betterWF x p o.1) then (p,true) else o
def bestOf (x : FBook) (l : List (List Work)) : List Work × Bool := l.foldl (bestStep x) ([],false)
def bestF (x : FBook) (th : List (List Int)) (wr : List Int) : List Work × Bool := bestOf x (plansF x th wr)
def stockOf (x : FBook) (l : List (List Work)) : Int := l.foldl (fun n p => mn n (needsF x p)) 201
def stockF (x : FBook) (th : List (List Int)) (wr : List Int) : Int := stockOf x (plansF x th wr)

/-! ### What chain says -/
def wearHi (b : Book) (p : Int) : Int := (toldF (wearAt p) (truthsF b [])).hi
def thickLo (b : Book) (s d : Int) : Int := (thickF b (truthsF b []) b.turns s d).lo
def knowWr (x : FBook) : List Int := (List.range x.feet.length).map fun s => wearHi x.chain (s : Nat)
def knowTh (x : FBook) : List (List Int) := (List.range x.feet.length).map fun s => (List.range (x.chain.days + 1).toNat).map fun d => thickLo x.chain (s : Nat) (d : Nat)

/-! ### What is asked -/
def ferrF (x : FBook) (is : Bool) : Int := if fvalidF x = false then 70 else if is = false then 71 else if canF x.chain = false then 72 else 0
end Go.Di

