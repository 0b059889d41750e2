/- Part 28: an interpreter over plain data for this code, with the proof that it says what the model does, and the contracts of the functions. No condition. -/
import Derived.Test.YtfkmodcjddfeiaaDoorDi27
set_option linter.unusedVariables false
set_option linter.unusedSimpArgs false
namespace Go.Di
open Proofs
def FBook.moreSv (x : FBook) (y : Sv) : FBook := { x with chain := more x.chain y }
theorem fmore_valid {x : FBook} (hV : FValid x) (h7 : x.chain.svs.length ≤ 7) {y : Sv} (hy : isSurveyF x.chain y = true) : FValid (x.moreSv y) :=
 ⟨more_valid hV.chain h7 hy,hV.feet,hV.new,hV.opnl,hV.stock,hV.make,hV.each,hV.rises⟩
section
variable {x : FBook} (hV : FValid x) {y : Sv} (hy : isSurveyF x.chain y = true) (hne : truthsF (more x.chain y) [] ≠ [])
include hV hy hne
theorem more_oldF {s d : Int} (hs : 0 ≤ s ∧ s < x.feet.length) (hd : 0 ≤ d ∧ d ≤ x.chain.days) : oldF (knowTh x) s d ≤ oldF (knowTh (x.moreSv y)) s d := by
 have hfe := hV.feet
 have h := (more_thick hV.chain hy hne s.toNat (by omega) d).1
 rw [Int.toNat_of_nonneg hs.1] at h
 rw [knowTh_at hs hd,knowTh_at (x := x.moreSv y) hs hd]
 exact h
theorem more_wrF {p : Int} (hp : 0 ≤ p ∧ p < x.feet.length) : (knowWr (x.moreSv y)).getD p.toNat 0 ≤ (knowWr x).getD p.toNat 0 := by
 have h := (more_wear hV.chain hy hne p.toNat).2
 rw [Int.toNat_of_nonneg hp.1] at h
 rw [knowWr_at hp,knowWr_at (x := x.moreSv y) hp]
 exact h
theorem more_freshF {s : Int} (hs : 0 ≤ s ∧ s < x.feet.length) (c : Int) : ∀ k,freshF x (knowWr x) s c k ≤ freshF (x.moreSv y) (knowWr (x.moreSv y)) s c k
 | 0 => Int.le_refl _
 | k + 1 => by
  have ih := more_freshF hs c k
  have hw := more_wrF hV hy hne (fplace_in (c + k) hs)
  simp only [freshF]
  have e : fplaceF (x.moreSv y) s (c + k) = fplaceF x s (c + k) := rfl
  rw [e]
  omega
theorem more_leastV (plan : List Work) {s d : Int} (hs : 0 ≤ s ∧ s < x.feet.length) (hd : 0 ≤ d ∧ d ≤ x.chain.days) : leastV x plan s d ≤ leastV (x.moreSv y) plan s d := by
 unfold leastV fleastF
 split
 ·exact more_oldF hV hy hne hs hd
 ·exact more_freshF hV hy hne hs _ _
theorem more_safeP {plan : List Work} (h : SafeP x (knowTh x) (knowWr x) plan) : SafeP (x.moreSv y) (knowTh (x.moreSv y)) (knowWr (x.moreSv y)) plan := by
 intro s d hs hd
 have h1 := h s d hs hd
 have h2 := more_leastV hV hy hne plan hs hd
 have e1 : (x.moreSv y).chain.rule = x.chain.rule := rfl
 show (x.moreSv y).chain.rule ≤ leastV (x.moreSv y) plan s d
 have h3 : x.chain.rule ≤ leastV x plan s d := h1
 omega
end
theorem needs_more (x : FBook) (y : Sv) (p : List Work) : needsF (x.moreSv y) p = needsF x p := by
 have h : ∀ k,needsTo (x.moreSv y) p k = needsTo x p k := by
  intro k
  induction k with
  | zero => rfl
  | succ k ih => simp only [needsTo,ih]; rfl
 exact h _
theorem cost_more {x : FBook} (hV : FValid x) (h7 : x.chain.svs.length ≤ 7) {y : Sv} (hy : isSurveyF x.chain y = true) (hc : canF x.chain = true) (hcm : canF (x.moreSv y).chain = true) : 0 ≤ costV (x.moreSv y) ∧ costV (x.moreSv y) ≤ costV x := by
 have hVm := fmore_valid hV h7 hy
 have hne : truthsF (more x.chain y) [] ≠ [] := ne_of_can hcm
 obtain ⟨a1,a2,a3⟩ := cost_in hV hc
 obtain ⟨b1,b2,b3⟩ := cost_in hVm hcm
 refine ⟨b1,?_⟩
 by_cases h : costV x < 1000
 ·have hf := a3.1 h
  obtain ⟨_,h2,h4⟩ := best_is hV.inn hV.opn.2 _ _ hf
  have hp := best_plan hV hf
  have hpm : IsPlan (x.moreSv y) (bestF x (knowTh x) (knowWr x)).1 := ⟨fun w hw => hp.1 w hw,hp.2⟩
  have hg := plan_grd hVm.opn.2 hpm
  have hlaw := best_law hVm.inn hVm.opn.2 (knowTh (x.moreSv y)) (knowWr (x.moreSv y)) _ (by rw [← hg]; exact more_safeP hV hy hne h2) (by rw [← hg,fgood_iff]; exact Int.le_trans (Int.le_of_eq (needs_more x y _)) (fgood_iff.1 h4))
  rw [← hg] at hlaw
  have e1 := costV_found hc hf
  have e2 := costV_found hcm hlaw.1
  have e3 : feetF (x.moreSv y) (bestF x (knowTh x) (knowWr x)).1 = feetF x (bestF x (knowTh x) (knowWr x)).1 := rfl
  rcases hlaw.2 with h5 | ⟨h5,_⟩ <;> omega
 ·omega
end Go.Di

namespace Go.Di
open Proofs
abbrev mrD (x : FBook) (y0 y1 y2 y3 : Int) : D := D.agg [D.sl false E.sec (Book.secs (FBook.chain x)),D.sl false E.int (Book.turns (FBook.chain x)),D.sl false E.sv ((([] ++ Book.svs (FBook.chain x)) ++ [Sv.mk y0 y1 y2 y3])),D.int .i64 (Book.rule (FBook.chain x)),D.int .i64 (Book.days (FBook.chain x)),D.sl false E.int (FBook.feet x),D.int .i64 (FBook.new x),D.sl false E.int (FBook.opn x),D.int .i64 (FBook.stock x),D.int .i64 (FBook.make x)]
abbrev mrL (x : FBook) (y0 y1 y2 y3 : Int) : Prop := List.length (([] ++ Book.svs (FBook.chain x)) ++ [Sv.mk y0 y1 y2 y3]) = List.length ((([] ++ Book.svs (FBook.chain x)) ++ [Sv.mk y0 y1 y2 y3]))
theorem lmore_fn : FnOk PRG (MF 183) 24 (body Tryd.f24) [.tmp 6] := by refine ⟨Tryd.f24,?_,?_,?_,?_,?_⟩ <;> kernel_rfl
theorem lmore_bad (x : FBook) (m0 m1 m2 m3 n0 n1 n2 : Int) :
  callF (MF 183) [] [(25,.bool false),(34,.bool true)] [] (body Tryd.f24) [.tmp 6] [fbookD x,.agg [.int .i64 m0,.int .i64 m1,.int .i64 m2,.int .i64 m3],.agg [.int .i64 n0,.int .i64 n1,.int .i64 n2]] =
   some ([CF 72 [fbookD x] (D.bool false),CF 73 [] (D.bool true)],D.bool true) := by kernel_rfl
theorem lmore_full (x : FBook) (m0 m1 m2 m3 n0 n1 n2 : Int) :
  callF (MF 183) [(33,true)] [(25,.bool true),(34,.bool true)] [] (body Tryd.f24) [.tmp 6] [fbookD x,.agg [.int .i64 m0,.int .i64 m1,.int .i64 m2,.int .i64 m3],.agg [.int .i64 n0,.int .i64 n1,.int .i64 n2]] =
   some ([CF 72 [fbookD x] (D.bool true),((List.length (Book.svs (FBook.chain x)) : Int) == (8 : Int)) = true,CF 73 [] (D.bool true)],D.bool true) := by kernel_rfl
theorem lmore_no (x : FBook) (m0 m1 m2 m3 n0 n1 n2 : Int) (y0 y1 y2 y3 : Int) :
  callF (MF 183) [(33,false)] [(25,.bool true),(40,.int .i64 y0),(47,.int .i64 y1),(50,.int .i64 y2),(53,.int .i64 y3),(70,.tup [.bool false,.int .i64 0]),(81,.tup [.sl false .work [],.int .i64 72]),(95,.bool true)] [] (body Tryd.f24) [.tmp 6] [fbookD x,.agg [.int .i64 m0,.int .i64 m1,.int .i64 m2,.int .i64 m3],.agg [.int .i64 n0,.int .i64 n1,.int .i64 n2]] =
   some ([CF 72 [fbookD x] (D.bool true),((List.length (Book.svs (FBook.chain x)) : Int) == (8 : Int)) = false,(0 : Int) ≤ (0 : Int) ∧ (0 : Int) < (Nat.cast : Nat → Int) 4,0 + Int.toNat (0 : Int) * 1 + 1 ≤ 4,CF 39 [D.int .i64 m0,D.int .i64 ((List.length (FBook.feet x) : Int))] (D.int .i64 y0),(0 : Int) ≤ (1 : Int) ∧ (1 : Int) < (Nat.cast : Nat → Int) 4,0 + Int.toNat (1 : Int) * 1 + 1 ≤ 4,inI64 (Book.days (FBook.chain x) + (1 : Int)),CF 39 [D.int .i64 m1,D.int .i64 (Book.days (FBook.chain x) + (1 : Int))] (D.int .i64 y1),(0 : Int) ≤ (2 : Int) ∧ (2 : Int) < (Nat.cast : Nat → Int) 4,0 + Int.toNat (2 : Int) * 1 + 1 ≤ 4,CF 39 [D.int .i64 m2,D.int .i64 201] (D.int .i64 y2),(0 : Int) ≤ (3 : Int) ∧ (3 : Int) < (Nat.cast : Nat → Int) 4,0 + Int.toNat (3 : Int) * 1 + 1 ≤ 4,CF 39 [D.int .i64 m3,D.int .i64 6] (D.int .i64 y3),List.length ([] ++ Book.svs (FBook.chain x)) * (32 + 1) ≤ 140737488355328,0 + 4 ≤ 4,List.length ([] ++ Book.svs (FBook.chain x)) = List.length (([] ++ Book.svs (FBook.chain x))),List.length (([] ++ Book.svs (FBook.chain x)) ++ [Sv.mk y0 y1 y2 y3]) * (32 + 1) ≤ 140737488355328,mrL x y0 y1 y2 y3,0 + 4 ≤ 4,CF 47 [bookD x.chain,D.agg [D.int .i64 y0,D.int .i64 y1,D.int .i64 y2,D.int .i64 y3]] (D.tup [D.bool false,D.int .i64 0]),mrL x y0 y1 y2 y3,CF 77 [mrD x y0 y1 y2 y3] (D.tup [D.sl false E.work [],D.int .i64 72]),CF 73 [] (D.bool true)],D.bool true) := by kernel_rfl
theorem lmore_false (x : FBook) (m0 m1 m2 m3 n0 n1 n2 : Int) (y0 y1 y2 y3 : Int) :
  callF (MF 183) [(33,false)] [(25,.bool true),(40,.int .i64 y0),(47,.int .i64 y1),(50,.int .i64 y2),(53,.int .i64 y3),(70,.tup [.bool false,.int .i64 12]),(81,.tup [.sl false .work [],.int .i64 72]),(95,.bool true)] [] (body Tryd.f24) [.tmp 6] [fbookD x,.agg [.int .i64 m0,.int .i64 m1,.int .i64 m2,.int .i64 m3],.agg [.int .i64 n0,.int .i64 n1,.int .i64 n2]] =
   some ([CF 72 [fbookD x] (D.bool true),((List.length (Book.svs (FBook.chain x)) : Int) == (8 : Int)) = false,(0 : Int) ≤ (0 : Int) ∧ (0 : Int) < (Nat.cast : Nat → Int) 4,0 + Int.toNat (0 : Int) * 1 + 1 ≤ 4,CF 39 [D.int .i64 m0,D.int .i64 ((List.length (FBook.feet x) : Int))] (D.int .i64 y0),(0 : Int) ≤ (1 : Int) ∧ (1 : Int) < (Nat.cast : Nat → Int) 4,0 + Int.toNat (1 : Int) * 1 + 1 ≤ 4,inI64 (Book.days (FBook.chain x) + (1 : Int)),CF 39 [D.int .i64 m1,D.int .i64 (Book.days (FBook.chain x) + (1 : Int))] (D.int .i64 y1),(0 : Int) ≤ (2 : Int) ∧ (2 : Int) < (Nat.cast : Nat → Int) 4,0 + Int.toNat (2 : Int) * 1 + 1 ≤ 4,CF 39 [D.int .i64 m2,D.int .i64 201] (D.int .i64 y2),(0 : Int) ≤ (3 : Int) ∧ (3 : Int) < (Nat.cast : Nat → Int) 4,0 + Int.toNat (3 : Int) * 1 + 1 ≤ 4,CF 39 [D.int .i64 m3,D.int .i64 6] (D.int .i64 y3),List.length ([] ++ Book.svs (FBook.chain x)) * (32 + 1) ≤ 140737488355328,0 + 4 ≤ 4,List.length ([] ++ Book.svs (FBook.chain x)) = List.length (([] ++ Book.svs (FBook.chain x))),List.length (([] ++ Book.svs (FBook.chain x)) ++ [Sv.mk y0 y1 y2 y3]) * (32 + 1) ≤ 140737488355328,mrL x y0 y1 y2 y3,0 + 4 ≤ 4,CF 47 [bookD x.chain,D.agg [D.int .i64 y0,D.int .i64 y1,D.int .i64 y2,D.int .i64 y3]] (D.tup [D.bool false,D.int .i64 12]),mrL x y0 y1 y2 y3,CF 77 [mrD x y0 y1 y2 y3] (D.tup [D.sl false E.work [],D.int .i64 72]),CF 73 [] (D.bool true)],D.bool true) := by kernel_rfl
theorem lmore_ff (x : FBook) (m0 m1 m2 m3 n0 n1 n2 : Int) (y0 y1 y2 y3 : Int) (plan : List Work) (s d v u c1 c2 : Int) :
  callF (MF 183) [(33,false),(161,true),(173,true),(180,true)] [(25,.bool true),(40,.int .i64 y0),(47,.int .i64 y1),(50,.int .i64 y2),(53,.int .i64 y3),(70,.tup [.bool true,.int .i64 0]),(100,.sl false .work plan),(106,.int .i64 s),(113,.int .i64 d),(119,.tup [.int .i64 v,.int .i64 0]),(127,.tup [.int .i64 u,.int .i64 0]),(133,.tup [.bool false,.int .i64 0]),(139,.tup [.bool false,.int .i64 0]),(170,.int .i64 c1),(175,.int .i64 c1),(177,.int .i64 c2),(181,.bool true)] [] (body Tryd.f24) [.tmp 6] [fbookD x,.agg [.int .i64 m0,.int .i64 m1,.int .i64 m2,.int .i64 m3],.agg [.int .i64 n0,.int .i64 n1,.int .i64 n2]] =
   some ([CF 72 [fbookD x] (D.bool true),((List.length (Book.svs (FBook.chain x)) : Int) == (8 : Int)) = false,(0 : Int) ≤ (0 : Int) ∧ (0 : Int) < (Nat.cast : Nat → Int) 4,0 + Int.toNat (0 : Int) * 1 + 1 ≤ 4,CF 39 [D.int .i64 m0,D.int .i64 ((List.length (FBook.feet x) : Int))] (D.int .i64 y0),(0 : Int) ≤ (1 : Int) ∧ (1 : Int) < (Nat.cast : Nat → Int) 4,0 + Int.toNat (1 : Int) * 1 + 1 ≤ 4,inI64 (Book.days (FBook.chain x) + (1 : Int)),CF 39 [D.int .i64 m1,D.int .i64 (Book.days (FBook.chain x) + (1 : Int))] (D.int .i64 y1),(0 : Int) ≤ (2 : Int) ∧ (2 : Int) < (Nat.cast : Nat → Int) 4,0 + Int.toNat (2 : Int) * 1 + 1 ≤ 4,CF 39 [D.int .i64 m2,D.int .i64 201] (D.int .i64 y2),(0 : Int) ≤ (3 : Int) ∧ (3 : Int) < (Nat.cast : Nat → Int) 4,0 + Int.toNat (3 : Int) * 1 + 1 ≤ 4,CF 39 [D.int .i64 m3,D.int .i64 6] (D.int .i64 y3),List.length ([] ++ Book.svs (FBook.chain x)) * (32 + 1) ≤ 140737488355328,0 + 4 ≤ 4,List.length ([] ++ Book.svs (FBook.chain x)) = List.length (([] ++ Book.svs (FBook.chain x))),List.length (([] ++ Book.svs (FBook.chain x)) ++ [Sv.mk y0 y1 y2 y3]) * (32 + 1) ≤ 140737488355328,mrL x y0 y1 y2 y3,0 + 4 ≤ 4,CF 47 [bookD x.chain,D.agg [D.int .i64 y0,D.int .i64 y1,D.int .i64 y2,D.int .i64 y3]] (D.tup [D.bool true,D.int .i64 0]),(0 : Int) ≤ (0 : Int) ∧ (0 : Int) < (Nat.cast : Nat → Int) 3,0 + Int.toNat (0 : Int) * 1 + 1 ≤ 3,CF 76 [fbookD x,D.int .i64 n0] (D.sl false E.work plan),(0 : Int) ≤ (1 : Int) ∧ (1 : Int) < (Nat.cast : Nat → Int) 3,0 + Int.toNat (1 : Int) * 1 + 1 ≤ 3,CF 39 [D.int .i64 n1,D.int .i64 ((List.length (FBook.feet x) : Int))] (D.int .i64 s),(0 : Int) ≤ (2 : Int) ∧ (2 : Int) < (Nat.cast : Nat → Int) 3,0 + Int.toNat (2 : Int) * 1 + 1 ≤ 3,inI64 (Book.days (FBook.chain x) + (1 : Int)),CF 39 [D.int .i64 n2,D.int .i64 (Book.days (FBook.chain x) + (1 : Int))] (D.int .i64 d),CF 81 [fbookD x,D.sl false E.work plan,D.int .i64 s,D.int .i64 d] (D.tup [D.int .i64 v,D.int .i64 0]),mrL x y0 y1 y2 y3,CF 81 [mrD x y0 y1 y2 y3,D.sl false E.work plan,D.int .i64 s,D.int .i64 d] (D.tup [D.int .i64 u,D.int .i64 0]),CF 78 [fbookD x,D.sl false E.work plan] (D.tup [D.bool false,D.int .i64 0]),mrL x y0 y1 y2 y3,CF 78 [mrD x y0 y1 y2 y3,D.sl false E.work plan] (D.tup [D.bool false,D.int .i64 0]),decide (u ≥ v) = true,decide (u ≥ v) = true,decide (u ≥ v) = true,decide (u ≥ v) = true,mrL x y0 y1 y2 y3,CF 90 [mrD x y0 y1 y2 y3] (D.int .i64 c1),decide (c1 ≥ (0 : Int)) = true,decide (c1 ≥ (0 : Int)) = true,mrL x y0 y1 y2 y3,CF 90 [mrD x y0 y1 y2 y3] (D.int .i64 c1),decide (c1 ≥ (0 : Int)) = true,decide (c1 ≥ (0 : Int)) = true,CF 90 [fbookD x] (D.int .i64 c2),decide (c1 ≥ (0 : Int)) = true,decide (c1 ≥ (0 : Int)) = true,decide (c1 ≤ c2) = true,CF 73 [] (D.bool true),decide (c1 ≤ c2) = true],D.bool true) := by kernel_rfl
theorem lmore_ft (x : FBook) (m0 m1 m2 m3 n0 n1 n2 : Int) (y0 y1 y2 y3 : Int) (plan : List Work) (s d v u c1 c2 : Int) :
  callF (MF 183) [(33,false),(161,true),(173,true),(180,true)] [(25,.bool true),(40,.int .i64 y0),(47,.int .i64 y1),(50,.int .i64 y2),(53,.int .i64 y3),(70,.tup [.bool true,.int .i64 0]),(100,.sl false .work plan),(106,.int .i64 s),(113,.int .i64 d),(119,.tup [.int .i64 v,.int .i64 0]),(127,.tup [.int .i64 u,.int .i64 0]),(133,.tup [.bool false,.int .i64 0]),(139,.tup [.bool true,.int .i64 0]),(170,.int .i64 c1),(175,.int .i64 c1),(177,.int .i64 c2),(181,.bool true)] [] (body Tryd.f24) [.tmp 6] [fbookD x,.agg [.int .i64 m0,.int .i64 m1,.int .i64 m2,.int .i64 m3],.agg [.int .i64 n0,.int .i64 n1,.int .i64 n2]] =
   some ([CF 72 [fbookD x] (D.bool true),((List.length (Book.svs (FBook.chain x)) : Int) == (8 : Int)) = false,(0 : Int) ≤ (0 : Int) ∧ (0 : Int) < (Nat.cast : Nat → Int) 4,0 + Int.toNat (0 : Int) * 1 + 1 ≤ 4,CF 39 [D.int .i64 m0,D.int .i64 ((List.length (FBook.feet x) : Int))] (D.int .i64 y0),(0 : Int) ≤ (1 : Int) ∧ (1 : Int) < (Nat.cast : Nat → Int) 4,0 + Int.toNat (1 : Int) * 1 + 1 ≤ 4,inI64 (Book.days (FBook.chain x) + (1 : Int)),CF 39 [D.int .i64 m1,D.int .i64 (Book.days (FBook.chain x) + (1 : Int))] (D.int .i64 y1),(0 : Int) ≤ (2 : Int) ∧ (2 : Int) < (Nat.cast : Nat → Int) 4,0 + Int.toNat (2 : Int) * 1 + 1 ≤ 4,CF 39 [D.int .i64 m2,D.int .i64 201] (D.int .i64 y2),(0 : Int) ≤ (3 : Int) ∧ (3 : Int) < (Nat.cast : Nat → Int) 4,0 + Int.toNat (3 : Int) * 1 + 1 ≤ 4,CF 39 [D.int .i64 m3,D.int .i64 6] (D.int .i64 y3),List.length ([] ++ Book.svs (FBook.chain x)) * (32 + 1) ≤ 140737488355328,0 + 4 ≤ 4,List.length ([] ++ Book.svs (FBook.chain x)) = List.length (([] ++ Book.svs (FBook.chain x))),List.length (([] ++ Book.svs (FBook.chain x)) ++ [Sv.mk y0 y1 y2 y3]) * (32 + 1) ≤ 140737488355328,mrL x y0 y1 y2 y3,0 + 4 ≤ 4,CF 47 [bookD x.chain,D.agg [D.int .i64 y0,D.int .i64 y1,D.int .i64 y2,D.int .i64 y3]] (D.tup [D.bool true,D.int .i64 0]),(0 : Int) ≤ (0 : Int) ∧ (0 : Int) < (Nat.cast : Nat → Int) 3,0 + Int.toNat (0 : Int) * 1 + 1 ≤ 3,CF 76 [fbookD x,D.int .i64 n0] (D.sl false E.work plan),(0 : Int) ≤ (1 : Int) ∧ (1 : Int) < (Nat.cast : Nat → Int) 3,0 + Int.toNat (1 : Int) * 1 + 1 ≤ 3,CF 39 [D.int .i64 n1,D.int .i64 ((List.length (FBook.feet x) : Int))] (D.int .i64 s),(0 : Int) ≤ (2 : Int) ∧ (2 : Int) < (Nat.cast : Nat → Int) 3,0 + Int.toNat (2 : Int) * 1 + 1 ≤ 3,inI64 (Book.days (FBook.chain x) + (1 : Int)),CF 39 [D.int .i64 n2,D.int .i64 (Book.days (FBook.chain x) + (1 : Int))] (D.int .i64 d),CF 81 [fbookD x,D.sl false E.work plan,D.int .i64 s,D.int .i64 d] (D.tup [D.int .i64 v,D.int .i64 0]),mrL x y0 y1 y2 y3,CF 81 [mrD x y0 y1 y2 y3,D.sl false E.work plan,D.int .i64 s,D.int .i64 d] (D.tup [D.int .i64 u,D.int .i64 0]),CF 78 [fbookD x,D.sl false E.work plan] (D.tup [D.bool false,D.int .i64 0]),mrL x y0 y1 y2 y3,CF 78 [mrD x y0 y1 y2 y3,D.sl false E.work plan] (D.tup [D.bool true,D.int .i64 0]),decide (u ≥ v) = true,decide (u ≥ v) = true,decide (u ≥ v) = true,decide (u ≥ v) = true,mrL x y0 y1 y2 y3,CF 90 [mrD x y0 y1 y2 y3] (D.int .i64 c1),decide (c1 ≥ (0 : Int)) = true,decide (c1 ≥ (0 : Int)) = true,mrL x y0 y1 y2 y3,CF 90 [mrD x y0 y1 y2 y3] (D.int .i64 c1),decide (c1 ≥ (0 : Int)) = true,decide (c1 ≥ (0 : Int)) = true,CF 90 [fbookD x] (D.int .i64 c2),decide (c1 ≥ (0 : Int)) = true,decide (c1 ≥ (0 : Int)) = true,decide (c1 ≤ c2) = true,CF 73 [] (D.bool true),decide (c1 ≤ c2) = true],D.bool true) := by kernel_rfl
theorem lmore_tt (x : FBook) (m0 m1 m2 m3 n0 n1 n2 : Int) (y0 y1 y2 y3 : Int) (plan : List Work) (s d v u c1 c2 : Int) :
  callF (MF 183) [(33,false),(161,true),(173,true),(180,true)] [(25,.bool true),(40,.int .i64 y0),(47,.int .i64 y1),(50,.int .i64 y2),(53,.int .i64 y3),(70,.tup [.bool true,.int .i64 0]),(100,.sl false .work plan),(106,.int .i64 s),(113,.int .i64 d),(119,.tup [.int .i64 v,.int .i64 0]),(127,.tup [.int .i64 u,.int .i64 0]),(133,.tup [.bool true,.int .i64 0]),(139,.tup [.bool true,.int .i64 0]),(170,.int .i64 c1),(175,.int .i64 c1),(177,.int .i64 c2),(181,.bool true)] [] (body Tryd.f24) [.tmp 6] [fbookD x,.agg [.int .i64 m0,.int .i64 m1,.int .i64 m2,.int .i64 m3],.agg [.int .i64 n0,.int .i64 n1,.int .i64 n2]] =
   some ([CF 72 [fbookD x] (D.bool true),((List.length (Book.svs (FBook.chain x)) : Int) == (8 : Int)) = false,(0 : Int) ≤ (0 : Int) ∧ (0 : Int) < (Nat.cast : Nat → Int) 4,0 + Int.toNat (0 : Int) * 1 + 1 ≤ 4,CF 39 [D.int .i64 m0,D.int .i64 ((List.length (FBook.feet x) : Int))] (D.int .i64 y0),(0 : Int) ≤ (1 : Int) ∧ (1 : Int) < (Nat.cast : Nat → Int) 4,0 + Int.toNat (1 : Int) * 1 + 1 ≤ 4,inI64 (Book.days (FBook.chain x) + (1 : Int)),CF 39 [D.int .i64 m1,D.int .i64 (Book.days (FBook.chain x) + (1 : Int))] (D.int .i64 y1),(0 : Int) ≤ (2 : Int) ∧ (2 : Int) < (Nat.cast : Nat → Int) 4,0 + Int.toNat (2 : Int) * 1 + 1 ≤ 4,CF 39 [D.int .i64 m2,D.int .i64 201] (D.int .i64 y2),(0 : Int) ≤ (3 : Int) ∧ (3 : Int) < (Nat.cast : Nat → Int) 4,0 + Int.toNat (3 : Int) * 1 + 1 ≤ 4,CF 39 [D.int .i64 m3,D.int .i64 6] (D.int .i64 y3),List.length ([] ++ Book.svs (FBook.chain x)) * (32 + 1) ≤ 140737488355328,0 + 4 ≤ 4,List.length ([] ++ Book.svs (FBook.chain x)) = List.length (([] ++ Book.svs (FBook.chain x))),List.length (([] ++ Book.svs (FBook.chain x)) ++ [Sv.mk y0 y1 y2 y3]) * (32 + 1) ≤ 140737488355328,mrL x y0 y1 y2 y3,0 + 4 ≤ 4,CF 47 [bookD x.chain,D.agg [D.int .i64 y0,D.int .i64 y1,D.int .i64 y2,D.int .i64 y3]] (D.tup [D.bool true,D.int .i64 0]),(0 : Int) ≤ (0 : Int) ∧ (0 : Int) < (Nat.cast : Nat → Int) 3,0 + Int.toNat (0 : Int) * 1 + 1 ≤ 3,CF 76 [fbookD x,D.int .i64 n0] (D.sl false E.work plan),(0 : Int) ≤ (1 : Int) ∧ (1 : Int) < (Nat.cast : Nat → Int) 3,0 + Int.toNat (1 : Int) * 1 + 1 ≤ 3,CF 39 [D.int .i64 n1,D.int .i64 ((List.length (FBook.feet x) : Int))] (D.int .i64 s),(0 : Int) ≤ (2 : Int) ∧ (2 : Int) < (Nat.cast : Nat → Int) 3,0 + Int.toNat (2 : Int) * 1 + 1 ≤ 3,inI64 (Book.days (FBook.chain x) + (1 : Int)),CF 39 [D.int .i64 n2,D.int .i64 (Book.days (FBook.chain x) + (1 : Int))] (D.int .i64 d),CF 81 [fbookD x,D.sl false E.work plan,D.int .i64 s,D.int .i64 d] (D.tup [D.int .i64 v,D.int .i64 0]),mrL x y0 y1 y2 y3,CF 81 [mrD x y0 y1 y2 y3,D.sl false E.work plan,D.int .i64 s,D.int .i64 d] (D.tup [D.int .i64 u,D.int .i64 0]),CF 78 [fbookD x,D.sl false E.work plan] (D.tup [D.bool true,D.int .i64 0]),mrL x y0 y1 y2 y3,CF 78 [mrD x y0 y1 y2 y3,D.sl false E.work plan] (D.tup [D.bool true,D.int .i64 0]),decide (u ≥ v) = true,decide (u ≥ v) = true,decide (u ≥ v) = true,decide (u ≥ v) = true,mrL x y0 y1 y2 y3,CF 90 [mrD x y0 y1 y2 y3] (D.int .i64 c1),decide (c1 ≥ (0 : Int)) = true,decide (c1 ≥ (0 : Int)) = true,mrL x y0 y1 y2 y3,CF 90 [mrD x y0 y1 y2 y3] (D.int .i64 c1),decide (c1 ≥ (0 : Int)) = true,decide (c1 ≥ (0 : Int)) = true,CF 90 [fbookD x] (D.int .i64 c2),decide (c1 ≥ (0 : Int)) = true,decide (c1 ≥ (0 : Int)) = true,decide (c1 ≤ c2) = true,CF 73 [] (D.bool true),decide (c1 ≤ c2) = true],D.bool true) := by kernel_rfl
end Go.Di

namespace Go.Di
open Proofs
theorem more_smallF {x : FBook} (hs : FSmall x) (hV : FValid x) (y : Sv) : FSmall (x.moreSv y) := ⟨⟨hs.chain.secs,hs.chain.turns,by
 have := hV.chain.svs
 show (x.chain.svs ++ [y]).length ≤ _
 rw [List.length_append,List.length_singleton]
 omega⟩,hs.feet,hs.opn⟩
theorem lmore_con {x : FBook} (hs : FSmall x) (m0 m1 m2 m3 n0 n1 n2 : Int) : CF 24 [fbookD x,.agg [.int .i64 m0,.int .i64 m1,.int .i64 m2,.int .i64 m3],.agg [.int .i64 n0,.int .i64 n1,.int .i64 n2]] (.bool true) := by
 have hsound := fsound_con hs
 cases hv : fvalidF x with
 | false =>
  rw [hv] at hsound
  exact contract_of_path (GF 183) lmore_fn (lmore_bad x m0 m1 m2 m3 n0 n1 n2) (by repeat (first | exact trivial | refine ⟨by first | exact hsound | exact riv_con,?_⟩))
 | true =>
  rw [hv] at hsound
  have hV := fvalid_iff.1 hv
  have hC := hV.chain
  have hfe := hV.feet
  have hsec := hC.secs
  have hdd := hC.days
  have hsv := hC.svs
  by_cases hfull : (x.chain.svs.length : Int) = 8
  ·have hf : ((x.chain.svs.length : Int) == 8) = true := by simpa using hfull
   exact contract_of_path (GF 183) lmore_fn (lmore_full x m0 m1 m2 m3 n0 n1 n2) (by repeat (first | exact trivial | refine ⟨by first | exact hsound | exact hf | exact riv_con,?_⟩))
  ·have hf : ((x.chain.svs.length : Int) == 8) = false := by simpa using hfull
   have h7 : x.chain.svs.length ≤ 7 := by omega
   have k0 := modU_con m0 x.feet.length (by omega)
   have k1 := modU_con m1 (x.chain.days + 1) (by omega)
   have k2 := modU_con m2 201 (by omega)
   have k3 := modU_con m3 6 (by omega)
   have q0 := modF_in (n := m0) (m := x.feet.length) (by omega)
   have q1 := modF_in (n := m1) (m := x.chain.days + 1) (by omega)
   have q2 := modF_in (n := m2) (m := 201) (by omega)
   have q3 := modF_in (n := m3) (m := 6) (by omega)
   generalize modF m0 x.feet.length = y0 at *
   generalize modF m1 (x.chain.days + 1) = y1 at *
   generalize modF m2 201 = y2 at *
   generalize modF m3 6 = y3 at *
   have hy : isSurveyF x.chain ⟨y0,y1,y2,y3⟩ = true := survey_iff.2 ⟨⟨q0.1,by show y0 ≤ _; omega⟩,⟨q1.1,by show y1 ≤ _; omega⟩,⟨q2.1,by show y2 ≤ _; omega⟩,⟨q3.1,by show y3 ≤ _; omega⟩⟩
   have i1 : inI64 (x.chain.days + 1) := i64_of (by omega) (by omega)
   have hVm := fmore_valid hV h7 hy
   have hsm := more_smallF hs hV ⟨y0,y1,y2,y3⟩
   have hFi := (fitsA_con hs.chain ⟨y0,y1,y2,y3⟩).up
   unfold fitsAF at hFi
   rw [hy] at hFi
   have z1 : ([] ++ x.chain.svs).length * (32 + 1) ≤ 140737488355328 := by rw [List.nil_append]; omega
   have z2 : (([] ++ x.chain.svs) ++ [(⟨y0,y1,y2,y3⟩ : Sv)]).length * (32 + 1) ≤ 140737488355328 := by rw [List.nil_append,List.length_append,List.length_singleton]; omega
   have hPm := fPlan_con hsm
   unfold fPlanF at hPm
   rw [err_of hVm] at hPm
   cases hc : canF x.chain with
   | false =>
    rw [show errF x.chain true = 12 from by unfold errF; rw [valid_iff.2 hC,hc]; rfl,if_neg (by decide)] at hFi
    have hcm : canF (x.moreSv ⟨y0,y1,y2,y3⟩).chain = false := by
     cases h : canF (x.moreSv ⟨y0,y1,y2,y3⟩).chain with
     | false => rfl
     | true => have := can_true (more_can hC hy (ne_of_can h)); rw [hc] at this; cases this
    rw [hcm,if_neg (by decide),if_neg (by decide)] at hPm
    exact contract_of_path (GF 183) lmore_fn (lmore_false x m0 m1 m2 m3 n0 n1 n2 y0 y1 y2 y3) (by repeat (first | exact trivial | refine ⟨by first | exact hsound | exact hf | exact k0 | exact k1 | exact k2 | exact k3 | exact i1 | exact hFi | exact hPm | exact z1 | exact z2 | exact riv_con | exact rfl | decide | (constructor <;> decide),?_⟩))
   | true =>
    rw [err_zero hC hc,if_pos rfl] at hFi
    cases hcm : canF (x.moreSv ⟨y0,y1,y2,y3⟩).chain with
    | false =>
     rw [show (!(truthsF (more x.chain ⟨y0,y1,y2,y3⟩) []).isEmpty) = false from hcm] at hFi
     rw [hcm,if_neg (by decide),if_neg (by decide)] at hPm
     exact contract_of_path (GF 183) lmore_fn (lmore_no x m0 m1 m2 m3 n0 n1 n2 y0 y1 y2 y3) (by repeat (first | exact trivial | refine ⟨by first | exact hsound | exact hf | exact k0 | exact k1 | exact k2 | exact k3 | exact i1 | exact hFi | exact hPm | exact z1 | exact z2 | exact riv_con | exact rfl | decide | (constructor <;> decide),?_⟩))
    | true =>
     rw [show (!(truthsF (more x.chain ⟨y0,y1,y2,y3⟩) []).isEmpty) = true from hcm] at hFi
     have hne : truthsF (more x.chain ⟨y0,y1,y2,y3⟩) [] ≠ [] := ne_of_can hcm
     have hdr := drawn_con hV n0
     have hb := drawn_b hV n0
     have hpl := drawn_plan hV n0
     have hlen := plan_len hV hpl
     generalize drawnF x n0 = plan at *
     have hl : plan.length ≤ 9223372036854775807 := by omega
     have p1 := modU_con n1 x.feet.length (by omega)
     have p2 := modU_con n2 (x.chain.days + 1) (by omega)
     have hsi := modF_in (n := n1) (m := x.feet.length) (by omega)
     have hdi := modF_in (n := n2) (m := x.chain.days + 1) (by omega)
     generalize modF n1 x.feet.length = s at *
     generalize modF n2 (x.chain.days + 1) = d at *
     have hd2 : 0 ≤ d ∧ d ≤ x.chain.days := ⟨hdi.1,by omega⟩
     have hplm : IsPlan (x.moreSv ⟨y0,y1,y2,y3⟩) plan := ⟨fun w hw => hpl.1 w hw,hpl.2⟩
     have hbm : planB (x.moreSv ⟨y0,y1,y2,y3⟩) plan = true := (isPlan_iff hVm).2 hplm
     have hL := fLeast_con hs hl s d
     rw [fLeast_can hV hb hc hsi hd2] at hL
     have hLm := fLeast_con hsm hl s d
     rw [fLeast_can hVm hbm hcm hsi hd2] at hLm
     have hS := fSafe_con hs hl
     rw [fSafe_can hV hb hc] at hS
     have hSm := fSafe_con hsm hl
     rw [fSafe_can hVm hbm hcm] at hSm
     have c1 := cost_con hV hs
     have c2 := cost_con hVm hsm
     obtain ⟨e1,e2⟩ := cost_more hV h7 hy hc hcm
     have d1 := decide_eq_true (show leastV (x.moreSv ⟨y0,y1,y2,y3⟩) plan s d ≥ leastV x plan s d from more_leastV hV hy hne plan hsi hd2)
     have d2 := decide_eq_true (show costV (x.moreSv ⟨y0,y1,y2,y3⟩) ≥ 0 from e1)
     have d3 := decide_eq_true e2
     have himp : (fthinF x (knowTh x) (knowWr x) plan).isNone = true → (fthinF (x.moreSv ⟨y0,y1,y2,y3⟩) (knowTh (x.moreSv ⟨y0,y1,y2,y3⟩)) (knowWr (x.moreSv ⟨y0,y1,y2,y3⟩)) plan).isNone = true := fun h => thin_iff_safe.2 (more_safeP hV hy hne (thin_iff_safe.1 h))
     cases hw : (fthinF x (knowTh x) (knowWr x) plan).isNone with
     | true =>
      rw [hw] at hS
      rw [himp hw] at hSm
      exact contract_of_path (GF 183) lmore_fn (lmore_tt x m0 m1 m2 m3 n0 n1 n2 y0 y1 y2 y3 plan s d _ _ _ _) (by repeat (first | exact trivial | refine ⟨by first | exact hsound | exact hf | exact k0 | exact k1 | exact k2 | exact k3 | exact i1 | exact hFi | exact hdr | exact p1 | exact p2 | exact hL | exact hLm | exact hS | exact hSm | exact c1 | exact c2 | exact d1 | exact d2 | exact d3 | exact z1 | exact z2 | exact riv_con | exact rfl | decide | (constructor <;> decide),?_⟩))
     | false =>
      rw [hw] at hS
      cases hi : (fthinF (x.moreSv ⟨y0,y1,y2,y3⟩) (knowTh (x.moreSv ⟨y0,y1,y2,y3⟩)) (knowWr (x.moreSv ⟨y0,y1,y2,y3⟩)) plan).isNone with
      | true =>
       rw [hi] at hSm
       exact contract_of_path (GF 183) lmore_fn (lmore_ft x m0 m1 m2 m3 n0 n1 n2 y0 y1 y2 y3 plan s d _ _ _ _) (by repeat (first | exact trivial | refine ⟨by first | exact hsound | exact hf | exact k0 | exact k1 | exact k2 | exact k3 | exact i1 | exact hFi | exact hdr | exact p1 | exact p2 | exact hL | exact hLm | exact hS | exact hSm | exact c1 | exact c2 | exact d1 | exact d2 | exact d3 | exact z1 | exact z2 | exact riv_con | exact rfl | decide | (constructor <;> decide),?_⟩))
      | false =>
       rw [hi] at hSm
       exact contract_of_path (GF 183) lmore_fn (lmore_ff x m0 m1 m2 m3 n0 n1 n2 y0 y1 y2 y3 plan s d _ _ _ _) (by repeat (first | exact trivial | refine ⟨by first | exact hsound | exact hf | exact k0 | exact k1 | exact k2 | exact k3 | exact i1 | exact hFi | exact hdr | exact p1 | exact p2 | exact hL | exact hLm | exact hS | exact hSm | exact c1 | exact c2 | exact d1 | exact d2 | exact d3 | exact z1 | exact z2 | exact riv_con | exact rfl | decide | (constructor <;> decide),?_⟩))
end Go.Di

