/- Part 27: contracts are proved. No condition. -/
import Derived.Test.YtfkmodcjddfeiaaDoorDi26
set_option linter.unusedVariables false
set_option linter.unusedSimpArgs false
set_option maxRecDepth 100000
namespace Go.Di
open Proofs
section
variable {x : FBook} {th : List (List Int)} {wr : List Int} {s : Nat}
theorem Yf1 : ∀ {K : Nat} {l : Int},l ∈ Ya9 x th wr s K → ∃ k : Nat,k < K ∧ l = (k : Int) ∧ keepsF x th wr s k = true
 | 0,l,h => by cases h
 | K + 1,l,h => by
  simp only [Ya9] at h
  split at h
  ·obtain ⟨k,h1,h2⟩ := Yf1 h
   exact ⟨k,by omega,h2⟩
  ·split at h
   ·rename_i _ hk
    rcases List.mem_append.1 h with h | h
    ·obtain ⟨k,h1,h2⟩ := Yf1 h
     exact ⟨k,by omega,h2⟩
    ·rw [List.mem_singleton] at h
     exact ⟨K,by omega,h,hk⟩
   ·obtain ⟨k,h1,h2⟩ := Yf1 h
    exact ⟨k,by omega,h2⟩
end
def setAll (c : Nat → Int) : Nat → Nat → W4 → W4
 | 0,_,on => on
 | f + 1,s,on => setAll c f (s + 1) (on.set s (c s))
theorem plansGo_of {x : FBook} {al : List (List Int)} : ∀ (f s : Nat) (on : W4) (p : List Work),p ∈ Ybf x al f s on → ∃ c : Nat → Int,p = Yaz x (setAll c f s on) ∧ ∀ j,s ≤ j → j < s + f → c j ∈ al.getD j []
 | 0,s,on,p,h => ⟨fun _ => 0,by simpa [Ybf,setAll] using h,fun j h1 h2 => by omega⟩
 | f + 1,s,on,p,h => by
  simp only [Ybf,List.mem_flatMap] at h
  obtain ⟨z,hz,h⟩ := h
  obtain ⟨c,h1,h2⟩ := plansGo_of f (s + 1) _ p h
  have hcong : ∀ (f s' : Nat) (on : W4),s < s' → setAll c f s' on = setAll (fun j => if j = s then z else c j) f s' on := by
   intro f
   induction f with
   | zero => exact fun _ _ _ => rfl
   | succ f ih =>
    intro s' on hs'
    simp only [setAll]
    rw [if_neg (by omega)]
    exact ih (s' + 1) _ (by omega)
  refine ⟨fun j => if j = s then z else c j,?_,fun j h3 h4 => ?_⟩
  ·rw [h1]
   simp only [setAll,if_true]
   rw [hcong f (s + 1) _ (by omega)]
  ·dsimp only
   by_cases hj : j = s
   ·rw [if_pos hj,hj]; exact hz
   ·rw [if_neg hj]; exact h2 j (by omega) (by omega)
theorem get_set {on : W4} {s j : Nat} (hs : s < 4) (hj : j < 4) (z : Int) : (on.set s z).get j = if j = s then z else on.get j := by
 have h1 : s = 0 ∨ s = 1 ∨ s = 2 ∨ s = 3 := by omega
 have h2 : j = 0 ∨ j = 1 ∨ j = 2 ∨ j = 3 := by omega
 rcases h1 with rfl | rfl | rfl | rfl <;> rcases h2 with rfl | rfl | rfl | rfl <;> rfl
theorem setAll_get (c : Nat → Int) : ∀ (f s : Nat) (on : W4) (j : Nat),s + f ≤ 4 → j < 4 → (setAll c f s on).get j = if s ≤ j ∧ j < s + f then c j else on.get j
 | 0,s,on,j,_,_ => by rw [if_neg (by omega)]; rfl
 | f + 1,s,on,j,h,hj => by
  simp only [setAll]
  rw [setAll_get c f (s + 1) _ j (by omega) hj,get_set (by omega) hj]
  by_cases h1 : j = s
  ·subst h1
   rw [if_neg (by omega),if_pos rfl,if_pos (by omega)]
  ·rw [if_neg h1]
   by_cases h2 : s + 1 ≤ j ∧ j < s + 1 + f
   ·rw [if_pos h2,if_pos (by omega)]
   ·rw [if_neg h2,if_neg (by omega)]
theorem allF_get {x : FBook} {th : List (List Int)} {wr : List Int} {s : Nat} (hs : s < x.feet.length) : (allF x th wr).getD s [] = Yb8 x th wr s := by
 simp [allF,List.getD_eq_getElem?_getD,hs]
def SafeP (x : FBook) (th : List (List Int)) (wr : List Int) (plan : List Work) : Prop := ∀ s d : Int,0 ≤ s ∧ s < x.feet.length → 0 ≤ d ∧ d ≤ x.chain.days → x.chain.rule ≤ Ybk x th wr plan s d
section
variable {x : FBook} (hx : FIn x) (ho : x.opn.Pairwise (· < ·)) (th : List (List Int)) (wr : List Int)
include hx ho
theorem keeps_iff {s : Nat} (hs : s < x.feet.length) {f : Nat → Nat → Bool} {z : Int} (hz : ∀ k,k < x.opn.length → bitF z k = f k s) : keepsF x th wr s z = true ↔ ∀ d : Int,0 ≤ d ∧ d ≤ x.chain.days → x.chain.rule ≤ Ybk x th wr (grdF x f) s d := by
 have hn := hx.n
 have hday := hx.days
 have hsame : ∀ d : Int,Ybk x th wr (Yaz x (zeroW.set s z)) s d = Ybk x th wr (grdF x f) s d := by
  intro d
  rw [planned_grd]
  refine fleast_congr x th wr (grdTo_pair ho _ _ (Nat.le_refl _)) (grdTo_pair ho _ _ (Nat.le_refl _)) (fun w hw => ?_) d
  show w ∈ grdF x _ ↔ w ∈ grdF x f
  rw [grd_mem,grd_mem]
  constructor
  ·rintro ⟨k,j,h1,h2,h3,rfl⟩
   have hjs : j = s := by have hw' : (j : Int) = s := hw; omega
   subst hjs
   rw [get_set (by omega) (by omega),if_pos rfl,hz k h1] at h3
   exact ⟨k,j,h1,h2,h3,rfl⟩
  ·rintro ⟨k,j,h1,h2,h3,rfl⟩
   have hjs : j = s := by have hw' : (j : Int) = s := hw; omega
   subst hjs
   refine ⟨k,j,h1,h2,?_,rfl⟩
   rw [get_set (by omega) (by omega),if_pos rfl,hz k h1]
   exact h3
 unfold keepsF
 rw [List.all_eq_true]
 constructor
 ·intro h d hd
  have := h d.toNat (List.mem_range.2 (by omega))
  rw [Int.toNat_of_nonneg hd.1,hsame] at this
  simpa using this
 ·intro h d hd
  rw [List.mem_range] at hd
  have := h (d : Int) ⟨by omega,by omega⟩
  rw [hsame]
  simpa using this
theorem plans_safe {p : List Work} (hp : p ∈ Ygi x th wr) : SafeP x th wr p := by
 obtain ⟨c,rfl,hc⟩ := plansGo_of _ _ _ _ hp
 have hn := hx.n
 intro s d hs hd
 have hs2 : s.toNat < x.feet.length := by omega
 have h1 := hc s.toNat (Nat.zero_le _) (by omega)
 rw [allF_get hs2] at h1
 obtain ⟨k,_,h2,h3⟩ := Yf1 h1
 rw [planned_grd]
 have := (keeps_iff hx ho th wr hs2 (f := fun k s => bitF ((setAll c x.feet.length 0 zeroW).get s) k) (z := (k : Int)) (fun j _ => by
  rw [setAll_get c _ 0 zeroW _ (by omega) (by omega),if_pos (by omega),h2])).1 h3 d hd
 rwa [Int.toNat_of_nonneg hs.1] at this
end
end Go.Di

namespace Go.Di
open Proofs
noncomputable abbrev k_79 (p : List Nat) : Code := Code.at p (body Proofs.Tryd.f79)
theorem lisp_fn : FnOk PRG (MF 70) 79 (body Tryd.f79) [.tmp 4] := by refine ⟨Tryd.f79,?_,?_,?_,?_,?_⟩ <;> kernel_rfl
def Ydu (x : FBook) (plan : List Work) (i : Nat) : List (Key × Val) :=
 [(.tmp 1,.d (D.sl false E.work plan)),
  (.tmp 2,.d (D.ptr 2 0)),
  (.tmp 5,.d (.I i)),
  (.box 2,.bx (some (Box.mk false (cellsOf (Yab x)))))]
def lisp_K0 : List Key := [.tmp 1,.tmp 2,.tmp 5,.box 2]
theorem lisp_0_one (x : FBook) (plan : List Work) (i : Nat) (a : Int) :
  runK (MF 70) [(10,true),(23,false),(36,false)] [(21,.I a),(30,.bool true)] [] (k_79 [1,0,1,0,0]) (Ydu x plan i) lisp_K0 =
   let Z0 : Prop := decide ((i : Int) > (0 : Int)) = false; let Z1 : Prop := decide (a < (0 : Int)) = false; let Z2 := List.getD plan (i) work0; some ([decide ((i : Int) < (plan.length : Int)) = true,(0 : Int) ≤ (i : Int) ∧ (i : Int) < (plan.length : Int),0 + 2 ≤ 2,0 + 0 + 1 ≤ 2,CF 46 [D.sl false E.int x.opn,D.I (Work.d Z2)] (D.I a),Z1,Z1,0 + 1 + 1 ≤ 2,Z1,Z1,Z1,Z1,Yac ((x.feet.length : Int) - (1 : Int)),Z1,CF 50 [D.I (Work.s Z2),D.I 0,D.I ((x.feet.length : Int) - (1 : Int))] (D.bool true),Z1,Z1,Z0,Z0,Z0,Z0,Z0,Z0,Z0,Z0,Z0,Z0,Z0,Z0,Yac ((i : Int) + (1 : Int))],Ex.normal,Ydu x plan (i + 1)) := by kernel_rfl
theorem lisp_0_day (x : FBook) (plan : List Work) (i : Nat) (a : Int) :
  runK (MF 70) [(10,true),(23,false),(36,true),(46,false),(56,false)] [(21,.I a),(30,.bool true)] [] (k_79 [1,0,1,0,0]) (Ydu x plan i) lisp_K0 =
   let Z0 : Prop := decide (Work.d (List.getD plan (i) work0) < Work.d (List.getD plan (Int.toNat ((i : Int) - (1 : Int))) work0)) = false; let Z1 := Work.d (List.getD plan (i) work0) == Work.d (List.getD plan (Int.toNat ((i : Int) - (1 : Int))) work0); let Z2 : Prop := decide ((i : Int) > (0 : Int)) = true; let Z3 : Prop := decide (a < (0 : Int)) = false; let Z4 : Prop := 0 + 0 + 1 ≤ 2; let Z5 : Prop := Yac ((i : Int) - (1 : Int)); let Z6 := List.getD plan (i) work0; some ([decide ((i : Int) < (plan.length : Int)) = true,(0 : Int) ≤ (i : Int) ∧ (i : Int) < (plan.length : Int),0 + 2 ≤ 2,Z4,CF 46 [D.sl false E.int x.opn,D.I (Work.d Z6)] (D.I a),Z3,Z3,0 + 1 + 1 ≤ 2,Z3,Z3,Z3,Z3,Yac ((x.feet.length : Int) - (1 : Int)),Z3,CF 50 [D.I (Work.s Z6),D.I 0,D.I ((x.feet.length : Int) - (1 : Int))] (D.bool true),Z3,Z3,Z2,Z2,Z4,Z2,Z2,Z2,Z5,Z2,(0 : Int) ≤ (i : Int) - (1 : Int) ∧ (i : Int) - (1 : Int) < (plan.length : Int),Z2,Z2,Z4,Z2,Z2,Z0,Z0,Z4,Z0,Z0,Z0,Z5,Z0,(0 : Int) ≤ (i : Int) - (1 : Int) ∧ (i : Int) - (1 : Int) < (plan.length : Int),Z0,Z0,Z4,Z0,Z0,Z1 = false,Z1 = false,Z1 = false,Z1 = false,Z1 = false,Z1 = false,Z1 = false,Z1 = false,Z1 = false,Z0,Z1 = false,Z2,Z0,Z2,Yac ((i : Int) + (1 : Int))],Ex.normal,Ydu x plan (i + 1)) := by kernel_rfl
theorem lisp_0_sec (x : FBook) (plan : List Work) (i : Nat) (a : Int) :
  runK (MF 70) [(10,true),(23,false),(36,true),(46,false),(56,true),(69,false)] [(21,.I a),(30,.bool true)] [] (k_79 [1,0,1,0,0]) (Ydu x plan i) lisp_K0 =
   let Z0 : Prop := decide (Work.d (List.getD plan (i) work0) < Work.d (List.getD plan (Int.toNat ((i : Int) - (1 : Int))) work0)) = false; let Z1 := Work.d (List.getD plan (i) work0) == Work.d (List.getD plan (Int.toNat ((i : Int) - (1 : Int))) work0); let Z2 : Prop := decide ((i : Int) > (0 : Int)) = true; let Z3 : Prop := decide (a < (0 : Int)) = false; let Z4 : Prop := Yac ((i : Int) - (1 : Int)); let Z5 := List.getD plan (i) work0; let Z6 : Prop := 0 + 0 + 1 ≤ 2; some ([decide ((i : Int) < (plan.length : Int)) = true,(0 : Int) ≤ (i : Int) ∧ (i : Int) < (plan.length : Int),0 + 2 ≤ 2,Z6,CF 46 [D.sl false E.int x.opn,D.I (Work.d Z5)] (D.I a),Z3,Z3,0 + 1 + 1 ≤ 2,Z3,Z3,Z3,Z3,Yac ((x.feet.length : Int) - (1 : Int)),Z3,CF 50 [D.I (Work.s Z5),D.I 0,D.I ((x.feet.length : Int) - (1 : Int))] (D.bool true),Z3,Z3,Z2,Z2,Z6,Z2,Z2,Z2,Z4,Z2,(0 : Int) ≤ (i : Int) - (1 : Int) ∧ (i : Int) - (1 : Int) < (plan.length : Int),Z2,Z2,Z6,Z2,Z2,Z0,Z0,Z6,Z0,Z0,Z0,Z4,Z0,(0 : Int) ≤ (i : Int) - (1 : Int) ∧ (i : Int) - (1 : Int) < (plan.length : Int),Z0,Z0,Z6,Z0,Z0,Z1 = true,Z1 = true,0 + 1 + 1 ≤ 2,Z1 = true,Z1 = true,Z1 = true,Z4,Z1 = true,(0 : Int) ≤ (i : Int) - (1 : Int) ∧ (i : Int) - (1 : Int) < (plan.length : Int),Z1 = true,Z1 = true,0 + 1 + 1 ≤ 2,Z1 = true,Z0,Z1 = true,Z2,Z0,Z2,decide (Work.s Z5 ≤ Work.s (List.getD plan (Int.toNat ((i : Int) - (1 : Int))) work0)) = false,Yac ((i : Int) + (1 : Int))],Ex.normal,Ydu x plan (i + 1)) := by kernel_rfl
theorem lisp_0_end (x : FBook) (plan : List Work) (i : Nat) :
  runK (MF 70) [(10,false)] [] [] (k_79 [1,0,1,0,0]) (Ydu x plan i) lisp_K0 =
   some ([decide ((i : Int) < (plan.length : Int)) = false],Ex.exit 0,Ydu x plan i) := by kernel_rfl
theorem lisp_all (x : FBook) (plan : List Work) (i : Nat) :
  Yag (MF 70) [] [] [(0,(lisp_K0,(.normal,Ydu x plan i)))] (body Tryd.f79) [.tmp 4] [Yab x,.sl false .work plan] =
   some ([LF 70 (k_79 [1,0,1]) (Ydu x plan 0) Ex.normal (Ydu x plan i)],D.bool true) := by kernel_rfl
end Go.Di

namespace Go.Di
open Proofs
theorem best_is {x : FBook} (hx : FIn x) (ho : x.opn.Pairwise (· < ·)) (th : List (List Int)) (wr : List Int) (h : (Yfq x th wr).2 = true) : (∃ f,(Yfq x th wr).1 = grdF x f) ∧ SafeP x th wr (Yfq x th wr).1 ∧ Yfz x (Yfq x th wr).1 = true := by
 rcases bestOf_spec x (Ygi x th wr) with ⟨h1,h2,h3,h4⟩ | ⟨h1,h2⟩
 ·obtain ⟨on,he⟩ := plansGo_mem _ _ _ _ _ _ h2
  exact ⟨⟨_,he.trans (planned_grd x on)⟩,plans_safe hx ho th wr h2,h3⟩
 ·have h' : (Ycv x (Ygi x th wr)).2 = true := h
  rw [h1] at h'; cases h'
theorem index_nn {v : Int} {l : List Int} (h : v ∈ l) : 0 ≤ Ydx v l 0 := by
 rcases indexF_cases v l with ⟨k,h1,h2,_⟩ | ⟨_,h4⟩
 ·rw [h2]; omega
 ·obtain ⟨j,hj,he⟩ := mem_iff_getD.1 h
  have := h4 j hj
  rw [he] at this
  simp at this
theorem atU_con {x : FBook} (hx : FIn x) (v : Int) : CF 46 [.sl false .int x.opn,.int .i64 v] (.int .i64 (Ydx v x.opn 0)) := (atB_con x.opn v (by have := hx.opnl; omega)).up
theorem pair_getW {l : List Work} (h : l.Pairwise wlt) {i j : Nat} (hij : i < j) (hj : j < l.length) : wlt (l.getD i work0) (l.getD j work0) := by
 rw [List.getD_eq_getElem?_getD,List.getD_eq_getElem?_getD,List.getElem?_eq_getElem (by omega),List.getElem?_eq_getElem hj]
 exact List.pairwise_iff_getElem.1 h i j (by omega) hj hij
theorem lisp_con {x : FBook} (hV : FValid x) {plan : List Work} (hp : IsPlan x plan) : CF 79 [Yab x,.sl false .work plan] (.bool true) := by
 have hx := hV.inn
 have hn := hx.n
 have hl := (hp.ok hx).1
 have hloop : LF 70 (k_79 [1,0,1]) (Ydu x plan 0) .normal (Ydu x plan plan.length) := by
  refine LF.each (id := 0) (c := k_79 [1,0,1,0,0]) (by kernel_rfl) plan.length (fun i => Ydu x plan i) (fun i hi => ?_) ⟨_,_,_,_,_,_,_,lisp_0_end x plan _,⟨Yas,trivial⟩,.inl ⟨rfl,rfl⟩,rfl⟩
  obtain ⟨h1,h2⟩ := hp.1 _ (mem_getD work0 hi)
  have ha := atU_con hx (plan.getD i work0).d
  have hnn := decide_eq_false (Int.not_lt.2 (index_nn h1))
  have hin := inside_t (n := (plan.getD i work0).s) (lo := 0) (hi := (x.feet.length : Int) - 1) ⟨h2.1,by omega⟩
  have i1 : Yac ((x.feet.length : Int) - 1) := Yah (by omega) (by omega)
  have i2 : Yac ((i : Int) - 1) := Yah (by omega) (by omega)
  have i3 : Yac ((i : Int) + 1) := Yah (by omega) (by omega)
  have hb0 : (0 : Int) ≤ i ∧ (i : Int) < (plan.length : Int) := ⟨by omega,by omega⟩
  have hlt := Yak hi
  by_cases h0 : i = 0
  ·have hg : decide ((i : Int) > 0) = false := decide_eq_false (by omega)
   exact ⟨_,_,_,_,_,_,lisp_0_one x plan i _,(by repeat (first | exact trivial | refine ⟨by first | exact hlt | exact hb0 | exact ha | exact hnn | exact hin | exact i1 | exact i3 | exact hg | omega,?_⟩)),rfl⟩
  ·have hg : decide ((i : Int) > 0) = true := decide_eq_true (by omega)
   have hb1 : (0 : Int) ≤ (i : Int) - 1 ∧ (i : Int) - 1 < (plan.length : Int) := ⟨by omega,by omega⟩
   have hw := pair_getW hp.2 (show i - 1 < i by omega) hi
   have e1 : ((i : Int) - 1).toNat = i - 1 := by omega
   have q1 : decide ((plan.getD i work0).d < (plan.getD ((i : Int) - 1).toNat work0).d) = false := by rw [e1]; refine decide_eq_false ?_; unfold wlt at hw; omega
   by_cases hd : (plan.getD i work0).d = (plan.getD (i - 1) work0).d
   ·have q2 : ((plan.getD i work0).d == (plan.getD ((i : Int) - 1).toNat work0).d) = true := by rw [e1]; simpa using hd
    have q3 : decide ((plan.getD i work0).s ≤ (plan.getD ((i : Int) - 1).toNat work0).s) = false := by rw [e1]; refine decide_eq_false ?_; unfold wlt at hw; omega
    exact ⟨_,_,_,_,_,_,lisp_0_sec x plan i _,(by repeat (first | exact trivial | refine ⟨by first | exact hlt | exact hb0 | exact hb1 | exact ha | exact hnn | exact hin | exact i1 | exact i2 | exact i3 | exact hg | exact q1 | exact q2 | exact q3 | omega,?_⟩)),rfl⟩
   ·have q2 : ((plan.getD i work0).d == (plan.getD ((i : Int) - 1).toNat work0).d) = false := by rw [e1]; simpa using hd
    exact ⟨_,_,_,_,_,_,lisp_0_day x plan i _,(by repeat (first | exact trivial | refine ⟨by first | exact hlt | exact hb0 | exact hb1 | exact ha | exact hnn | exact hin | exact i1 | exact i2 | exact i3 | exact hg | exact q1 | exact q2 | omega,?_⟩)),rfl⟩
 exact Yaa (GF 70) lisp_fn (lisp_all x plan _) ⟨hloop,trivial⟩
end Go.Di

namespace Go.Di
open Proofs
section
variable (x : FBook) (c : Int)
end
end Go.Di

namespace Go.Di
open Proofs
end Go.Di

namespace Go.Di
open Proofs
end Go.Di

namespace Go.Di
open Proofs
def tolI (f : Nat → Int) : Nat → List Int
 | 0 => []
 | i + 1 => tolI f i ++ [f i]
theorem tolI_eq (f : Nat → Int) : ∀ n,tolI f n = (List.range n).map f
 | 0 => rfl
 | n + 1 => by
  simp only [tolI]
  rw [tolI_eq f n,List.range_succ,List.map_append]
  rfl
theorem tolI_len (f : Nat → Int) (n : Nat) : (tolI f n).length = n := by rw [tolI_eq]; simp
def ltS (x : FBook) (bits : List Int) (n : Int) (i : Nat) : List Int → List Int → List (Key × Val)
 | y :: r,z :: q => Ygl x bits n i y r z q
 | _,_ => ltA_S0 x bits n
theorem lt_loop0 {x : FBook} (hV : FValid x) {bits : List Int} (hl : bits.length ≤ 9223372036854775807) (n : Int) {y : Int} {r : List Int} {z : Int} {q : List Int}
  (h1 : tolI (trT x.chain bits) x.feet.length = y :: r) (h2 : tolI (trW x.chain bits) x.feet.length = z :: q) :
  LF 183 (k_16 [1,1,1,0,1]) (ltA_S0 x bits n) .normal (Ygl x bits n x.feet.length y r z q) := by
 have hfe := hV.feet
 have hsec := hV.chain.secs
 refine LG.each (id := 0) (c := k_16 [1,1,1,0,1,0,0]) (by kernel_rfl) x.feet.length (fun i => ltS x bits n i (tolI (trT x.chain bits) i) (tolI (trW x.chain bits) i)) (fun i hi => ?_) ?_
 ·have hs := hV.chain.sec _ (Yby x.chain.secs i sec0 (by omega))
  have hst := hs.t
  have hsw := hs.w
  have c1 := chooseX_con bits (2 * (i : Int)) hl
  have c2 := chooseX_con bits (2 * (i : Int) + 1) hl
  have w1 := withinX_con (x.chain.secs.getD i sec0).t (Ygd bits (2 * (i : Int))) (by omega) (by omega) (by omega)
  have w2 := withinX_con (x.chain.secs.getD i sec0).w (Ygd bits (2 * (i : Int) + 1)) (by omega) (by omega) (by omega)
  have hlt := Yak hi
  have hb : (0 : Int) ≤ (i : Int) ∧ (i : Int) < (x.chain.secs.length : Int) := ⟨by omega,by omega⟩
  have i1 : Yac (2 * (i : Int)) := Yah (by omega) (by omega)
  have i2 : Yac (2 * (i : Int) + 1) := Yah (by omega) (by omega)
  have i3 : Yac ((i : Int) + 1) := Yah (by omega) (by omega)
  have g1 := tolI_len (trT x.chain bits) i
  have g2 := tolI_len (trW x.chain bits) i
  have e1 : tolI (trT x.chain bits) (i + 1) = tolI (trT x.chain bits) i ++ [trT x.chain bits i] := rfl
  have e2 : tolI (trW x.chain bits) (i + 1) = tolI (trW x.chain bits) i ++ [trW x.chain bits i] := rfl
  simp only [e1,e2]
  generalize tolI (trT x.chain bits) i = o1 at *
  generalize tolI (trW x.chain bits) i = o2 at *
  match o1,o2,g1,g2 with
  | [],[],g1,g2 =>
   have : i = 0 := by simpa using g1.symm
   subst this
   exact ⟨_,_,_,_,_,_,ltA_0_on x bits n (Ygd bits (2 * ((0 : Nat) : Int))) (trT x.chain bits 0) (Ygd bits (2 * ((0 : Nat) : Int) + 1)) (trW x.chain bits 0),(by repeat (first | exact trivial | refine ⟨by first | exact hlt | exact hb | exact c1 | exact c2 | exact w1 | exact w2 | exact i1 | exact i2 | exact i3 | decide,?_⟩)),rfl⟩
  | y :: r,z :: q,g1,g2 =>
   have z1 : ((y :: r) ++ [trT x.chain bits i]).length * (8 + 1) ≤ 140737488355328 := by simp only [List.length_append,List.length_cons,List.length_nil] at g1 ⊢; omega
   have z2 : ((z :: q) ++ [trW x.chain bits i]).length * (8 + 1) ≤ 140737488355328 := by simp only [List.length_append,List.length_cons,List.length_nil] at g2 ⊢; omega
   exact ⟨_,_,_,_,_,_,ltB_0_on x bits n i y r z q (Ygd bits (2 * (i : Int))) (trT x.chain bits i) (Ygd bits (2 * (i : Int) + 1)) (trW x.chain bits i),(by repeat (first | exact trivial | refine ⟨by first | exact hlt | exact hb | exact c1 | exact c2 | exact w1 | exact w2 | exact i1 | exact i2 | exact i3 | exact z1 | exact z2 | exact rfl | omega,?_⟩)),rfl⟩
  | [],_ :: _,g1,g2 => simp at g1 g2; omega
  | _ :: _,[],g1,g2 => simp at g1 g2; omega
 ·simp only [h1,h2]
  exact ⟨_,_,_,_,_,_,_,ltB_0_end x bits n x.feet.length y r z q,⟨Yas,trivial⟩,.inl ⟨rfl,trivial⟩,rfl⟩
theorem getD_rangeL {α : Type} {f : Nat → List α} {n k : Nat} (hk : k < n) : ((List.range n).map f).getD k [] = f k := by
 rw [List.getD_eq_getElem?_getD,List.getElem?_map,List.getElem?_range hk]
 rfl
section
variable {x : FBook} (hV : FValid x) (hs : FSmall x) {T : Nat → Int} {w : W4} (hf : Feas x.chain [] T w) (hc : canF x.chain = true)
include hV hs hf hc
theorem lt1_sec (bits : List Int) (n y : Int) (r : List Int) (z : Int) (q : List Int) (ps : List (List Work)) (p : Nat) {pl : List Work} (hp : IsPlan x pl) {d : Nat} (hd : d < (x.chain.days + 1).toNat) :
  LF 183 (k_16 [1,1,1,1,1,1,0,1,0,0,1,0,0,1,1,1,1,1,1,0,0,1,0,0,1]) (lt1_S6 x bits n y r z q ps p pl (Ycc x (Yax x) (Yaw x) pl).isNone (Ycq x T w pl (x.chain.days + 1).toNat) d 0) .normal (lt1_S6 x bits n y r z q ps p pl (Ycc x (Yax x) (Yaw x) pl).isNone (Ycq x T w pl (x.chain.days + 1).toNat) d x.feet.length) := by
 have hfe := hV.feet
 have hn := hV.inn.n
 have hpl := plan_len hV hp
 have hb : Ygj x pl = true := (Yc4 hV).2 hp
 refine LG.each (id := 6) (c := k_16 [1,1,1,1,1,1,0,1,0,0,1,0,0,1,1,1,1,1,1,0,0,1,0,0,1,0,0]) (by kernel_rfl) x.feet.length (fun s => lt1_S6 x bits n y r z q ps p pl (Ycc x (Yax x) (Yaw x) pl).isNone (Ycq x T w pl (x.chain.days + 1).toNat) d s) (fun s hs' => ?_) ⟨_,_,_,_,_,_,_,lt1_6_end x bits n y r z q ps p pl _ _ d _,⟨Yas,trivial⟩,.inl ⟨rfl,rfl⟩,rfl⟩
 have hL := fLeast_con hs (plan := pl) (by omega) (s : Int) (d : Int)
 rw [fLeast_can hV hb hc (s := (s : Int)) (d := (d : Int)) ⟨by omega,by omega⟩ ⟨by omega,by omega⟩] at hL
 have hle := least_true hV hf pl hs' (d := (d : Int)) ⟨by omega,by omega⟩
 have e1 : (Ycq x T w pl (x.chain.days + 1).toNat).getD d [] = Ybl x T w pl d := getD_rangeL hd
 have e2 : (Ybl x T w pl d).getD s 0 = thkV x T w pl s d := Yc2 (f := fun k => thkV x T w pl k d) (by omega)
 have hlen : (Ybl x T w pl d).length = x.chain.secs.length := by simp [Ybl]
 have hdl := daysL_len x T w pl (x.chain.days + 1).toNat
 have b1 : (0 : Int) ≤ (d : Int) ∧ (d : Int) < ((Ycq x T w pl (x.chain.days + 1).toNat).length : Int) := ⟨by omega,by omega⟩
 have b2 : (0 : Int) ≤ (s : Int) ∧ (s : Int) < (((Ycq x T w pl (x.chain.days + 1).toNat).getD d []).length : Int) := by rw [e1]; exact ⟨by omega,by omega⟩
 have d1 : decide (((Ycq x T w pl (x.chain.days + 1).toNat).getD d []).getD s 0 < leastV x pl s d) = false := by rw [e1,e2]; exact decide_eq_false (by omega)
 have i1 : Yac ((s : Int) + 1) := Yah (by omega) (by omega)
 cases his : (Ycc x (Yax x) (Yaw x) pl).isNone with
 | true =>
  have hr := Ygw.1 his (s : Int) (d : Int) ⟨by omega,by omega⟩ ⟨by omega,by omega⟩
  have hr' : x.chain.rule ≤ leastV x pl s d := hr
  have d2 : decide (((Ycq x T w pl (x.chain.days + 1).toNat).getD d []).getD s 0 < x.chain.rule) = false := by rw [e1,e2]; exact decide_eq_false (by omega)
  exact ⟨_,_,_,_,_,_,lt1_6_safe x bits n y r z q ps p pl true _ d s _,(by repeat (first | exact trivial | refine ⟨by first | exact rfl | exact Yak hs' | exact hL | exact b1 | exact b2 | exact d1 | exact d2 | exact i1 | decide,?_⟩)),rfl⟩
 | false =>
  exact ⟨_,_,_,_,_,_,lt1_6_un x bits n y r z q ps p pl false _ d s _,(by repeat (first | exact trivial | refine ⟨by first | exact rfl | exact Yak hs' | exact hL | exact b1 | exact b2 | exact d1 | exact i1 | decide,?_⟩)),rfl⟩
theorem lt1_day (bits : List Int) (n y : Int) (r : List Int) (z : Int) (q : List Int) (ps : List (List Work)) (p : Nat) {pl : List Work} (hp : IsPlan x pl) :
  LF 183 (k_16 [1,1,1,1,1,1,0,1,0,0,1,0,0,1,1,1,1,1,1]) (lt1_S4 x bits n y r z q ps p pl (Ycc x (Yax x) (Yaw x) pl).isNone (Ycq x T w pl (x.chain.days + 1).toNat) 0) .normal (lt1_S4 x bits n y r z q ps p pl (Ycc x (Yax x) (Yaw x) pl).isNone (Ycq x T w pl (x.chain.days + 1).toNat) (x.chain.days + 1).toNat) := by
 have hdd := hV.chain.days
 have hdl := daysL_len x T w pl (x.chain.days + 1).toNat
 refine LG.each (id := 4) (c := k_16 [1,1,1,1,1,1,0,1,0,0,1,0,0,1,1,1,1,1,1,0,0]) (by kernel_rfl) (x.chain.days + 1).toNat (fun d => lt1_S4 x bits n y r z q ps p pl (Ycc x (Yax x) (Yaw x) pl).isNone (Ycq x T w pl (x.chain.days + 1).toNat) d) (fun d hd => ?_) ⟨_,_,_,_,_,_,_,lt1_4_end x bits n y r z q ps p pl _ _ _,⟨decide_eq_false (by omega),trivial⟩,.inl ⟨rfl,rfl⟩,rfl⟩
 have h6 := lt1_sec hV hs hf hc bits n y r z q ps p hp hd
 have hlt : decide ((d : Int) < ((Ycq x T w pl (x.chain.days + 1).toNat).length : Int)) = true := decide_eq_true (by omega)
 exact ⟨_,_,_,_,_,_,lt1_4_on x bits n y r z q ps p pl _ _ d _,(by repeat (first | exact trivial | refine ⟨by first | exact hlt | exact h6 | exact Yah (by omega) (by omega),?_⟩)),rfl⟩
end
theorem lt1_round0 {x : FBook} (hV : FValid x) (hs : FSmall x) {T : Nat → Int} {w : W4} (h0 : Feas0 x.chain T w) (bits : List Int) (n y : Int) (r : List Int) (z : Int) (q : List Int) (hth : y :: r = rowF x.chain T w 0) (hws : (z :: q).length = x.chain.secs.length) (hwg : ∀ p,p < x.chain.secs.length → (z :: q).getD p 0 = w.at p)
  (ps : List (List Work)) (hps : 0 < ps.length) (hp : IsPlan x (ps.getD 0 [])) :
  ∃ dec orc lorc ks qs L1,runK (MG 183) dec orc lorc (k_16 [1,1,1,1,1,1,0,1,0,0]) (Yem x bits n y r z q ps 0) ks = some (qs,.normal,L1) ∧ allP qs ∧ L1 = Yem x bits n y r z q ps 1 := by
 have hpl := plan_len hV hp
 have hb : Ygj x (ps.getD 0 []) = true := (Yc4 hV).2 hp
 have hS := fSafe_con hs (plan := ps.getD 0 []) (by omega)
 have hI := lisp_con hV hp
 have hT := truths_con hV h0 hws hwg hp
 rw [← hth] at hT
 have hlt : decide (((0 : Nat) : Int) < (ps.length : Int)) = true := decide_eq_true (by omega)
 have hb0 : (0 : Int) ≤ ((0 : Nat) : Int) ∧ ((0 : Nat) : Int) < (ps.length : Int) := ⟨by omega,by omega⟩
 have e0 : (((0 : Nat) : Int) == 1) = false := rfl
 have i1 : Yac (((0 : Nat) : Int) + 1) := Yah (by omega) (by omega)
 cases hr : Yb2 x T w (x.chain.days + 1).toNat with
 | false =>
  rw [hr] at hT
  cases hc : canF x.chain with
  | false =>
   rw [fSafe_not hV hb hc] at hS
   exact ⟨_,_,_,_,_,_,lt1_2_bad0 x bits n y r z q ps 0 _,(by repeat (first | exact trivial | refine ⟨by first | exact rfl | exact hlt | exact hb0 | exact hS | exact hI | exact hT | exact e0 | exact i1,?_⟩)),rfl⟩
  | true =>
   rw [fSafe_can hV hb hc] at hS
   exact ⟨_,_,_,_,_,_,lt1_2_no0 x bits n y r z q ps 0 _ _,(by repeat (first | exact trivial | refine ⟨by first | exact rfl | exact hlt | exact hb0 | exact hS | exact hI | exact hT | exact e0 | exact i1,?_⟩)),rfl⟩
 | true =>
  have hf := Yhd hV h0 hr
  have hc : canF x.chain = true := can_true ((can_iff hV.chain.base []).2 ⟨T,w,hf⟩)
  rw [hr] at hT
  rw [fSafe_can hV hb hc] at hS
  have h4 := lt1_day hV hs hf hc bits n y r z q ps 0 hp
  exact ⟨_,_,_,_,_,_,lt1_2_yes0 x bits n y r z q ps 0 _ _ _,(by repeat (first | exact trivial | refine ⟨by first | exact rfl | exact hlt | exact hb0 | exact hS | exact hI | exact hT | exact e0 | exact i1 | exact h4,?_⟩)),rfl⟩
section
variable {x : FBook} (hV : FValid x) (hs : FSmall x) {T : Nat → Int} {w : W4} (hf : Feas x.chain [] T w) (hc : canF x.chain = true)
include hV hs hf hc
theorem lt2_sec (bits : List Int) (n y : Int) (r : List Int) (z : Int) (q : List Int) (ps : List (List Work)) (p : Nat) {pl : List Work} (hp : IsPlan x pl) {d : Nat} (hd : d < (x.chain.days + 1).toNat) :
  LF 183 (k_16 [1,1,1,1,1,1,0,1,0,0,1,0,0,1,1,1,1,1,1,0,0,1,0,0,1]) (lt2_S6 x bits n y r z q ps p pl (Ycc x (Yax x) (Yaw x) pl).isNone (Ycq x T w pl (x.chain.days + 1).toNat) d 0) .normal (lt2_S6 x bits n y r z q ps p pl (Ycc x (Yax x) (Yaw x) pl).isNone (Ycq x T w pl (x.chain.days + 1).toNat) d x.feet.length) := by
 have hfe := hV.feet
 have hn := hV.inn.n
 have hpl := plan_len hV hp
 have hb : Ygj x pl = true := (Yc4 hV).2 hp
 refine LG.each (id := 6) (c := k_16 [1,1,1,1,1,1,0,1,0,0,1,0,0,1,1,1,1,1,1,0,0,1,0,0,1,0,0]) (by kernel_rfl) x.feet.length (fun s => lt2_S6 x bits n y r z q ps p pl (Ycc x (Yax x) (Yaw x) pl).isNone (Ycq x T w pl (x.chain.days + 1).toNat) d s) (fun s hs' => ?_) ⟨_,_,_,_,_,_,_,lt2_6_end x bits n y r z q ps p pl _ _ d _,⟨Yas,trivial⟩,.inl ⟨rfl,rfl⟩,rfl⟩
 have hL := fLeast_con hs (plan := pl) (by omega) (s : Int) (d : Int)
 rw [fLeast_can hV hb hc (s := (s : Int)) (d := (d : Int)) ⟨by omega,by omega⟩ ⟨by omega,by omega⟩] at hL
 have hle := least_true hV hf pl hs' (d := (d : Int)) ⟨by omega,by omega⟩
 have e1 : (Ycq x T w pl (x.chain.days + 1).toNat).getD d [] = Ybl x T w pl d := getD_rangeL hd
 have e2 : (Ybl x T w pl d).getD s 0 = thkV x T w pl s d := Yc2 (f := fun k => thkV x T w pl k d) (by omega)
 have hlen : (Ybl x T w pl d).length = x.chain.secs.length := by simp [Ybl]
 have hdl := daysL_len x T w pl (x.chain.days + 1).toNat
 have b1 : (0 : Int) ≤ (d : Int) ∧ (d : Int) < ((Ycq x T w pl (x.chain.days + 1).toNat).length : Int) := ⟨by omega,by omega⟩
 have b2 : (0 : Int) ≤ (s : Int) ∧ (s : Int) < (((Ycq x T w pl (x.chain.days + 1).toNat).getD d []).length : Int) := by rw [e1]; exact ⟨by omega,by omega⟩
 have d1 : decide (((Ycq x T w pl (x.chain.days + 1).toNat).getD d []).getD s 0 < leastV x pl s d) = false := by rw [e1,e2]; exact decide_eq_false (by omega)
 have i1 : Yac ((s : Int) + 1) := Yah (by omega) (by omega)
 cases his : (Ycc x (Yax x) (Yaw x) pl).isNone with
 | true =>
  have hr := Ygw.1 his (s : Int) (d : Int) ⟨by omega,by omega⟩ ⟨by omega,by omega⟩
  have hr' : x.chain.rule ≤ leastV x pl s d := hr
  have d2 : decide (((Ycq x T w pl (x.chain.days + 1).toNat).getD d []).getD s 0 < x.chain.rule) = false := by rw [e1,e2]; exact decide_eq_false (by omega)
  exact ⟨_,_,_,_,_,_,lt2_6_safe x bits n y r z q ps p pl true _ d s _,(by repeat (first | exact trivial | refine ⟨by first | exact rfl | exact Yak hs' | exact hL | exact b1 | exact b2 | exact d1 | exact d2 | exact i1 | decide,?_⟩)),rfl⟩
 | false =>
  exact ⟨_,_,_,_,_,_,lt2_6_un x bits n y r z q ps p pl false _ d s _,(by repeat (first | exact trivial | refine ⟨by first | exact rfl | exact Yak hs' | exact hL | exact b1 | exact b2 | exact d1 | exact i1 | decide,?_⟩)),rfl⟩
theorem lt2_day (bits : List Int) (n y : Int) (r : List Int) (z : Int) (q : List Int) (ps : List (List Work)) (p : Nat) {pl : List Work} (hp : IsPlan x pl) :
  LF 183 (k_16 [1,1,1,1,1,1,0,1,0,0,1,0,0,1,1,1,1,1,1]) (lt2_S4 x bits n y r z q ps p pl (Ycc x (Yax x) (Yaw x) pl).isNone (Ycq x T w pl (x.chain.days + 1).toNat) 0) .normal (lt2_S4 x bits n y r z q ps p pl (Ycc x (Yax x) (Yaw x) pl).isNone (Ycq x T w pl (x.chain.days + 1).toNat) (x.chain.days + 1).toNat) := by
 have hdd := hV.chain.days
 have hdl := daysL_len x T w pl (x.chain.days + 1).toNat
 refine LG.each (id := 4) (c := k_16 [1,1,1,1,1,1,0,1,0,0,1,0,0,1,1,1,1,1,1,0,0]) (by kernel_rfl) (x.chain.days + 1).toNat (fun d => lt2_S4 x bits n y r z q ps p pl (Ycc x (Yax x) (Yaw x) pl).isNone (Ycq x T w pl (x.chain.days + 1).toNat) d) (fun d hd => ?_) ⟨_,_,_,_,_,_,_,lt2_4_end x bits n y r z q ps p pl _ _ _,⟨decide_eq_false (by omega),trivial⟩,.inl ⟨rfl,rfl⟩,rfl⟩
 have h6 := lt2_sec hV hs hf hc bits n y r z q ps p hp hd
 have hlt : decide ((d : Int) < ((Ycq x T w pl (x.chain.days + 1).toNat).length : Int)) = true := decide_eq_true (by omega)
 exact ⟨_,_,_,_,_,_,lt2_4_on x bits n y r z q ps p pl _ _ d _,(by repeat (first | exact trivial | refine ⟨by first | exact hlt | exact h6 | exact Yah (by omega) (by omega),?_⟩)),rfl⟩
end
theorem lt2_round0 {x : FBook} (hV : FValid x) (hs : FSmall x) {T : Nat → Int} {w : W4} (h0 : Feas0 x.chain T w) (bits : List Int) (n y : Int) (r : List Int) (z : Int) (q : List Int) (hth : y :: r = rowF x.chain T w 0) (hws : (z :: q).length = x.chain.secs.length) (hwg : ∀ p,p < x.chain.secs.length → (z :: q).getD p 0 = w.at p)
  (ps : List (List Work)) (hps : 0 < ps.length) (hp : IsPlan x (ps.getD 0 [])) :
  ∃ dec orc lorc ks qs L1,runK (MG 183) dec orc lorc (k_16 [1,1,1,1,1,1,0,1,0,0]) (Yc9 x bits n y r z q ps 0) ks = some (qs,.normal,L1) ∧ allP qs ∧ L1 = Yc9 x bits n y r z q ps 1 := by
 have hpl := plan_len hV hp
 have hb : Ygj x (ps.getD 0 []) = true := (Yc4 hV).2 hp
 have hS := fSafe_con hs (plan := ps.getD 0 []) (by omega)
 have hI := lisp_con hV hp
 have hT := truths_con hV h0 hws hwg hp
 rw [← hth] at hT
 have hlt : decide (((0 : Nat) : Int) < (ps.length : Int)) = true := decide_eq_true (by omega)
 have hb0 : (0 : Int) ≤ ((0 : Nat) : Int) ∧ ((0 : Nat) : Int) < (ps.length : Int) := ⟨by omega,by omega⟩
 have e0 : (((0 : Nat) : Int) == 1) = false := rfl
 have i1 : Yac (((0 : Nat) : Int) + 1) := Yah (by omega) (by omega)
 cases hr : Yb2 x T w (x.chain.days + 1).toNat with
 | false =>
  rw [hr] at hT
  cases hc : canF x.chain with
  | false =>
   rw [fSafe_not hV hb hc] at hS
   exact ⟨_,_,_,_,_,_,lt2_2_bad0 x bits n y r z q ps 0 _,(by repeat (first | exact trivial | refine ⟨by first | exact rfl | exact hlt | exact hb0 | exact hS | exact hI | exact hT | exact e0 | exact i1,?_⟩)),rfl⟩
  | true =>
   rw [fSafe_can hV hb hc] at hS
   exact ⟨_,_,_,_,_,_,lt2_2_no0 x bits n y r z q ps 0 _ _,(by repeat (first | exact trivial | refine ⟨by first | exact rfl | exact hlt | exact hb0 | exact hS | exact hI | exact hT | exact e0 | exact i1,?_⟩)),rfl⟩
 | true =>
  have hf := Yhd hV h0 hr
  have hc : canF x.chain = true := can_true ((can_iff hV.chain.base []).2 ⟨T,w,hf⟩)
  rw [hr] at hT
  rw [fSafe_can hV hb hc] at hS
  have h4 := lt2_day hV hs hf hc bits n y r z q ps 0 hp
  exact ⟨_,_,_,_,_,_,lt2_2_yes0 x bits n y r z q ps 0 _ _ _,(by repeat (first | exact trivial | refine ⟨by first | exact rfl | exact hlt | exact hb0 | exact hS | exact hI | exact hT | exact e0 | exact i1 | exact h4,?_⟩)),rfl⟩
theorem lt2_round1 {x : FBook} (hV : FValid x) (hs : FSmall x) (hc : canF x.chain = true) {T : Nat → Int} {w : W4} (h0 : Feas0 x.chain T w) (bits : List Int) (n y : Int) (r : List Int) (z : Int) (q : List Int) (hth : y :: r = rowF x.chain T w 0) (hws : (z :: q).length = x.chain.secs.length) (hwg : ∀ p,p < x.chain.secs.length → (z :: q).getD p 0 = w.at p)
  (ps : List (List Work)) (hps : 1 < ps.length) (hp : IsPlan x (ps.getD 1 [])) (hsafe : (Ycc x (Yax x) (Yaw x) (ps.getD 1 [])).isNone = true) :
  ∃ dec orc lorc ks qs L1,runK (MG 183) dec orc lorc (k_16 [1,1,1,1,1,1,0,1,0,0]) (Yc9 x bits n y r z q ps 1) ks = some (qs,.normal,L1) ∧ allP qs ∧ L1 = Yc9 x bits n y r z q ps 2 := by
 have hpl := plan_len hV hp
 have hb : Ygj x (ps.getD 1 []) = true := (Yc4 hV).2 hp
 have hS := fSafe_con hs (plan := ps.getD 1 []) (by omega)
 rw [fSafe_can hV hb hc,hsafe] at hS
 have hI := lisp_con hV hp
 have hT := truths_con hV h0 hws hwg hp
 rw [← hth] at hT
 have hlt : decide (((1 : Nat) : Int) < (ps.length : Int)) = true := decide_eq_true (by omega)
 have hb0 : (0 : Int) ≤ ((1 : Nat) : Int) ∧ ((1 : Nat) : Int) < (ps.length : Int) := ⟨by omega,by omega⟩
 have e0 : (((1 : Nat) : Int) == 1) = true := rfl
 have i1 : Yac (((1 : Nat) : Int) + 1) := Yah (by omega) (by omega)
 cases hr : Yb2 x T w (x.chain.days + 1).toNat with
 | false =>
  rw [hr] at hT
  exact ⟨_,_,_,_,_,_,lt2_2_no1 x bits n y r z q ps 1 _,(by repeat (first | exact trivial | refine ⟨by first | exact rfl | exact hlt | exact hb0 | exact hS | exact hI | exact hT | exact e0 | exact i1,?_⟩)),rfl⟩
 | true =>
  have hf := Yhd hV h0 hr
  rw [hr] at hT
  have h4 := lt2_day hV hs hf hc bits n y r z q ps 1 hp
  rw [hsafe] at h4
  exact ⟨_,_,_,_,_,_,lt2_2_yes1 x bits n y r z q ps 1 _ _,(by repeat (first | exact trivial | refine ⟨by first | exact rfl | exact hlt | exact hb0 | exact hS | exact hI | exact hT | exact e0 | exact i1 | exact h4,?_⟩)),rfl⟩
theorem ltru_con {x : FBook} (hs : FSmall x) (bits : List Int) (hl : bits.length ≤ 9223372036854775807) (n : Int) : CF 16 [Yab x,.sl false .int bits,.int .i64 n] (.bool true) := by
 have hsound := fsound_con hs
 cases hv : Ydy x with
 | false =>
  rw [hv] at hsound
  exact Yaa (GG 183) ltru_fn (ltru_bad x bits n) (by repeat (first | exact trivial | refine ⟨by first | exact hsound | exact riv_con,?_⟩))
 | true =>
  rw [hv] at hsound
  have hV := Yd9.1 hv
  have hfe := hV.feet
  have hsec := hV.chain.secs
  have h0 := tr_feas0 hV.chain bits
  have hdr := drawn_con hV n
  have hpl := drawn_plan hV n
  have hP := fPlan_con hs
  unfold fPlanF at hP
  rw [err_of hV] at hP
  have g1 := tolI_len (trT x.chain bits) x.feet.length
  have g2 := tolI_len (trW x.chain bits) x.feet.length
  have er : tolI (trT x.chain bits) x.feet.length = rowF x.chain (trT x.chain bits) (trX x.chain bits) 0 := by
   rw [tolI_eq,hfe]
   unfold rowF
   refine List.map_congr_left fun k _ => ?_
   have e2 : wornX x.chain x.chain.turns (trX x.chain bits) k ((0 : Nat) : Int) = 0 := rfl
   rw [e2]
   omega
  have eg : ∀ p,p < x.chain.secs.length → (tolI (trW x.chain bits) x.feet.length).getD p 0 = (trX x.chain bits).at p := fun p hp => by
   rw [tolI_eq,Yc2 (by omega),trX_at hsec.2,if_pos hp]
  cases h1 : tolI (trT x.chain bits) x.feet.length with
  | nil => rw [h1] at g1; simp at g1; omega
  | cons y r =>
   cases h2 : tolI (trW x.chain bits) x.feet.length with
   | nil => rw [h2] at g2; simp at g2; omega
   | cons z q =>
    have l0 := lt_loop0 hV hl n h1 h2
    rw [h1] at er
    rw [h2] at eg g2
    have hws : (z :: q).length = x.chain.secs.length := by rw [g2,hfe]
    have one : ∀ e : Int,(e = 4 ∨ e = 72) → CF 77 [Yab x] (.tup [.sl false .work [],.int .i64 e]) → CF 16 [Yab x,.sl false .int bits,.int .i64 n] (.bool true) := fun e he hP => by
     have l2 : LF 183 (k_16 [1,1,1,1,1,1,0,1]) (Yem x bits n y r z q [Yds x n] 0) .normal (Yem x bits n y r z q [Yds x n] 1) := by
      refine LG.each (id := 2) (c := k_16 [1,1,1,1,1,1,0,1,0,0]) (by kernel_rfl) 1 (fun p => Yem x bits n y r z q [Yds x n] p) (fun p hp => ?_) ⟨_,_,_,_,_,_,_,lt1_2_end x bits n y r z q [Yds x n] 1,⟨rfl,trivial⟩,.inl ⟨rfl,rfl⟩,rfl⟩
      obtain rfl : p = 0 := by omega
      exact lt1_round0 hV hs h0 bits n y r z q er hws eg [Yds x n] (by simp) hpl
     rcases he with rfl | rfl
     ·exact Yaa (GG 183) lt1_fn (lt1_all4 x bits n (Yds x n) _ y r z q [Yds x n] 1) (by repeat (first | exact trivial | refine ⟨by first | exact hsound | exact l0 | exact hdr | exact hP | exact l2 | exact riv_con,?_⟩))
     ·exact Yaa (GG 183) lt1_fn (lt1_all72 x bits n (Yds x n) _ y r z q [Yds x n] 1) (by repeat (first | exact trivial | refine ⟨by first | exact hsound | exact l0 | exact hdr | exact hP | exact l2 | exact riv_con,?_⟩))
    cases hc : canF x.chain with
    | false =>
     rw [hc,if_neg (by decide)] at hP
     exact one 72 (.inr rfl) hP
    | true =>
     rw [hc,if_pos rfl,if_pos rfl] at hP
     have hbi := best_is hV.inn hV.opn.2 (Yax x) (Yaw x)
     generalize Yfq x (Yax x) (Yaw x) = o at hP hbi
     obtain ⟨be,fd⟩ := o
     cases fd with
     | false => exact one 4 (.inl rfl) hP
     | true =>
      obtain ⟨⟨f,hf⟩,h4,h5⟩ := hbi rfl
      dsimp only at hP hf h4 h5
      have hbp : IsPlan x be := by rw [hf]; exact grd_plan hV f
      have hsafe : (Ycc x (Yax x) (Yaw x) be).isNone = true := Ygw.2 h4
      have l2 : LF 183 (k_16 [1,1,1,1,1,1,0,1]) (Yc9 x bits n y r z q [Yds x n,be] 0) .normal (Yc9 x bits n y r z q [Yds x n,be] 2) := by
       refine LG.each (id := 2) (c := k_16 [1,1,1,1,1,1,0,1,0,0]) (by kernel_rfl) 2 (fun p => Yc9 x bits n y r z q [Yds x n,be] p) (fun p hp => ?_) ⟨_,_,_,_,_,_,_,lt2_2_end x bits n y r z q [Yds x n,be] 2,(by repeat (first | exact trivial | refine ⟨by first | exact rfl | decide,?_⟩)),.inl ⟨rfl,rfl⟩,rfl⟩
       have h01 : p = 0 ∨ p = 1 := by omega
       rcases h01 with rfl | rfl
       ·exact lt2_round0 hV hs h0 bits n y r z q er hws eg [Yds x n,be] (by simp) hpl
       ·exact lt2_round1 hV hs hc h0 bits n y r z q er hws eg [Yds x n,be] (by simp) hbp hsafe
      exact Yaa (GG 183) lt2_fn (lt2_all x bits n (Yds x n) be _ y r z q [Yds x n,be] 2) (by repeat (first | exact trivial | refine ⟨by first | exact hsound | exact l0 | exact hdr | exact hP | exact l2 | exact riv_con | decide,?_⟩))
end Go.Di

namespace Go.Di
open Proofs
open Go.RowKit Go.ChangeShapes Go.WideShapes Go.Deep Go.ChangeAt Go.Proofs
section
variable {H : Type} {enc : TypeId × Value → H} {w : World} {sp : Nat → Bool} {hd : Bool}
theorem slice_of_ok {t et : TypeId} {r : Reach} {b0 : Nat} {v : Value} (hu : Tryd.prog.underlying t = some (.slice et)) (h : Value.okWide Tryd.prog w r b0 t v) : v.cells.toList = [v] := by
 unfold Value.okWide at h
 rw [hu] at h
 simp only at h
 unfold Cell.okWide at h
 rw [hu] at h
 unfold Cell.ok at h
 rw [hu] at h
 cases v <;> simp only at h <;> first | exact h.elim | rfl
theorem arg23 {r : Reach} {b0 : Nat} {v : Value} {d : DataW H} {ps : List MemPlace} (hval : Value.okWide Tryd.prog w r b0 23 v) (h : DataW.Trod enc Tryd.prog w 0 sp hd 23 v d ps) : ∃ l : List Int,l.length ≤ 9223372036854775807 ∧ Rel (Old w) w (.sl false .int l) v := by
 have hu : Tryd.prog.underlying 23 = some (.slice 3) := by kernel_rfl
 have hc := slice_of_ok hu hval
 obtain ⟨fuel,h⟩ := h
 obtain ⟨v',l,h1,h2,h3⟩ := Yd4 (e := .int) hu (by kernel_rfl) reads3 h
 rw [hc] at h1
 simp only [List.cons.injEq,and_true] at h1
 subst h1
 have hm : maxLen ≤ 9223372036854775807 := by decide
 exact ⟨l,Nat.le_trans h3 hm,h2⟩
end
end Go.Di

