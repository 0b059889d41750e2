/- Part 29: an interpreter over plain data for this code, with the proof that it says what the model does, and the contracts of the functions. No condition. -/
import Derived.Test.YtfkmodcjddfeiaaDoorDi28
set_option linter.unusedVariables false
set_option linter.unusedSimpArgs false
namespace Go.Di
open Proofs
/-! ### Lists that climb are told by their members -/
theorem pw_ext {α : Type} {r : α → α → Prop} (ha : ∀ a b,r a b → ¬ r b a) : ∀ {l m : List α},l.Pairwise r → m.Pairwise r → (∀ x,x ∈ l ↔ x ∈ m) → l = m
 | [],[],_,_,_ => rfl
 | [],b :: m,_,_,h => absurd ((h b).2 (by simp)) (by simp)
 | a :: l,[],_,_,h => absurd ((h a).1 (by simp)) (by simp)
 | a :: l,b :: m,hl,hm,h => by
  obtain ⟨h1,h2⟩ := List.pairwise_cons.1 hl
  obtain ⟨h3,h4⟩ := List.pairwise_cons.1 hm
  have hirr : ∀ a,¬ r a a := fun a h => ha a a h h
  have hab : a = b := by
   rcases List.mem_cons.1 ((h a).1 (by simp)) with e | e
   ·exact e
   ·rcases List.mem_cons.1 ((h b).2 (by simp)) with e2 | e2
    ·exact e2.symm
    ·exact absurd (h1 b e2) (ha b a (h3 a e))
  subst hab
  congr 1
  refine pw_ext ha h2 h4 fun x => ⟨fun hx => ?_,fun hx => ?_⟩
  ·rcases List.mem_cons.1 ((h x).1 (by simp [hx])) with e | e
   ·subst e; exact absurd (h1 _ hx) (hirr _)
   ·exact e
  ·rcases List.mem_cons.1 ((h x).2 (by simp [hx])) with e | e
   ·subst e; exact absurd (h3 _ hx) (hirr _)
   ·exact e
theorem wlt_asymm (a b : Work) (h : wlt a b) : ¬ wlt b a := by unfold wlt at *; omega
theorem plan_grd {x : FBook} (ho : x.opn.Pairwise (· < ·)) {p : List Work} (hp : IsPlan x p) : p = grdF x fun k s => decide ((⟨x.opn.getD k 0,(s : Int)⟩ : Work) ∈ p) := by
 refine pw_ext wlt_asymm hp.2 (grdTo_pair ho _ _ (Nat.le_refl _)) fun w => ?_
 rw [grd_mem]
 constructor
 ·intro hw
  obtain ⟨h1,h2,h3⟩ := hp.1 w hw
  obtain ⟨k,hk,he⟩ := mem_iff_getD.1 h1
  have e : (⟨x.opn.getD k 0,(w.s.toNat : Int)⟩ : Work) = w := by
   obtain ⟨a,b⟩ := w
   rw [Work.mk.injEq]
   exact ⟨he,by show ((b.toNat : Nat) : Int) = b; have h2' : 0 ≤ b := h2; omega⟩
  exact ⟨k,w.s.toNat,hk,by omega,decide_eq_true (by rw [e]; exact hw),e.symm⟩
 ·rintro ⟨k,j,_,_,h3,rfl⟩
  exact of_decide_eq_true h3

/-! ### One open day more -/
theorem count_split {x : FBook} (hV : FValid x) {d : Int} (_ : 0 ≤ d ∧ d ≤ x.chain.days) (hno : d ∉ x.opn) : ∀ i,i < x.opn.length → (x.opn.getD i 0 < d ↔ i < x.opn.countP (· < d)) := by
 have key : ∀ (l : List Int),l.Pairwise (· < ·) → ∀ i,i < l.length → (l.getD i 0 < d ↔ i < l.countP (· < d)) := by
  intro l
  induction l with
  | nil => intro _ i hi; simp at hi
  | cons a l ih =>
   intro hp i hi
   obtain ⟨h1,h2⟩ := List.pairwise_cons.1 hp
   rw [List.countP_cons]
   by_cases ha : a < d
   ·rw [if_pos (by simpa using ha)]
    cases i with
    | zero => simp [ha]
    | succ i => rw [List.getD_cons_succ,ih h2 i (by simpa using hi)]; omega
   ·rw [if_neg (by simpa using ha)]
    have hz : l.countP (· < d) = 0 := by
     rw [List.countP_eq_zero]
     intro z hz
     have := h1 z hz
     simp
     omega
    rw [hz]
    cases i with
    | zero => simp; omega
    | succ i =>
     rw [List.getD_cons_succ]
     have := h1 _ (mem_getD 0 (show i < l.length by simpa using hi))
     omega
 exact key x.opn hV.opn.2
theorem rest_mem {x : FBook} (_ : FValid x) {d : Int} (_ : 0 ≤ d ∧ d ≤ x.chain.days) (_ : d ∉ x.opn) (e : Int) : e ∈ (x.rest d).opn ↔ e = d ∨ e ∈ x.opn := by
 show e ∈ insL x.opn (x.opn.countP (· < d)) d ↔ _
 unfold insL
 rw [List.mem_append,List.mem_cons]
 constructor
 ·rintro (h | h | h)
  ·exact .inr (List.mem_of_mem_take h)
  ·exact .inl h
  ·exact .inr (List.mem_of_mem_drop h)
 ·rintro (h | h)
  ·exact .inr (.inl h)
  ·rw [← List.take_append_drop (x.opn.countP (· < d)) x.opn,List.mem_append] at h
   rcases h with h | h
   ·exact .inl h
   ·exact .inr (.inr h)
theorem rest_climbs {x : FBook} (hV : FValid x) {d : Int} (hd : 0 ≤ d ∧ d ≤ x.chain.days) (hno : d ∉ x.opn) : (x.rest d).opn.Pairwise (· < ·) := by
 show (insL x.opn (x.opn.countP (· < d)) d).Pairwise (· < ·)
 have hs := hV.opn.2
 have hc : x.opn.countP (· < d) ≤ x.opn.length := List.countP_le_length
 have hsp := count_split hV hd hno
 unfold insL
 rw [List.pairwise_append,List.pairwise_cons]
 have htake : ∀ a ∈ x.opn.take (x.opn.countP (· < d)),a < d := by
  intro a ha
  obtain ⟨i,hi,he⟩ := List.getElem_of_mem ha
  rw [List.length_take] at hi
  rw [List.getElem_take] at he
  have := (hsp i (by omega)).2 (by omega)
  rw [List.getD_eq_getElem?_getD,List.getElem?_eq_getElem (by omega)] at this
  simp at this
  omega
 have hdrop : ∀ a ∈ x.opn.drop (x.opn.countP (· < d)),d < a := by
  intro a ha
  obtain ⟨i,hi,he⟩ := List.getElem_of_mem ha
  rw [List.length_drop] at hi
  rw [List.getElem_drop] at he
  have h1 := mt (hsp (x.opn.countP (· < d) + i) (by omega)).1 (by omega)
  rw [List.getD_eq_getElem?_getD,List.getElem?_eq_getElem (by omega)] at h1
  simp at h1
  have h2 : a ≠ d := fun e => hno (by rw [← e]; exact List.mem_of_mem_drop ha)
  omega
 refine ⟨hs.sublist (List.take_sublist _ _),⟨hdrop,hs.sublist (List.drop_sublist _ _)⟩,fun a ha b hb => ?_⟩
 have h1 := htake a ha
 rcases List.mem_cons.1 hb with rfl | hb
 ·exact h1
 ·have := hdrop b hb; omega
theorem rises_of {days : Int} : ∀ (l : List Int) (n : Int),-1 ≤ n → l.Pairwise (· < ·) → (∀ d ∈ l,n < d ∧ d ≤ days) → (l.foldl (turnF days) (true,n)).1 = true
 | [],n,_,_,_ => rfl
 | t :: l,n,hn,hp,h => by
  obtain ⟨h1,h2⟩ := List.pairwise_cons.1 hp
  have ht := h t (by simp)
  simp only [List.foldl_cons,turnF,Bool.true_and]
  rw [show withinF t (n + 1) days = true from within_iff.2 (by omega)]
  exact rises_of l t (by omega) h2 fun d hd => ⟨h1 d hd,(h d (by simp [hd])).2⟩
theorem rest_valid {x : FBook} (hV : FValid x) {d : Int} (hd : 0 ≤ d ∧ d ≤ x.chain.days) (hno : d ∉ x.opn) (h3 : x.opn.length ≤ 3) : FValid (x.rest d) := by
 have hc : x.opn.countP (· < d) ≤ x.opn.length := List.countP_le_length
 refine ⟨hV.chain,hV.feet,hV.new,?_,hV.stock,hV.make,hV.each,?_⟩
 ·show (insL x.opn _ d).length ≤ 4
  rw [insL_length d hc]
  omega
 ·refine rises_of _ (-1) (Int.le_refl _) (rest_climbs hV hd hno) fun e he => ?_
  rcases (rest_mem hV hd hno e).1 he with rfl | h
  ·exact ⟨by omega,hd.2⟩
  ·have := hV.opn.1 e h; exact ⟨by omega,this.2⟩
section
variable (x : FBook) (l : List Int)
theorem fresh_opn (wr : List Int) (s b : Int) : ∀ k,freshF (x.withOpn l) wr s b k = freshF x wr s b k
 | 0 => rfl
 | k + 1 => by simp only [freshF,fresh_opn wr s b k]; rfl
theorem least_opn (th : List (List Int)) (wr : List Int) (p : List Work) (s d : Int) : fleastF (x.withOpn l) th wr p s d = fleastF x th wr p s d := by
 unfold fleastF
 rw [fresh_opn]
theorem needs_opn (p : List Work) : needsF (x.withOpn l) p = needsF x p := by
 have h : ∀ k,needsTo (x.withOpn l) p k = needsTo x p k := by
  intro k
  induction k with
  | zero => rfl
  | succ k ih => simp only [needsTo,ih]; rfl
 exact h _
theorem safe_opn (th : List (List Int)) (wr : List Int) (p : List Work) : SafeP (x.withOpn l) th wr p ↔ SafeP x th wr p := by
 unfold SafeP
 constructor
 ·intro h s d hs hd; have := h s d hs hd; rwa [least_opn] at this
 ·intro h s d hs hd; rw [least_opn]; exact h s d hs hd
end
theorem costV_found {x : FBook} (hc : canF x.chain = true) (h : (bestF x (knowTh x) (knowWr x)).2 = true) : costV x = feetF x (bestF x (knowTh x) (knowWr x)).1 := by
 unfold costV
 rw [if_pos hc]
 generalize bestF x (knowTh x) (knowWr x) = o at h ⊢
 obtain ⟨p,g⟩ := o
 dsimp only at h
 subst h
 rfl
theorem cost_rest {x : FBook} (hV : FValid x) (hc : canF x.chain = true) {d : Int} (hd : 0 ≤ d ∧ d ≤ x.chain.days) (hno : d ∉ x.opn) (h3 : x.opn.length ≤ 3) : costV (x.rest d) ≤ costV x := by
 have hVr := rest_valid hV hd hno h3
 obtain ⟨a1,a2,a3⟩ := cost_in hV hc
 obtain ⟨b1,b2,b3⟩ := cost_in hVr hc
 by_cases h : costV x < 1000
 ·have hf := a3.1 h
  obtain ⟨_,h2,h4⟩ := best_is hV.inn hV.opn.2 _ _ hf
  have hp := best_plan hV hf
  have hpr : IsPlan (x.rest d) (bestF x (knowTh x) (knowWr x)).1 := ⟨fun w hw => ⟨(rest_mem hV hd hno _).2 (.inr (hp.1 w hw).1),(hp.1 w hw).2⟩,hp.2⟩
  have hg := plan_grd hVr.opn.2 hpr
  have hlaw := best_law hVr.inn hVr.opn.2 (knowTh x) (knowWr x) _ (by rw [← hg]; exact (safe_opn x _ _ _ _).2 h2) (by rw [← hg,fgood_iff]; exact Int.le_trans (Int.le_of_eq (needs_opn x _ _)) (fgood_iff.1 h4))
  rw [← hg] at hlaw
  have e1 := costV_found hc hf
  have e2 : costV (x.rest d) = feetF (x.rest d) (bestF (x.rest d) (knowTh x) (knowWr x)).1 := costV_found (x := x.rest d) hc hlaw.1
  have e3 : feetF (x.rest d) (bestF x (knowTh x) (knowWr x)).1 = feetF x (bestF x (knowTh x) (knowWr x)).1 := rfl
  rcases hlaw.2 with h5 | ⟨h5,_⟩ <;> omega
 ·omega
end Go.Di

namespace Go.Di
open Proofs
/-! ### The day that is told to rest -/
theorem costV_none {x : FBook} (hc : canF x.chain = true) (h : (bestF x (knowTh x) (knowWr x)).2 = false) : costV x = 1000 := by
 unfold costV
 rw [if_pos hc]
 generalize bestF x (knowTh x) (knowWr x) = o at h ⊢
 obtain ⟨p,g⟩ := o
 dsimp only at h
 subst h
 rfl
/-- How many feet at best so far. -/
def curF (o : Int × Int × Bool) : Int := if o.2.2 = true then o.2.1 else 1000
def RestInv (x : FBook) (i k c : Int) : Prop :=
 ((k = -1 ∧ c = costV x) ∨ (0 ≤ k ∧ k < i ∧ k ∉ x.opn ∧ c = costV (x.rest k) ∧ c < costV x)) ∧
  ∀ d : Int,0 ≤ d → d < i → d ∉ x.opn → c ≤ costV (x.rest d) ∧ (costV (x.rest d) = c → 0 ≤ k → k ≤ d)
theorem rest_inv {x : FBook} (hV : FValid x) (hc : canF x.chain = true) (h3 : x.opn.length ≤ 3) : ∀ i : Nat,(i : Int) ≤ x.chain.days + 1 →
  RestInv x i (restTo x (knowTh x) (knowWr x) i).1 (curF (restTo x (knowTh x) (knowWr x) i))
 | 0,_ => by
  refine ⟨.inl ⟨rfl,?_⟩,fun d h1 h2 => by omega⟩
  show (if (bestF x (knowTh x) (knowWr x)).2 = true then feetF x (bestF x (knowTh x) (knowWr x)).1 else 1000) = costV x
  cases h : (bestF x (knowTh x) (knowWr x)).2 with
  | true => rw [if_pos rfl]; exact (costV_found hc h).symm
  | false => rw [if_neg (by decide)]; exact (costV_none hc h).symm
 | i + 1,hi => by
  have ih := rest_inv hV hc h3 i (by omega)
  obtain ⟨a1,a2,a3⟩ := cost_in hV hc
  have hstep : restTo x (knowTh x) (knowWr x) (i + 1) = restStep x (knowTh x) (knowWr x) (restTo x (knowTh x) (knowWr x) i) i := rfl
  rw [hstep]
  generalize restTo x (knowTh x) (knowWr x) i = o at ih ⊢
  obtain ⟨k,v,f⟩ := o
  have ih' : RestInv x i k (curF (k,v,f)) := ih
  obtain ⟨ih1,ih2⟩ := ih'
  have keep : (∀ d : Int,d = i → d ∉ x.opn → curF (k,v,f) ≤ costV (x.rest d) ∧ (costV (x.rest d) = curF (k,v,f) → 0 ≤ k → k ≤ d)) → RestInv x ((i + 1 : Nat) : Int) k (curF (k,v,f)) := fun hq => by
   refine ⟨?_,fun d d1 d2 d3 => ?_⟩
   ·rcases ih1 with h | ⟨g1,g2,g3⟩
    ·exact .inl h
    ·exact .inr ⟨g1,by omega,g3⟩
   ·by_cases hdi : d = i
    ·exact hq d hdi d3
    ·exact ih2 d d1 (by omega) d3
  unfold restStep
  by_cases hm : (i : Int) ∈ x.opn
  ·rw [if_pos (by simpa using hm)]
   exact keep fun d hd hn => absurd (by rw [hd]; exact hm) hn
  ·rw [if_neg (by simpa using hm)]
   have hVr := rest_valid hV (d := (i : Int)) (by omega) hm h3
   obtain ⟨b1,b2,b3⟩ := cost_in hVr hc
   have hfd := costV_found (x := x.rest i) hc
   have hnn := costV_none (x := x.rest i) hc
   have e1 : knowTh (x.rest (i : Int)) = knowTh x := rfl
   have e2 : knowWr (x.rest (i : Int)) = knowWr x := rfl
   rw [e1,e2] at hfd hnn b3
   generalize hbest : bestF (x.rest (i : Int)) (knowTh x) (knowWr x) = bp at *
   obtain ⟨p,g⟩ := bp
   dsimp only at hfd hnn b3
   generalize hc0 : curF (k,v,f) = c at *
   cases g with
   | false =>
    have h1000 := hnn rfl
    show RestInv x _ k (curF (k,v,f))
    rw [hc0]
    refine keep fun d hd hn => ?_
    subst hd
    rcases ih1 with ⟨g1,g2⟩ | ⟨g1,g2,g3,g4,g5⟩
    ·exact ⟨by omega,fun _ h => by omega⟩
    ·exact ⟨by omega,fun h => by omega⟩
   | true =>
    have hB : costV (x.rest (i : Int)) = feetF x p := hfd rfl
    have hlt := b3.2 rfl
    have hcur : (f = false ∨ feetF x p < v) ↔ feetF x p < c := by
     rw [← hc0]
     unfold curF
     cases f with
     | true => simp
     | false => simp; omega
    show RestInv x _ (if f = false ∨ feetF x p < v then ((i : Int),feetF x p,true) else (k,v,f)).1 (curF (if f = false ∨ feetF x p < v then ((i : Int),feetF x p,true) else (k,v,f)))
    by_cases hb : f = false ∨ feetF x p < v
    ·have hb' := hcur.1 hb
     rw [if_pos hb]
     show RestInv x _ (i : Int) (feetF x p)
     refine ⟨.inr ⟨by omega,by omega,hm,hB.symm,?_⟩,fun d d1 d2 d3 => ?_⟩
     ·rcases ih1 with ⟨g1,g2⟩ | ⟨g1,g2,g3,g4,g5⟩ <;> omega
     ·by_cases hdi : d = i
      ·subst hdi
       exact ⟨by omega,fun _ _ => Int.le_refl _⟩
      ·have := (ih2 d d1 (by omega) d3).1
       exact ⟨by omega,fun h => by omega⟩
    ·have hb' := mt hcur.2 hb
     rw [if_neg hb]
     show RestInv x _ k (curF (k,v,f))
     rw [hc0]
     refine keep fun d hd hn => ?_
     subst hd
     refine ⟨by omega,fun _ h => ?_⟩
     rcases ih1 with ⟨g1,g2⟩ | ⟨g1,g2,g3,g4,g5⟩ <;> omega
theorem rest_law {x : FBook} (hV : FValid x) (hc : canF x.chain = true) (h3 : x.opn.length ≤ 3) :
  ∃ k best,(restTo x (knowTh x) (knowWr x) (x.chain.days + 1).toNat).1 = k ∧ ((k = -1 ∧ best = costV x) ∨ (0 ≤ k ∧ k ≤ x.chain.days ∧ k ∉ x.opn ∧ best = costV (x.rest k) ∧ best < costV x)) ∧
   ∀ d : Int,0 ≤ d → d ≤ x.chain.days → d ∉ x.opn → best ≤ costV (x.rest d) ∧ (costV (x.rest d) = best → 0 ≤ k → k ≤ d) := by
 have hd := hV.chain.days
 obtain ⟨h1,h2⟩ : RestInv x _ _ _ := rest_inv hV hc h3 (x.chain.days + 1).toNat (by omega)
 refine ⟨_,curF (restTo x (knowTh x) (knowWr x) (x.chain.days + 1).toNat),rfl,?_,fun d d1 d2 d3 => h2 d d1 (by omega) d3⟩
 rcases h1 with h | ⟨g1,g2,g3⟩
 ·exact .inl h
 ·exact .inr ⟨g1,by omega,g3⟩
/-! ### A list of days as the law builds it -/
def sel0 (p : Int → Bool) : Nat → List Int
 | 0 => []
 | i + 1 => if p (i : Int) = true then sel0 p i ++ [(i : Int)] else sel0 p i
theorem sel0_mem (p : Int → Bool) : ∀ (n : Nat) (z : Int),z ∈ sel0 p n ↔ 0 ≤ z ∧ z < n ∧ p z = true
 | 0,z => by simp only [sel0,List.not_mem_nil,false_iff]; omega
 | n + 1,z => by
  have ih := sel0_mem p n z
  simp only [sel0]
  by_cases h : p (n : Int) = true
  ·rw [if_pos h,List.mem_append,ih,List.mem_singleton]
   constructor
   ·rintro (⟨h1,h2,h3⟩ | rfl)
    ·exact ⟨h1,by omega,h3⟩
    ·exact ⟨by omega,by omega,h⟩
   ·rintro ⟨h1,h2,h3⟩
    by_cases e : z = n
    ·exact .inr e
    ·exact .inl ⟨h1,by omega,h3⟩
  ·rw [if_neg h,ih]
   constructor
   ·rintro ⟨h1,h2,h3⟩
    exact ⟨h1,by omega,h3⟩
   ·rintro ⟨h1,h2,h3⟩
    refine ⟨h1,?_,h3⟩
    by_cases e : z = n
    ·subst e; exact absurd h3 h
    ·omega
theorem sel0_pair (p : Int → Bool) : ∀ n : Nat,(sel0 p n).Pairwise (· < ·)
 | 0 => List.Pairwise.nil
 | n + 1 => by
  have ih := sel0_pair p n
  simp only [sel0]
  split
  ·rw [List.pairwise_append]
   refine ⟨ih,by simp,fun a ha b hb => ?_⟩
   simp only [List.mem_singleton] at hb
   have := (sel0_mem p n a).1 ha
   omega
  ·exact ih
theorem sel0_len (p : Int → Bool) : ∀ n : Nat,(sel0 p n).length ≤ n
 | 0 => by simp [sel0]
 | n + 1 => by
  have ih := sel0_len p n
  simp only [sel0]
  split
  ·simp only [List.length_append,List.length_singleton]; omega
  ·omega
def restP (x : FBook) (day : Int) (d : Int) : Bool := (d == day) || decide (d ∈ x.opn)
def restL (x : FBook) (day : Int) : List Int := sel0 (restP x day) (x.chain.days + 1).toNat
theorem int_asymm (a b : Int) (h : a < b) : ¬ b < a := by omega
theorem restL_eq {x : FBook} (hV : FValid x) {d : Int} (hd : 0 ≤ d ∧ d ≤ x.chain.days) (hno : d ∉ x.opn) : x.withOpn (restL x d) = x.rest d := by
 have hdd := hV.chain.days
 have e : restL x d = (x.rest d).opn := by
  refine pw_ext int_asymm (sel0_pair _ _) (rest_climbs hV hd hno) fun z => ?_
  unfold restL
  rw [sel0_mem,rest_mem hV hd hno]
  unfold restP
  rw [Bool.or_eq_true,beq_iff_eq,decide_eq_true_eq]
  constructor
  ·exact fun h => h.2.2
  ·intro h
   refine ⟨?_,?_,h⟩
   ·rcases h with h | h
    ·omega
    ·exact (hV.opn.1 z h).1
   ·rcases h with h | h
    ·omega
    ·have := (hV.opn.1 z h).2; omega
 rw [e]
 rfl
end Go.Di

namespace Go.Di
open Proofs
theorem rsA_fn : FnOk PRG (MF 33) 93 (body Tryd.f93) [.cell 4 84] := by refine ⟨Tryd.f93,?_,?_,?_,?_,?_⟩ <;> kernel_rfl
theorem lrest_fn : FnOk PRG (MF 145) 22 (body Tryd.f22) [.tmp 4] := by refine ⟨Tryd.f22,?_,?_,?_,?_,?_⟩ <;> kernel_rfl
def rsB_S0 (x : FBook) (day : Int) (i : Nat) (y : Int) (r : List Int) : List (Key × Val) :=
 [(.tmp 1,.d (D.int .i64 day)),
  (.tmp 2,.d (D.ptr 2 0)),
  (.tmp 4,.d (D.ptr 4 0)),
  (.tmp 5,.d (D.ptr 5 0)),
  (.tmp 6,.d (.int .i64 (i : Int))),
  (.box 2,.bx (some (Box.mk false (cellsOf (fbookD x))))),
  (.box 4,.bx (some (Box.mk false [D.nil,D.nil,D.nil,D.int .i64 0,D.int .i64 0,D.nil,D.int .i64 0,D.nil,D.int .i64 0,D.int .i64 0]))),
  (.box 5,.bx (some ⟨false,[.sl false .sec x.chain.secs,.sl false .int x.chain.turns,.sl false .sv x.chain.svs,.int .i64 x.chain.rule,.int .i64 x.chain.days,.sl false .int x.feet,.int .i64 x.new,.own 30 (y :: r).length,.int .i64 x.stock,.int .i64 x.make]⟩)),
  (.obj 30,.ob (some ⟨.int,y :: r⟩))]
def rsB_K0 : List Key := [.tmp 1,.tmp 2,.tmp 4,.tmp 5,.tmp 6,.box 2,.box 4,.box 5,.obj 30]
def rsA_S0 (x : FBook) (day : Int) (i : Nat) : List (Key × Val) :=
 [(.tmp 1,.d (D.int .i64 day)),
  (.tmp 2,.d (D.ptr 2 0)),
  (.tmp 4,.d (D.ptr 4 0)),
  (.tmp 5,.d (D.ptr 5 0)),
  (.tmp 6,.d (.int .i64 (i : Int))),
  (.box 2,.bx (some (Box.mk false (cellsOf (fbookD x))))),
  (.box 4,.bx (some (Box.mk false [D.nil,D.nil,D.nil,D.int .i64 0,D.int .i64 0,D.nil,D.int .i64 0,D.nil,D.int .i64 0,D.int .i64 0]))),
  (.box 5,.bx (some (Box.mk false [D.sl false E.sec (Book.secs (FBook.chain x)),D.sl false E.int (Book.turns (FBook.chain x)),D.sl false E.sv (Book.svs (FBook.chain x)),D.int .i64 (Book.rule (FBook.chain x)),D.int .i64 (Book.days (FBook.chain x)),D.sl false E.int (FBook.feet x),D.int .i64 (FBook.new x),D.sl true E.int [],D.int .i64 (FBook.stock x),D.int .i64 (FBook.make x)]))),
  (.obj 30,.ob none)]
def rsA_K0 : List Key := [.tmp 1,.tmp 2,.tmp 4,.tmp 5,.tmp 6,.box 2,.box 4,.box 5,.obj 30]
theorem rsB_0_eq (x : FBook) (day : Int) (i : Nat) (y : Int) (r : List Int) (z : Int) :
  runK (MF 33) [(13,true),(19,true)] [(23,.int .i64 z)] [] (Code.at [1,1,1,0,1,0,0] (body Tryd.f93)) (rsB_S0 x day i y r) rsB_K0 =
   some ([decide ((i : Int) ≤ Book.days (FBook.chain x)) = true,((i : Int) == day) = true,((i : Int) == day) = true,((i : Int) == day) = true,((i : Int) == day) = true,((i : Int) == day) = true,((i : Int) == day) = true,List.length (y :: r) = List.length ((y :: r)),List.length ((y :: r) ++ [(i : Int)]) * (8 + 1) ≤ 140737488355328,List.length ((y :: r) ++ [(i : Int)]) = List.length (((y :: r) ++ [(i : Int)])),inI64 ((i : Int) + (1 : Int))],Ex.normal,rsB_S0 x day (i + 1) y (r ++ [(i : Int)])) := by kernel_rfl
theorem rsB_0_at (x : FBook) (day : Int) (i : Nat) (y : Int) (r : List Int) (z : Int) :
  runK (MF 33) [(13,true),(19,false),(25,true)] [(23,.int .i64 z)] [] (Code.at [1,1,1,0,1,0,0] (body Tryd.f93)) (rsB_S0 x day i y r) rsB_K0 =
   some ([decide ((i : Int) ≤ Book.days (FBook.chain x)) = true,((i : Int) == day) = false,((i : Int) == day) = false,((i : Int) == day) = false,((i : Int) == day) = false,CF 46 [D.sl false E.int (FBook.opn x),D.int .i64 (i : Int)] (D.int .i64 z),((i : Int) == day) = false,((i : Int) == day) = false,decide (z ≥ (0 : Int)) = true,List.length (y :: r) = List.length ((y :: r)),List.length ((y :: r) ++ [(i : Int)]) * (8 + 1) ≤ 140737488355328,List.length ((y :: r) ++ [(i : Int)]) = List.length (((y :: r) ++ [(i : Int)])),inI64 ((i : Int) + (1 : Int))],Ex.normal,rsB_S0 x day (i + 1) y (r ++ [(i : Int)])) := by kernel_rfl
theorem rsB_0_no (x : FBook) (day : Int) (i : Nat) (y : Int) (r : List Int) (z : Int) :
  runK (MF 33) [(13,true),(19,false),(25,false)] [(23,.int .i64 z)] [] (Code.at [1,1,1,0,1,0,0] (body Tryd.f93)) (rsB_S0 x day i y r) rsB_K0 =
   some ([decide ((i : Int) ≤ Book.days (FBook.chain x)) = true,((i : Int) == day) = false,((i : Int) == day) = false,((i : Int) == day) = false,((i : Int) == day) = false,CF 46 [D.sl false E.int (FBook.opn x),D.int .i64 (i : Int)] (D.int .i64 z),((i : Int) == day) = false,((i : Int) == day) = false,decide (z ≥ (0 : Int)) = false,inI64 ((i : Int) + (1 : Int))],Ex.normal,rsB_S0 x day (i + 1) y r) := by kernel_rfl
theorem rsB_0_end (x : FBook) (day : Int) (i : Nat) (y : Int) (r : List Int) :
  runK (MF 33) [(13,false)] [] [] (Code.at [1,1,1,0,1,0,0] (body Tryd.f93)) (rsB_S0 x day i y r) rsB_K0 =
   some ([decide ((i : Int) ≤ Book.days (FBook.chain x)) = false],Ex.exit 0,rsB_S0 x day i y r) := by kernel_rfl
theorem rsA_0_eq (x : FBook) (day : Int) (i : Nat) (z : Int) :
  runK (MF 33) [(13,true),(19,true)] [(23,.int .i64 z)] [] (Code.at [1,1,1,0,1,0,0] (body Tryd.f93)) (rsA_S0 x day i) rsB_K0 =
   some ([decide ((i : Int) ≤ Book.days (FBook.chain x)) = true,((i : Int) == day) = true,((i : Int) == day) = true,((i : Int) == day) = true,((i : Int) == day) = true,((i : Int) == day) = true,((i : Int) == day) = true,1 * (8 + 1) ≤ 140737488355328,1 = 1,inI64 ((i : Int) + (1 : Int))],Ex.normal,rsB_S0 x day (i + 1) (i : Int) []) := by kernel_rfl
theorem rsA_0_at (x : FBook) (day : Int) (i : Nat) (z : Int) :
  runK (MF 33) [(13,true),(19,false),(25,true)] [(23,.int .i64 z)] [] (Code.at [1,1,1,0,1,0,0] (body Tryd.f93)) (rsA_S0 x day i) rsB_K0 =
   some ([decide ((i : Int) ≤ Book.days (FBook.chain x)) = true,((i : Int) == day) = false,((i : Int) == day) = false,((i : Int) == day) = false,((i : Int) == day) = false,CF 46 [D.sl false E.int (FBook.opn x),D.int .i64 (i : Int)] (D.int .i64 z),((i : Int) == day) = false,((i : Int) == day) = false,decide (z ≥ (0 : Int)) = true,1 * (8 + 1) ≤ 140737488355328,1 = 1,inI64 ((i : Int) + (1 : Int))],Ex.normal,rsB_S0 x day (i + 1) (i : Int) []) := by kernel_rfl
theorem rsA_0_no (x : FBook) (day : Int) (i : Nat) (z : Int) :
  runK (MF 33) [(13,true),(19,false),(25,false)] [(23,.int .i64 z)] [] (Code.at [1,1,1,0,1,0,0] (body Tryd.f93)) (rsA_S0 x day i) rsA_K0 =
   some ([decide ((i : Int) ≤ Book.days (FBook.chain x)) = true,((i : Int) == day) = false,((i : Int) == day) = false,((i : Int) == day) = false,((i : Int) == day) = false,CF 46 [D.sl false E.int (FBook.opn x),D.int .i64 (i : Int)] (D.int .i64 z),((i : Int) == day) = false,((i : Int) == day) = false,decide (z ≥ (0 : Int)) = false,inI64 ((i : Int) + (1 : Int))],Ex.normal,rsA_S0 x day (i + 1)) := by kernel_rfl
theorem rsA_0_end (x : FBook) (day : Int) (i : Nat) :
  runK (MF 33) [(13,false)] [] [] (Code.at [1,1,1,0,1,0,0] (body Tryd.f93)) (rsA_S0 x day i) rsA_K0 =
   some ([decide ((i : Int) ≤ Book.days (FBook.chain x)) = false],Ex.exit 0,rsA_S0 x day i) := by kernel_rfl
theorem rsA_none (x : FBook) (day : Int) (i : Nat) :
  callF (MF 33) [] [] [(0,(rsA_K0,(.normal,rsA_S0 x day i)))] (body Tryd.f93) [.cell 4 84] [fbookD x,.int .i64 day] =
   some ([LF 33 (Code.at [1,1,1,0,1] (body Tryd.f93)) [(.tmp 1,.d (D.int .i64 day)),(.tmp 2,.d (D.ptr 2 0)),(.tmp 4,.d (D.ptr 4 0)),(.tmp 5,.d (D.ptr 5 0)),(.tmp 6,.d (D.int .i64 0)),(.box 2,.bx (some (Box.mk false (cellsOf (fbookD x))))),(.box 4,.bx (some (Box.mk false [D.nil,D.nil,D.nil,D.int .i64 0,D.int .i64 0,D.nil,D.int .i64 0,D.nil,D.int .i64 0,D.int .i64 0]))),(.box 5,.bx (some (Box.mk false [D.sl false E.sec (Book.secs (FBook.chain x)),D.sl false E.int (Book.turns (FBook.chain x)),D.sl false E.sv (Book.svs (FBook.chain x)),D.int .i64 (Book.rule (FBook.chain x)),D.int .i64 (Book.days (FBook.chain x)),D.sl false E.int (FBook.feet x),D.int .i64 (FBook.new x),D.sl true E.int [],D.int .i64 (FBook.stock x),D.int .i64 (FBook.make x)]))),(.obj 30,.ob Option.none)] Ex.normal (rsA_S0 x day i)],D.agg [D.sl false E.sec (Book.secs (FBook.chain x)),D.sl false E.int (Book.turns (FBook.chain x)),D.sl false E.sv (Book.svs (FBook.chain x)),D.int .i64 (Book.rule (FBook.chain x)),D.int .i64 (Book.days (FBook.chain x)),D.sl false E.int (FBook.feet x),D.int .i64 (FBook.new x),D.sl true E.int [],D.int .i64 (FBook.stock x),D.int .i64 (FBook.make x)]) := by kernel_rfl
theorem rsA_some (x : FBook) (day : Int) (i : Nat) (y : Int) (r : List Int) :
  callF (MF 33) [] [] [(0,(rsB_K0,(.normal,rsB_S0 x day i y r)))] (body Tryd.f93) [.cell 4 84] [fbookD x,.int .i64 day] =
   some ([LF 33 (Code.at [1,1,1,0,1] (body Tryd.f93)) [(.tmp 1,.d (D.int .i64 day)),(.tmp 2,.d (D.ptr 2 0)),(.tmp 4,.d (D.ptr 4 0)),(.tmp 5,.d (D.ptr 5 0)),(.tmp 6,.d (D.int .i64 0)),(.box 2,.bx (some (Box.mk false (cellsOf (fbookD x))))),(.box 4,.bx (some (Box.mk false [D.nil,D.nil,D.nil,D.int .i64 0,D.int .i64 0,D.nil,D.int .i64 0,D.nil,D.int .i64 0,D.int .i64 0]))),(.box 5,.bx (some (Box.mk false [D.sl false E.sec (Book.secs (FBook.chain x)),D.sl false E.int (Book.turns (FBook.chain x)),D.sl false E.sv (Book.svs (FBook.chain x)),D.int .i64 (Book.rule (FBook.chain x)),D.int .i64 (Book.days (FBook.chain x)),D.sl false E.int (FBook.feet x),D.int .i64 (FBook.new x),D.sl true E.int [],D.int .i64 (FBook.stock x),D.int .i64 (FBook.make x)]))),(.obj 30,.ob Option.none)] Ex.normal (rsB_S0 x day i y r),List.length (y :: r) = List.length ((y :: r)),List.length (y :: r) = List.length ((y :: r))],D.agg [D.sl false E.sec (Book.secs (FBook.chain x)),D.sl false E.int (Book.turns (FBook.chain x)),D.sl false E.sv (Book.svs (FBook.chain x)),D.int .i64 (Book.rule (FBook.chain x)),D.int .i64 (Book.days (FBook.chain x)),D.sl false E.int (FBook.feet x),D.int .i64 (FBook.new x),D.sl false E.int ((y :: r)),D.int .i64 (FBook.stock x),D.int .i64 (FBook.make x)]) := by kernel_rfl
theorem lrest_bad (x : FBook) (n : Int) :
  callF (MF 145) [] [(12,.bool false),(20,.bool true)] [] (body Tryd.f22) [.tmp 4] [fbookD x,.int .i64 n] =
   some ([CF 72 [fbookD x] (D.bool false),CF 73 [] (D.bool true)],D.bool true) := by kernel_rfl
theorem lrest_full (x : FBook) (n : Int) :
  callF (MF 145) [(19,true)] [(12,.bool true),(20,.bool true)] [] (body Tryd.f22) [.tmp 4] [fbookD x,.int .i64 n] =
   some ([CF 72 [fbookD x] (D.bool true),((List.length (FBook.opn x) : Int) == (4 : Int)) = true,CF 73 [] (D.bool true)],D.bool true) := by kernel_rfl
theorem lrest_err (x : FBook) (n : Int) :
  callF (MF 145) [(19,false)] [(12,.bool true),(23,.tup [.int .i64 0,.int .i64 72]),(27,.int .i64 (-1)),(45,.bool true)] [] (body Tryd.f22) [.tmp 4] [fbookD x,.int .i64 n] =
   some ([CF 72 [fbookD x] (D.bool true),((List.length (FBook.opn x) : Int) == (4 : Int)) = false,CF 92 [fbookD x] (D.tup [D.int .i64 0,D.int .i64 72]),CF 90 [fbookD x] (D.int .i64 (-(1 : Int))),CF 73 [] (D.bool true)],D.bool true) := by kernel_rfl
theorem lrest_nhas (x : FBook) (n : Int) (was o z few : Int) (x1 : FBook) :
  callF (MF 145) [(19,false),(84,false),(98,true),(101,true)] [(12,.bool true),(23,.tup [.int .i64 0,.int .i64 4]),(27,.int .i64 was),(81,.int .i64 o),(96,.int .i64 z),(110,.bool true),(114,fbookD x1),(115,.int .i64 few),(143,.bool true)] [] (body Tryd.f22) [.tmp 4] [fbookD x,.int .i64 n] =
   some ([CF 72 [fbookD x] (D.bool true),((List.length (FBook.opn x) : Int) == (4 : Int)) = false,CF 92 [fbookD x] (D.tup [D.int .i64 0,D.int .i64 4]),CF 90 [fbookD x] (D.int .i64 was),inI64 (Book.days (FBook.chain x) + (1 : Int)),CF 39 [D.int .i64 n,D.int .i64 (Book.days (FBook.chain x) + (1 : Int))] (D.int .i64 o),decide (was < (0 : Int)) = false,decide (was < (0 : Int)) = false,decide (was < (0 : Int)) = false,decide (was < (0 : Int)) = false,decide (was < (0 : Int)) = false,CF 46 [D.sl false E.int (FBook.opn x),D.int .i64 o] (D.int .i64 z),decide (z ≥ (0 : Int)) = true,decide (was ≥ (0 : Int)) = true,decide (was ≥ (0 : Int)) = true,decide (was ≥ (0 : Int)) = true,decide (was ≥ (0 : Int)) = true,decide (was ≥ (0 : Int)) = true,CF 73 [] (D.bool true)],D.bool true) := by kernel_rfl
theorem lrest_neq (x : FBook) (n : Int) (was o z few : Int) (x1 : FBook) :
  callF (MF 145) [(19,false),(84,false),(98,false),(118,true),(123,true),(127,false),(131,true),(142,true)] [(12,.bool true),(23,.tup [.int .i64 0,.int .i64 4]),(27,.int .i64 was),(81,.int .i64 o),(96,.int .i64 z),(110,.bool true),(114,fbookD x1),(115,.int .i64 few),(143,.bool true)] [] (body Tryd.f22) [.tmp 4] [fbookD x,.int .i64 n] =
   some ([CF 72 [fbookD x] (D.bool true),((List.length (FBook.opn x) : Int) == (4 : Int)) = false,CF 92 [fbookD x] (D.tup [D.int .i64 0,D.int .i64 4]),CF 90 [fbookD x] (D.int .i64 was),inI64 (Book.days (FBook.chain x) + (1 : Int)),CF 39 [D.int .i64 n,D.int .i64 (Book.days (FBook.chain x) + (1 : Int))] (D.int .i64 o),decide (was < (0 : Int)) = false,decide (was < (0 : Int)) = false,decide (was < (0 : Int)) = false,decide (was < (0 : Int)) = false,decide (was < (0 : Int)) = false,CF 46 [D.sl false E.int (FBook.opn x),D.int .i64 o] (D.int .i64 z),decide (z ≥ (0 : Int)) = false,CF 93 [fbookD x,D.int .i64 o] (fbookD x1),CF 90 [fbookD x1] (D.int .i64 few),decide (few ≥ (0 : Int)) = true,decide (few ≥ (0 : Int)) = true,decide (few ≥ (0 : Int)) = true,decide (few ≥ (0 : Int)) = true,decide (few ≤ was) = true,decide (few ≤ was) = true,decide (few ≤ was) = true,decide (few ≤ was) = true,decide (few > was) = false,decide (few > was) = false,decide (few > was) = false,decide (few > was) = false,(few == was) = true,(few == was) = true,(few == was) = true,(few == was) = true,decide (few > was) = false,(few == was) = true,decide (few ≤ was) = true,decide (few > was) = false,decide (few ≤ was) = true,true = true,CF 73 [] (D.bool true),true = true],D.bool true) := by kernel_rfl
theorem lrest_yhas (x : FBook) (n : Int) (was o z few : Int) (x1 : FBook) (k best z2 : Int) (x2 : FBook) :
  callF (MF 145) [(19,false),(84,false),(67,false),(71,false),(75,false),(98,true),(101,true)] [(12,.bool true),(23,.tup [.int .i64 k,.int .i64 0]),(27,.int .i64 was),(81,.int .i64 o),(96,.int .i64 z),(110,.bool true),(114,fbookD x1),(115,.int .i64 few),(143,.bool true),(52,fbookD x2),(53,.int .i64 best),(58,.bool true),(64,.int .i64 z2)] [] (body Tryd.f22) [.tmp 4] [fbookD x,.int .i64 n] =
   some ([CF 72 [fbookD x] (D.bool true),((List.length (FBook.opn x) : Int) == (4 : Int)) = false,CF 92 [fbookD x] (D.tup [D.int .i64 k,D.int .i64 0]),CF 90 [fbookD x] (D.int .i64 was),CF 93 [fbookD x,D.int .i64 k] (fbookD x2),CF 90 [fbookD x2] (D.int .i64 best),CF 50 [D.int .i64 k,D.int .i64 0,D.int .i64 (Book.days (FBook.chain x))] (D.bool true),CF 46 [D.sl false E.int (FBook.opn x),D.int .i64 k] (D.int .i64 z2),decide (z2 ≥ (0 : Int)) = false,decide (z2 ≥ (0 : Int)) = false,decide (z2 ≥ (0 : Int)) = false,decide (best < (0 : Int)) = false,decide (best < (0 : Int)) = false,decide (best < (0 : Int)) = false,decide (best < (0 : Int)) = false,decide (best ≥ was) = false,inI64 (Book.days (FBook.chain x) + (1 : Int)),CF 39 [D.int .i64 n,D.int .i64 (Book.days (FBook.chain x) + (1 : Int))] (D.int .i64 o),decide (was < (0 : Int)) = false,decide (was < (0 : Int)) = false,decide (was < (0 : Int)) = false,decide (was < (0 : Int)) = false,decide (was < (0 : Int)) = false,CF 46 [D.sl false E.int (FBook.opn x),D.int .i64 o] (D.int .i64 z),decide (z ≥ (0 : Int)) = true,decide (was ≥ (0 : Int)) = true,decide (was ≥ (0 : Int)) = true,decide (was ≥ (0 : Int)) = true,decide (was ≥ (0 : Int)) = true,decide (was ≥ (0 : Int)) = true,CF 73 [] (D.bool true)],D.bool true) := by kernel_rfl
theorem lrest_ygt (x : FBook) (n : Int) (was o z few : Int) (x1 : FBook) (k best z2 : Int) (x2 : FBook) :
  callF (MF 145) [(19,false),(84,false),(67,false),(71,false),(75,false),(98,false),(118,true),(123,true),(127,true),(142,true)] [(12,.bool true),(23,.tup [.int .i64 k,.int .i64 0]),(27,.int .i64 was),(81,.int .i64 o),(96,.int .i64 z),(110,.bool true),(114,fbookD x1),(115,.int .i64 few),(143,.bool true),(52,fbookD x2),(53,.int .i64 best),(58,.bool true),(64,.int .i64 z2)] [] (body Tryd.f22) [.tmp 4] [fbookD x,.int .i64 n] =
   some ([CF 72 [fbookD x] (D.bool true),((List.length (FBook.opn x) : Int) == (4 : Int)) = false,CF 92 [fbookD x] (D.tup [D.int .i64 k,D.int .i64 0]),CF 90 [fbookD x] (D.int .i64 was),CF 93 [fbookD x,D.int .i64 k] (fbookD x2),CF 90 [fbookD x2] (D.int .i64 best),CF 50 [D.int .i64 k,D.int .i64 0,D.int .i64 (Book.days (FBook.chain x))] (D.bool true),CF 46 [D.sl false E.int (FBook.opn x),D.int .i64 k] (D.int .i64 z2),decide (z2 ≥ (0 : Int)) = false,decide (z2 ≥ (0 : Int)) = false,decide (z2 ≥ (0 : Int)) = false,decide (best < (0 : Int)) = false,decide (best < (0 : Int)) = false,decide (best < (0 : Int)) = false,decide (best < (0 : Int)) = false,decide (best ≥ was) = false,inI64 (Book.days (FBook.chain x) + (1 : Int)),CF 39 [D.int .i64 n,D.int .i64 (Book.days (FBook.chain x) + (1 : Int))] (D.int .i64 o),decide (was < (0 : Int)) = false,decide (was < (0 : Int)) = false,decide (was < (0 : Int)) = false,decide (was < (0 : Int)) = false,decide (was < (0 : Int)) = false,CF 46 [D.sl false E.int (FBook.opn x),D.int .i64 o] (D.int .i64 z),decide (z ≥ (0 : Int)) = false,CF 93 [fbookD x,D.int .i64 o] (fbookD x1),CF 90 [fbookD x1] (D.int .i64 few),decide (few ≥ (0 : Int)) = true,decide (few ≥ (0 : Int)) = true,decide (few ≥ (0 : Int)) = true,decide (few ≥ (0 : Int)) = true,decide (few ≤ was) = true,decide (few ≤ was) = true,decide (few ≤ was) = true,decide (few ≤ was) = true,decide (few > best) = true,decide (few > best) = true,decide (few > best) = true,decide (few > best) = true,decide (few > best) = true,decide (few ≤ was) = true,decide (few > best) = true,decide (few ≤ was) = true,true = true,CF 73 [] (D.bool true),true = true],D.bool true) := by kernel_rfl
theorem lrest_yeq (x : FBook) (n : Int) (was o z few : Int) (x1 : FBook) (k best z2 : Int) (x2 : FBook) :
  callF (MF 145) [(19,false),(84,false),(67,false),(71,false),(75,false),(98,false),(118,true),(123,true),(127,false),(131,true),(142,true)] [(12,.bool true),(23,.tup [.int .i64 k,.int .i64 0]),(27,.int .i64 was),(81,.int .i64 o),(96,.int .i64 z),(110,.bool true),(114,fbookD x1),(115,.int .i64 few),(143,.bool true),(52,fbookD x2),(53,.int .i64 best),(58,.bool true),(64,.int .i64 z2)] [] (body Tryd.f22) [.tmp 4] [fbookD x,.int .i64 n] =
   some ([CF 72 [fbookD x] (D.bool true),((List.length (FBook.opn x) : Int) == (4 : Int)) = false,CF 92 [fbookD x] (D.tup [D.int .i64 k,D.int .i64 0]),CF 90 [fbookD x] (D.int .i64 was),CF 93 [fbookD x,D.int .i64 k] (fbookD x2),CF 90 [fbookD x2] (D.int .i64 best),CF 50 [D.int .i64 k,D.int .i64 0,D.int .i64 (Book.days (FBook.chain x))] (D.bool true),CF 46 [D.sl false E.int (FBook.opn x),D.int .i64 k] (D.int .i64 z2),decide (z2 ≥ (0 : Int)) = false,decide (z2 ≥ (0 : Int)) = false,decide (z2 ≥ (0 : Int)) = false,decide (best < (0 : Int)) = false,decide (best < (0 : Int)) = false,decide (best < (0 : Int)) = false,decide (best < (0 : Int)) = false,decide (best ≥ was) = false,inI64 (Book.days (FBook.chain x) + (1 : Int)),CF 39 [D.int .i64 n,D.int .i64 (Book.days (FBook.chain x) + (1 : Int))] (D.int .i64 o),decide (was < (0 : Int)) = false,decide (was < (0 : Int)) = false,decide (was < (0 : Int)) = false,decide (was < (0 : Int)) = false,decide (was < (0 : Int)) = false,CF 46 [D.sl false E.int (FBook.opn x),D.int .i64 o] (D.int .i64 z),decide (z ≥ (0 : Int)) = false,CF 93 [fbookD x,D.int .i64 o] (fbookD x1),CF 90 [fbookD x1] (D.int .i64 few),decide (few ≥ (0 : Int)) = true,decide (few ≥ (0 : Int)) = true,decide (few ≥ (0 : Int)) = true,decide (few ≥ (0 : Int)) = true,decide (few ≤ was) = true,decide (few ≤ was) = true,decide (few ≤ was) = true,decide (few ≤ was) = true,decide (few > best) = false,decide (few > best) = false,decide (few > best) = false,decide (few > best) = false,(few == best) = true,(few == best) = true,(few == best) = true,(few == best) = true,decide (few > best) = false,(few == best) = true,decide (few ≤ was) = true,decide (few > best) = false,decide (few ≤ was) = true,decide (o ≥ k) = true,CF 73 [] (D.bool true),decide (o ≥ k) = true],D.bool true) := by kernel_rfl
end Go.Di

namespace Go.Di
open Proofs
def rsS (x : FBook) (day : Int) (i : Nat) : List Int → List (Key × Val)
 | [] => rsA_S0 x day i
 | y :: r => rsB_S0 x day i y r
theorem resting_con {x : FBook} (hV : FValid x) (day : Int) : CF 93 [fbookD x,.int .i64 day] (fbookD (x.withOpn (restL x day))) := by
 have hdd := hV.chain.days
 have hx := hV.inn
 have hloop : LF 33 (Code.at [1,1,1,0,1] (body Tryd.f93)) (rsS x day 0 (sel0 (restP x day) 0)) .normal (rsS x day (x.chain.days + 1).toNat (restL x day)) := by
  refine LF.each (id := 0) (c := Code.at [1,1,1,0,1,0,0] (body Tryd.f93)) (by kernel_rfl) (x.chain.days + 1).toNat (fun i => rsS x day i (sel0 (restP x day) i)) (fun i hi => ?_) ?_
  ·have hlt : decide ((i : Int) ≤ x.chain.days) = true := decide_eq_true (by omega)
   have hi64 : inI64 ((i : Int) + 1) := i64_of (by omega) (by omega)
   have hat := atU_con hx (i : Int)
   have hge := indexF_ge (i : Int) x.opn 0
   have hlen := sel0_len (restP x day) i
   have e : sel0 (restP x day) (i + 1) = if restP x day (i : Int) = true then sel0 (restP x day) i ++ [(i : Int)] else sel0 (restP x day) i := rfl
   simp only [e]
   by_cases h1 : (i : Int) = day
   ·have d1 : ((i : Int) == day) = true := by simpa using h1
    have hp : restP x day (i : Int) = true := by unfold restP; rw [d1]; rfl
    rw [if_pos hp]
    cases ho : sel0 (restP x day) i with
    | nil => exact ⟨_,_,_,_,_,_,rsA_0_eq x day i 0,(by repeat (first | exact trivial | refine ⟨by first | exact hlt | exact d1 | exact hi64 | rfl | omega | (simp; omega),?_⟩)),rfl⟩
    | cons y r =>
     rw [ho] at hlen
     have hz : (y :: r ++ [(i : Int)]).length * (8 + 1) ≤ 140737488355328 := by simp only [List.length_append,List.length_cons,List.length_nil] at hlen ⊢; omega
     exact ⟨_,_,_,_,_,_,rsB_0_eq x day i y r 0,(by repeat (first | exact trivial | refine ⟨by first | exact hlt | exact d1 | exact hi64 | exact hz | rfl | omega,?_⟩)),rfl⟩
   ·have d1 : ((i : Int) == day) = false := by simpa using h1
    by_cases h2 : (i : Int) ∈ x.opn
    ·have d2 : decide (indexF (i : Int) x.opn 0 ≥ 0) = true := decide_eq_true (hge.2 h2)
     have hp : restP x day (i : Int) = true := by unfold restP; rw [decide_eq_true h2]; simp
     rw [if_pos hp]
     cases ho : sel0 (restP x day) i with
     | nil => exact ⟨_,_,_,_,_,_,rsA_0_at x day i (indexF (i : Int) x.opn 0),(by repeat (first | exact trivial | refine ⟨by first | exact hlt | exact hat | exact d1 | exact d2 | exact hi64 | rfl | omega | (simp; omega),?_⟩)),rfl⟩
     | cons y r =>
      rw [ho] at hlen
      have hz : (y :: r ++ [(i : Int)]).length * (8 + 1) ≤ 140737488355328 := by simp only [List.length_append,List.length_cons,List.length_nil] at hlen ⊢; omega
      exact ⟨_,_,_,_,_,_,rsB_0_at x day i y r (indexF (i : Int) x.opn 0),(by repeat (first | exact trivial | refine ⟨by first | exact hlt | exact hat | exact d1 | exact d2 | exact hi64 | exact hz | rfl | omega,?_⟩)),rfl⟩
    ·have d2 : decide (indexF (i : Int) x.opn 0 ≥ 0) = false := decide_eq_false fun h => h2 (hge.1 h)
     have hp : ¬ restP x day (i : Int) = true := by unfold restP; rw [d1,decide_eq_false h2]; simp
     rw [if_neg hp]
     cases ho : sel0 (restP x day) i with
     | nil => exact ⟨_,_,_,_,_,_,rsA_0_no x day i (indexF (i : Int) x.opn 0),(by repeat (first | exact trivial | refine ⟨by first | exact hlt | exact hat | exact d1 | exact d2 | exact hi64 | rfl | omega,?_⟩)),rfl⟩
     | cons y r => exact ⟨_,_,_,_,_,_,rsB_0_no x day i y r (indexF (i : Int) x.opn 0),(by repeat (first | exact trivial | refine ⟨by first | exact hlt | exact hat | exact d1 | exact d2 | exact hi64 | rfl | omega,?_⟩)),rfl⟩
  ·have hend : decide ((((x.chain.days + 1).toNat : Nat) : Int) ≤ x.chain.days) = false := decide_eq_false (by omega)
   show ∃ dec orc lorc ks ps e1 L1,_
   cases ho : sel0 (restP x day) (x.chain.days + 1).toNat with
   | nil => exact ⟨_,_,_,_,_,_,_,rsA_0_end x day _,⟨hend,trivial⟩,.inl ⟨rfl,rfl⟩,by unfold restL; rw [ho]; rfl⟩
   | cons y r => exact ⟨_,_,_,_,_,_,_,rsB_0_end x day _ y r,⟨hend,trivial⟩,.inl ⟨rfl,rfl⟩,by unfold restL; rw [ho]; rfl⟩
 cases hw : restL x day with
 | nil =>
  rw [hw] at hloop
  refine (contract_of_path (GF 33) rsA_fn (rsA_none x day (x.chain.days + 1).toNat) ?_).toWeak
  repeat (first | exact trivial | refine ⟨by first | exact hloop | rfl | omega,?_⟩)
 | cons y r =>
  rw [hw] at hloop
  refine (contract_of_path (GF 33) rsA_fn (rsA_some x day (x.chain.days + 1).toNat y r) ?_).toWeak
  repeat (first | exact trivial | refine ⟨by first | exact hloop | rfl | omega,?_⟩)
theorem small_rest {x : FBook} (hs : FSmall x) (hV : FValid x) (d : Int) : FSmall (x.rest d) := ⟨hs.chain,hs.feet,by
 have hc : x.opn.countP (· < d) ≤ x.opn.length := List.countP_le_length
 have hl := hV.opnl
 show (insL x.opn _ d).length ≤ _
 rw [insL_length d hc]
 omega⟩
theorem lrest_con {x : FBook} (hs : FSmall x) (n : Int) : CF 22 [fbookD x,.int .i64 n] (.bool true) := by
 have hsound := fsound_con hs
 cases hv : fvalidF x with
 | false =>
  rw [hv] at hsound
  exact contract_of_path (GF 145) lrest_fn (lrest_bad x n) (by repeat (first | exact trivial | refine ⟨by first | exact hsound | exact riv_con,?_⟩))
 | true =>
  rw [hv] at hsound
  have hV := fvalid_iff.1 hv
  have hx := hV.inn
  have hdd := hV.chain.days
  have hol := hV.opnl
  by_cases hfull : (x.opn.length : Int) = 4
  ·have hf : ((x.opn.length : Int) == 4) = true := by simpa using hfull
   exact contract_of_path (GF 145) lrest_fn (lrest_full x n) (by repeat (first | exact trivial | refine ⟨by first | exact hsound | exact hf | exact riv_con,?_⟩))
  ·have hf : ((x.opn.length : Int) == 4) = false := by simpa using hfull
   have h3 : x.opn.length ≤ 3 := by omega
   have hR := fRest_con hs
   have hCo := cost_con hV hs
   unfold fRestF at hR
   rw [err_of hV] at hR
   cases hc : canF x.chain with
   | false =>
    rw [hc,if_neg (by decide)] at hR
    have e : costV x = -1 := by unfold costV; rw [hc]; rfl
    rw [e] at hCo
    exact contract_of_path (GF 145) lrest_fn (lrest_err x n) (by repeat (first | exact trivial | refine ⟨by first | exact hsound | exact hf | exact hR | exact hCo | exact riv_con,?_⟩))
   | true =>
    rw [hc,if_pos rfl,if_pos rfl] at hR
    obtain ⟨k,best,hk,hb,hall⟩ := rest_law hV hc h3
    rw [hk] at hR
    obtain ⟨a1,a2,a3⟩ := cost_in hV hc
    have hm := modU_con n (x.chain.days + 1) (by omega)
    have hmi := modF_in (n := n) (m := x.chain.days + 1) (by omega)
    generalize modF n (x.chain.days + 1) = o at hm hmi
    have i1 : inI64 (x.chain.days + 1) := i64_of (by omega) (by omega)
    have hat := atU_con hx o
    have hge := indexF_ge o x.opn 0
    have dw0 : decide (costV x < 0) = false := decide_eq_false (by omega)
    have dw1 : decide (costV x ≥ 0) = true := decide_eq_true (by omega)
    have hrc : ∀ d : Int,0 ≤ d ∧ d ≤ x.chain.days → d ∉ x.opn → CF 93 [fbookD x,.int .i64 d] (fbookD (x.rest d)) ∧ CF 90 [fbookD (x.rest d)] (.int .i64 (costV (x.rest d))) ∧ 0 ≤ costV (x.rest d) ∧ costV (x.rest d) ≤ costV x := fun d hd hn => by
     have h1 := resting_con hV d
     rw [restL_eq hV hd hn] at h1
     have hVr := rest_valid hV hd hn h3
     exact ⟨h1,cost_con hVr (small_rest hs hV d),(cost_in hVr hc).1,cost_rest hV hc hd hn h3⟩
    rcases hb with ⟨hk1,hbe⟩ | ⟨k0,k1,k2,hbe,hlt⟩
    ·rw [hk1,if_pos (by decide)] at hR
     by_cases hm2 : o ∈ x.opn
     ·have d1 : decide (indexF o x.opn 0 ≥ 0) = true := decide_eq_true (hge.2 hm2)
      exact contract_of_path (GF 145) lrest_fn (lrest_nhas x n _ o _ 0 x) (by repeat (first | exact trivial | refine ⟨by first | exact hsound | exact hf | exact hR | exact hCo | exact hm | exact i1 | exact hat | exact dw0 | exact dw1 | exact d1 | exact riv_con | rfl,?_⟩))
     ·have d1 : decide (indexF o x.opn 0 ≥ 0) = false := decide_eq_false fun h => hm2 (hge.1 h)
      obtain ⟨c1,c2,c3,c4⟩ := hrc o ⟨hmi.1,by omega⟩ hm2
      have hle := (hall o hmi.1 (by omega) hm2).1
      have d2 : decide (costV (x.rest o) ≥ 0) = true := decide_eq_true c3
      have d3 : decide (costV (x.rest o) ≤ costV x) = true := decide_eq_true c4
      have d4 : decide (costV (x.rest o) > costV x) = false := decide_eq_false (by omega)
      have d5 : (costV (x.rest o) == costV x) = true := by rw [beq_iff_eq]; omega
      exact contract_of_path (GF 145) lrest_fn (lrest_neq x n _ o _ _ (x.rest o)) (by repeat (first | exact trivial | refine ⟨by first | exact hsound | exact hf | exact hR | exact hCo | exact hm | exact i1 | exact hat | exact dw0 | exact dw1 | exact d1 | exact d2 | exact d3 | exact d4 | exact d5 | exact c1 | exact c2 | exact riv_con | rfl,?_⟩))
    ·rw [if_neg (by omega)] at hR
     obtain ⟨b1,b2,b3,b4⟩ := hrc k ⟨k0,k1⟩ k2
     have hin := inside_t (n := k) (lo := 0) (hi := x.chain.days) ⟨k0,k1⟩
     have hatk := atU_con hx k
     have hgek := indexF_ge k x.opn 0
     have q1 : decide (indexF k x.opn 0 ≥ 0) = false := decide_eq_false fun h => k2 (hgek.1 h)
     have q2 : decide (costV (x.rest k) < 0) = false := decide_eq_false (by omega)
     have q3 : decide (costV (x.rest k) ≥ costV x) = false := decide_eq_false (by omega)
     by_cases hm2 : o ∈ x.opn
     ·have d1 : decide (indexF o x.opn 0 ≥ 0) = true := decide_eq_true (hge.2 hm2)
      exact contract_of_path (GF 145) lrest_fn (lrest_yhas x n _ o _ 0 x k _ _ (x.rest k)) (by repeat (first | exact trivial | refine ⟨by first | exact hsound | exact hf | exact hR | exact hCo | exact hm | exact i1 | exact hat | exact hatk | exact hin | exact b1 | exact b2 | exact q1 | exact q2 | exact q3 | exact dw0 | exact dw1 | exact d1 | exact riv_con | rfl,?_⟩))
     ·have d1 : decide (indexF o x.opn 0 ≥ 0) = false := decide_eq_false fun h => hm2 (hge.1 h)
      obtain ⟨c1,c2,c3,c4⟩ := hrc o ⟨hmi.1,by omega⟩ hm2
      obtain ⟨hle,htie⟩ := hall o hmi.1 (by omega) hm2
      have d2 : decide (costV (x.rest o) ≥ 0) = true := decide_eq_true c3
      have d3 : decide (costV (x.rest o) ≤ costV x) = true := decide_eq_true c4
      by_cases hgt : costV (x.rest o) > costV (x.rest k)
      ·have d4 := decide_eq_true hgt
       exact contract_of_path (GF 145) lrest_fn (lrest_ygt x n _ o _ _ (x.rest o) k _ _ (x.rest k)) (by repeat (first | exact trivial | refine ⟨by first | exact hsound | exact hf | exact hR | exact hCo | exact hm | exact i1 | exact hat | exact hatk | exact hin | exact b1 | exact b2 | exact q1 | exact q2 | exact q3 | exact dw0 | exact dw1 | exact d1 | exact d2 | exact d3 | exact d4 | exact c1 | exact c2 | exact riv_con | rfl,?_⟩))
      ·have d4 : decide (costV (x.rest o) > costV (x.rest k)) = false := decide_eq_false hgt
       have heq : costV (x.rest o) = best := by omega
       have d5 : (costV (x.rest o) == costV (x.rest k)) = true := by rw [beq_iff_eq]; omega
       have d6 : decide (o ≥ k) = true := decide_eq_true (htie heq k0)
       exact contract_of_path (GF 145) lrest_fn (lrest_yeq x n _ o _ _ (x.rest o) k _ _ (x.rest k)) (by repeat (first | exact trivial | refine ⟨by first | exact hsound | exact hf | exact hR | exact hCo | exact hm | exact i1 | exact hat | exact hatk | exact hin | exact b1 | exact b2 | exact q1 | exact q2 | exact q3 | exact dw0 | exact dw1 | exact d1 | exact d2 | exact d3 | exact d4 | exact d5 | exact d6 | exact c1 | exact c2 | exact riv_con | rfl,?_⟩))
end Go.Di

