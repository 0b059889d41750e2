/- Part 20: an interpreter over plain data for this code, with the proof that it says what the model does, and the contracts of the functions. No condition. -/
import Derived.Test.YtfkmodcjddfeiaaDoorDi19
set_option linter.unusedVariables false
set_option linter.unusedSimpArgs false
namespace Go.Di
open Proofs
theorem look_upd {α : Type} : ∀ (l : List (K2 × α)) (k k' : K2) (v : α),lookK (updK l k v) k' = if k' = k then some v else lookK l k'
 | [],k,k',v => by simp only [updK,lookK]
 | (k0,u) :: l,k,k',v => by
  simp only [updK]
  by_cases h : k = k0
  ·subst h
   rw [if_pos rfl]
   simp only [lookK]
   by_cases h2 : k' = k
   ·rw [if_pos h2,if_pos h2]
   ·rw [if_neg h2,if_neg h2,if_neg h2]
  ·rw [if_neg h]
   simp only [lookK,look_upd l k k' v]
   by_cases h2 : k' = k0
   ·rw [if_pos h2,if_pos h2]
    by_cases h3 : k' = k
    ·exact absurd (h3.symm.trans h2) h
    ·rw [if_neg h3]
   ·rw [if_neg h2,if_neg h2]
theorem worksS_look (m : List (K2 × Bool)) (d : Int) : ∀ (n : Nat) (k : K2),(lookK (worksS m d n) k).getD false = ((decide (k.1 = d ∧ 0 ≤ k.2 ∧ k.2 < n)) || (lookK m k).getD false)
 | 0,k => by
  have : decide (k.1 = d ∧ 0 ≤ k.2 ∧ k.2 < ((0 : Nat) : Int)) = false := decide_eq_false (by omega)
  rw [this]
  rfl
 | n + 1,k => by
  simp only [worksS,look_upd]
  by_cases h : k = (d,(n : Int))
  ·subst h
   rw [if_pos rfl]
   have : decide ((d = d) ∧ 0 ≤ (n : Int) ∧ (n : Int) < ((n + 1 : Nat) : Int)) = true := decide_eq_true ⟨rfl,by omega,by omega⟩
   show true = (decide ((d = d) ∧ 0 ≤ (n : Int) ∧ (n : Int) < ((n + 1 : Nat) : Int)) || _)
   rw [this]
   rfl
  ·rw [if_neg h,worksS_look m d n k]
   refine congrArg (· || _) ?_
   rw [decide_eq_decide]
   have : ¬ (k.1 = d ∧ k.2 = n) := fun hh => h (Prod.ext hh.1 hh.2)
   omega
theorem worksO_look (x : FBook) : ∀ (i : Nat),i ≤ x.opn.length → ∀ k : K2,((lookK (worksO x i) k).getD false = true ↔ (∃ j,j < i ∧ x.opn.getD j 0 = k.1) ∧ 0 ≤ k.2 ∧ k.2 < x.feet.length)
 | 0,_,k => by
  constructor
  ·intro h
   simp only [worksO,lookK] at h
   split at h <;> cases h
  ·rintro ⟨⟨j,hj,_⟩,_⟩
   omega
 | i + 1,h,k => by
  simp only [worksO,worksS_look]
  rw [Bool.or_eq_true,worksO_look x i (by omega) k,decide_eq_true_eq]
  constructor
  ·rintro (⟨h1,h2,h3⟩ | ⟨⟨j,hj,h1⟩,h2,h3⟩)
   ·exact ⟨⟨i,by omega,h1.symm⟩,h2,h3⟩
   ·exact ⟨⟨j,by omega,h1⟩,h2,h3⟩
  ·rintro ⟨⟨j,hj,h1⟩,h2,h3⟩
   by_cases hji : j = i
   ·subst hji
    exact .inl ⟨h1.symm,h2,h3⟩
   ·exact .inr ⟨⟨j,by omega,h1⟩,h2,h3⟩
def WorkIn (x : FBook) (w : Work) : Prop := w.d ∈ x.opn ∧ 0 ≤ w.s ∧ w.s < x.feet.length
theorem mem_iff_getD {l : List Int} {v : Int} : v ∈ l ↔ ∃ j,j < l.length ∧ l.getD j 0 = v := by
 constructor
 ·intro h
  obtain ⟨j,hj,he⟩ := List.getElem_of_mem h
  exact ⟨j,hj,by rw [List.getD_eq_getElem?_getD,List.getElem?_eq_getElem hj]; exact he⟩
 ·rintro ⟨j,hj,rfl⟩
  exact mem_getD 0 hj
theorem isWork_iff {x : FBook} {w : Work} : isWorkF (worksF x) w = true ↔ WorkIn x w := by
 unfold isWorkF worksF WorkIn
 rw [worksO_look x _ (Nat.le_refl _),mem_iff_getD]
def wlt (a b : Work) : Prop := a.d < b.d ∨ a.d = b.d ∧ a.s < b.s
theorem wlt_trans {a b c : Work} (h1 : wlt a b) (h2 : wlt b c) : wlt a c := by unfold wlt at *; omega
theorem compare_wlt {a b : Work} : ¬ compareF a b ≥ 0 ↔ wlt a b := by
 unfold compareF wlt
 split <;> omega
def IsPlan (x : FBook) (plan : List Work) : Prop := (∀ w ∈ plan,WorkIn x w) ∧ plan.Pairwise wlt
theorem isPlanGo_iff {x : FBook} (ho : ∀ d ∈ x.opn,0 ≤ d) : ∀ (l : List Work) (la : Work),(la = ⟨-1,0⟩ ∨ 0 ≤ la.d) → (isPlanGo (worksF x) la l = true ↔ IsPlan x l ∧ (la = ⟨-1,0⟩ ∨ ∀ w ∈ l,wlt la w))
 | [],la,_ => by
  simp only [isPlanGo,true_iff]
  exact ⟨⟨fun w hw => (by cases hw),List.Pairwise.nil⟩,.inr fun w hw => (by cases hw)⟩
 | w :: r,la,hla => by
  have hb : badF (worksF x) la w = false ↔ WorkIn x w ∧ (la = ⟨-1,0⟩ ∨ wlt la w) := by
   unfold badF
   rw [Bool.or_eq_false_iff,Bool.and_eq_false_iff,Bool.not_eq_false',isWork_iff,Bool.not_eq_false',decide_eq_true_eq,decide_eq_false_iff_not,compare_wlt]
   refine and_congr_right fun _ => or_congr_left ?_
   constructor
   ·rintro ⟨h1,h2⟩
    cases la
    simp only at h1 h2
    rw [h1,h2]
   ·rintro rfl
    exact ⟨rfl,rfl⟩
  simp only [isPlanGo]
  constructor
  ·intro h
   cases hbad : badF (worksF x) la w with
   | true => rw [hbad] at h; simp at h
   | false =>
    rw [hbad] at h
    obtain ⟨h1,h2⟩ := hb.1 hbad
    have hwd := ho _ h1.1
    obtain ⟨⟨h3,h4⟩,h5⟩ := (isPlanGo_iff ho r w (.inr hwd)).1 (by simpa using h)
    have h6 : ∀ v ∈ r,wlt w v := by
     rcases h5 with h5 | h5
     ·rw [h5] at hwd; exact absurd hwd (by decide)
     ·exact h5
    refine ⟨⟨fun v hv => ?_,List.pairwise_cons.2 ⟨h6,h4⟩⟩,h2.imp id fun h v hv => ?_⟩
    ·rcases List.mem_cons.1 hv with rfl | hv
     ·exact h1
     ·exact h3 v hv
    ·rcases List.mem_cons.1 hv with rfl | hv
     ·exact h
     ·exact wlt_trans h (h6 v hv)
  ·rintro ⟨⟨h1,h2⟩,h3⟩
   have hw := h1 w (by simp)
   have hbad : badF (worksF x) la w = false := hb.2 ⟨hw,h3.imp id fun h => h w (by simp)⟩
   rw [hbad]
   obtain ⟨h4,h5⟩ := List.pairwise_cons.1 h2
   simpa using (isPlanGo_iff ho r w (.inr (ho _ hw.1))).2 ⟨⟨fun v hv => h1 v (by simp [hv]),h5⟩,.inr h4⟩
theorem isPlan_iff {x : FBook} (hV : FValid x) {plan : List Work} : isPlanF (worksF x) plan = true ↔ IsPlan x plan := by
 unfold isPlanF
 rw [isPlanGo_iff (fun d hd => (hV.opn.1 d hd).1) plan ⟨-1,0⟩ (.inl rfl)]
 exact ⟨fun h => h.1,fun h => ⟨h,.inl rfl⟩⟩
theorem climb_len : ∀ (l : List Int) (a c : Int),l.Pairwise (· < ·) → (∀ z ∈ l,a ≤ z ∧ z < c) → (l.length : Int) ≤ c - a ∨ l = []
 | [],_,_,_,_ => .inr rfl
 | z :: l,a,c,hp,hb => by
  obtain ⟨h1,h2⟩ := List.pairwise_cons.1 hp
  have hz := hb z (by simp)
  refine .inl ?_
  rcases climb_len l (z + 1) c h2 (fun v hv => ⟨by have := h1 v hv; omega,(hb v (by simp [hv])).2⟩) with h | h
  ·simp only [List.length_cons]
   omega
  ·rw [h]
   simp only [List.length_cons,List.length_nil]
   omega
theorem IsPlan.ok {x : FBook} (hx : FIn x) {plan : List Work} (h : IsPlan x plan) : PlanOk x plan := by
 have hw : ∀ w ∈ plan,WorkOk x w := fun w hw => ⟨(h.1 w hw).2,hx.opn _ (h.1 w hw).1⟩
 refine ⟨?_,hw⟩
 have hn := hx.n
 have hnd : plan.length ≤ 20 * 1 ∨ True := .inr trivial
 have hcode : (plan.map fun w => (x.opn.filter fun d => decide (d < w.d)).length * (4 : Int) + w.s).Pairwise (· < ·) := by
  rw [List.pairwise_map]
  refine h.2.imp_of_mem fun {a b} ha hb hab => ?_
  have h1 := (hw a ha).s
  have h2 := (hw b hb).s
  rcases hab with hlt | ⟨heq,hs⟩
  ·have hmono : (x.opn.filter fun d => decide (d < a.d)).length < (x.opn.filter fun d => decide (d < b.d)).length := by
    have hsub : ∀ (l : List Int),a.d ∈ l → (l.filter fun d => decide (d < a.d)).length < (l.filter fun d => decide (d < b.d)).length := by
     intro l
     induction l with
     | nil => intro hm; cases hm
     | cons e l ih =>
      intro hm
      have hle : ∀ l : List Int,(l.filter fun d => decide (d < a.d)).length ≤ (l.filter fun d => decide (d < b.d)).length := by
       intro l
       induction l with
       | nil => exact Nat.le_refl _
       | cons e l ih =>
        by_cases h1 : e < a.d
        ·rw [List.filter_cons_of_pos (by simpa using h1),List.filter_cons_of_pos (by simp; omega)]
         simp only [List.length_cons]; omega
        ·rw [List.filter_cons_of_neg (by simpa using h1)]
         by_cases h2 : e < b.d
         ·rw [List.filter_cons_of_pos (by simpa using h2)]
          simp only [List.length_cons]; omega
         ·rw [List.filter_cons_of_neg (by simpa using h2)]
          exact ih
      by_cases he : e = a.d
      ·subst he
       rw [List.filter_cons_of_neg (by simp),List.filter_cons_of_pos (by simp; omega)]
       have := hle l
       simp only [List.length_cons]
       omega
      ·have hm' : a.d ∈ l := by
        rcases List.mem_cons.1 hm with h | h
        ·exact absurd h.symm he
        ·exact h
       have := ih hm'
       by_cases h1 : e < a.d
       ·rw [List.filter_cons_of_pos (by simpa using h1),List.filter_cons_of_pos (by simp; omega)]
        simp only [List.length_cons]; omega
       ·rw [List.filter_cons_of_neg (by simpa using h1)]
        by_cases h2 : e < b.d
        ·rw [List.filter_cons_of_pos (by simpa using h2)]
         simp only [List.length_cons]; omega
        ·rw [List.filter_cons_of_neg (by simpa using h2)]
         exact this
    exact hsub x.opn (h.1 a ha).1
   omega
  ·rw [heq]
   omega
 have hb : ∀ z ∈ plan.map fun w => (x.opn.filter fun d => decide (d < w.d)).length * (4 : Int) + w.s,0 ≤ z ∧ z < 24 := by
  intro z hz
  obtain ⟨w,hwm,rfl⟩ := List.mem_map.1 hz
  have h1 := (hw w hwm).s
  have h2 := List.length_filter_le (fun d => decide (d < w.d)) x.opn
  have h3 := hx.opnl
  omega
 rcases climb_len _ 0 24 hcode hb with h1 | h1
 ·rw [List.length_map] at h1
  omega
 ·have := congrArg List.length h1
  rw [List.length_map] at this
  simp only [List.length_nil] at this
  omega
theorem isPlanW_con {x : FBook} (hV : FValid x) (th : List (List Int)) (wr : List Int) {plan : List Work} (hl : plan.length ≤ 9223372036854775807) : CF 141 [fbkD x (.work (worksF x)) th wr,.sl false .work plan] (.bool (isPlanF (worksF x) plan)) :=
 isPlan_con x (worksF x) th wr hl fun w hw => by
  have h := isWork_iff.1 hw
  have h1 := hV.opn.1 _ h.1
  have h2 := hV.chain.days
  have h3 := hV.inn.n
  have h4 := h.2
  omega
theorem ferr_cases {x : FBook} (is : Bool) : (fvalidF x = false ∧ ferrF x is = 70) ∨ (FValid x ∧ is = false ∧ ferrF x is = 71) ∨ (FValid x ∧ is = true ∧ canF x.chain = false ∧ ferrF x is = 72) ∨ (FValid x ∧ is = true ∧ canF x.chain = true ∧ ferrF x is = 0) := by
 unfold ferrF
 cases hv : fvalidF x with
 | false => exact .inl ⟨rfl,rfl⟩
 | true =>
  have hV := fvalid_iff.1 hv
  cases is with
  | false => exact .inr (.inl ⟨hV,rfl,rfl⟩)
  | true => cases hc : canF x.chain with
   | false => exact .inr (.inr (.inl ⟨hV,rfl,rfl,rfl⟩))
   | true => exact .inr (.inr (.inr ⟨hV,rfl,rfl,rfl⟩))
def faskD (x : FBook) (is : Bool) : D := if ferrF x is = 70 then zfbkD else if ferrF x is = 0 then fbkD x (.work (worksF x)) (knowTh x) (knowWr x) else fopD x (worksF x)
theorem fasked_con {x : FBook} (hs : FSmall x) (g : FuncId) (fs : List D) (cs : List (List D)) (is : Bool) (hg : FValid x → CF g (fs ++ [fopD x (worksF x)] ++ cs.map fun cs => .ref cs 0) (.bool is)) :
  CF 137 [fbookD x,.fn g fs cs] (.tup [faskD x is,.int .i64 (ferrF x is)]) := by
 have hch := fcheck_con hs
 unfold fcheckF at hch
 unfold faskD
 rcases ferr_cases (x := x) is with ⟨h1,h2⟩ | ⟨hV,h1,h2⟩ | ⟨hV,h1,h3,h2⟩ | ⟨hV,h1,h3,h2⟩
 ·rw [h1] at hch
  rw [h2]
  exact contract_of_path (GF 34) fasked_fn (fasked_bad x g fs cs 70) ⟨hch,rfl,trivial⟩
 all_goals
  rw [fvalid_iff.2 hV] at hch
  have ho := opened_con' (x := x) (by have := hV.inn.n; omega) (by have := hV.inn.opnl; omega)
  have hg' := hg hV
  have hr := (right_con' hs.chain).up
  rw [valid_iff.2 hV.chain,Bool.true_and] at hr
  rw [h2]
 ·rw [h1] at hg'
  exact contract_of_path (GF 34) fasked_fn (fasked_ask x g fs cs _) ⟨hch,ho,hg',trivial⟩
 ·rw [h1] at hg'
  rw [h3] at hr
  exact contract_of_path (GF 34) fasked_fn (fasked_no x g fs cs _ _) ⟨hch,ho,hg',hr,trivial⟩
 ·rw [h1] at hg'
  rw [h3] at hr
  exact contract_of_path (GF 34) fasked_fn (fasked_ok x g fs cs _ _ _ _) ⟨hch,ho,hg',hr,know_con hV h3 _,trivial⟩
def planB (x : FBook) (plan : List Work) : Bool := isPlanF (worksF x) plan
def leastB (x : FBook) (plan : List Work) (s d : Int) : Bool := planB x plan && withinF s 0 (x.feet.length - 1) && withinF d 0 x.chain.days
theorem fleast1_con {x : FBook} (hV : FValid x) {plan : List Work} (hl : plan.length ≤ 9223372036854775807) (s d : Int) :
  CF 140 ([] ++ [fopD x (worksF x)] ++ [[.sl false .work plan],[.int .i64 s],cellsOf (fbookD x),[.int .i64 d]].map fun cs => .ref cs 0) (.bool (leastB x plan s d)) := by
 refine Contract.ofOp ?_
 have c1 := isPlanW_con hV [] [] hl
 have c2 := fwithin_con s 0 (x.feet.length - 1)
 have c3 := fwithin_con d 0 x.chain.days
 have hn := hV.inn.n
 have hi : inI64 ((x.feet.length : Int) - 1) := i64_of (by omega) (by omega)
 unfold leastB planB
 cases h1 : isPlanF (worksF x) plan with
 | false =>
  rw [h1] at c1
  refine contract_of_path (GF 25) fleast1_fn (fleast1_a x _ [] [] x plan s d false false false) ?_
  repeat (first | exact trivial | refine ⟨by first | exact c1 | exact c2 | exact c3 | exact hi | rfl | omega,?_⟩)
 | true =>
  rw [h1] at c1
  cases h2 : withinF s 0 (x.feet.length - 1) with
  | false =>
   rw [h2] at c2
   refine contract_of_path (GF 25) fleast1_fn (fleast1_b x _ [] [] x plan s d true false false) ?_
   repeat (first | exact trivial | refine ⟨by first | exact c1 | exact c2 | exact c3 | exact hi | rfl | omega,?_⟩)
  | true =>
   rw [h2] at c2
   refine contract_of_path (GF 25) fleast1_fn (fleast1_c x _ [] [] x plan s d true true (withinF d 0 x.chain.days)) ?_
   repeat (first | exact trivial | refine ⟨by first | exact c1 | exact c2 | exact c3 | exact hi | rfl | omega,?_⟩)
theorem ffirst1_con {x : FBook} (hV : FValid x) {plan : List Work} (hl : plan.length ≤ 9223372036854775807) : CF 144 ([] ++ [fopD x (worksF x)] ++ [[.sl false .work plan]].map fun cs => .ref cs 0) (.bool (planB x plan)) :=
 Contract.ofOp (contract_of_path (GF 7) ffirst1_fn (ffirst1_all x _ [] [] plan _) ⟨isPlanW_con hV [] [] hl,trivial⟩)
theorem falways_con (x : FBook) : CF 138 ([] ++ [fopD x (worksF x)] ++ ([] : List (List D)).map fun cs => .ref cs 0) (.bool true) :=
 Contract.ofOp (contract_of_path (GF 3) falways_fn (falways_all x _ [] []) trivial)
end Go.Di

namespace Go.Di
open Proofs
def fLeastF (x : FBook) (plan : List Work) (s d : Int) : Int × Int := if ferrF x (leastB x plan s d) = 0 then (fleastF x (knowTh x) (knowWr x) plan s d,0) else (0,ferrF x (leastB x plan s d))
theorem least_of {x : FBook} {plan : List Work} {s d : Int} (h : leastB x plan s d = true) : planB x plan = true ∧ (0 ≤ s ∧ s < x.feet.length) ∧ 0 ≤ d ∧ d ≤ x.chain.days := by
 unfold leastB at h
 rw [Bool.and_eq_true,Bool.and_eq_true,within_iff,within_iff] at h
 exact ⟨h.1.1,by omega,h.2⟩
theorem ferr_bad {x : FBook} {is : Bool} (h : ferrF x is ≠ 0) : (faskD x is = zfbkD ∨ faskD x is = fopD x (worksF x)) ∧ (ferrF x is != 0) = true := by
 refine ⟨?_,by simpa using h⟩
 unfold faskD
 by_cases h1 : ferrF x is = 70
 ·rw [if_pos h1]; exact .inl rfl
 ·rw [if_neg h1,if_neg h]; exact .inr rfl
theorem ferr_ok {x : FBook} {is : Bool} (h : ferrF x is = 0) : FValid x ∧ is = true ∧ canF x.chain = true ∧ faskD x is = fbkD x (.work (worksF x)) (knowTh x) (knowWr x) := by
 rcases ferr_cases (x := x) is with ⟨_,h2⟩ | ⟨_,_,h2⟩ | ⟨_,_,_,h2⟩ | ⟨hV,h1,h3,h2⟩
 ·rw [h] at h2; exact absurd h2 (by decide)
 ·rw [h] at h2; exact absurd h2 (by decide)
 ·rw [h] at h2; exact absurd h2 (by decide)
 ·refine ⟨hV,h1,h3,?_⟩
  unfold faskD
  rw [h]
  rfl
theorem fLeast_con {x : FBook} (hs : FSmall x) {plan : List Work} (hl : plan.length ≤ 9223372036854775807) (s d : Int) :
  CF 81 [fbookD x,.sl false .work plan,.int .i64 s,.int .i64 d] (.tup [.int .i64 (fLeastF x plan s d).1,.int .i64 (fLeastF x plan s d).2]) := by
 have ha := fasked_con hs 140 [] [[.sl false .work plan],[.int .i64 s],cellsOf (fbookD x),[.int .i64 d]] (leastB x plan s d) (fun hV => fleast1_con hV hl s d)
 unfold fLeastF
 by_cases he : ferrF x (leastB x plan s d) = 0
 ·obtain ⟨hV,h1,h2,h3⟩ := ferr_ok he
  obtain ⟨h4,h5,h6⟩ := least_of h1
  rw [if_pos he]
  rw [h3,he] at ha
  exact contract_of_path (GF 26) fLeast_fn (fLeast_ok x plan s d _ _ _ _) ⟨ha,by omega,by omega,fleast_con hV.inn (know_ok hV h2) _ (((isPlan_iff hV).1 h4).ok hV.inn) s d h5 h6,trivial⟩
 ·obtain ⟨h1,h2⟩ := ferr_bad he
  rw [if_neg he]
  rcases h1 with h1 | h1
  ·rw [h1] at ha
   exact contract_of_path (GF 26) fLeast_fn (fLeast_errz x plan s d _) ⟨ha,h2,trivial⟩
  ·rw [h1] at ha
   exact contract_of_path (GF 26) fLeast_fn (fLeast_erro x plan s d _ _) ⟨ha,h2,trivial⟩
def fFirstF (x : FBook) (plan : List Work) : Int × Int × Int := if ferrF x (planB x plan) = 0 then (match fthinF x (knowTh x) (knowWr x) plan with
  | some (d,s) => ((d : Int),(s : Int),0)
  | none => (0,0,4)) else (0,0,ferrF x (planB x plan))
theorem fFirst_con {x : FBook} (hs : FSmall x) {plan : List Work} (hl : plan.length ≤ 9223372036854775807) :
  CF 83 [fbookD x,.sl false .work plan] (.tup [.int .i64 (fFirstF x plan).1,.int .i64 (fFirstF x plan).2.1,.int .i64 (fFirstF x plan).2.2]) := by
 have ha := fasked_con hs 144 [] [[.sl false .work plan]] (planB x plan) (fun hV => ffirst1_con hV hl)
 unfold fFirstF
 by_cases he : ferrF x (planB x plan) = 0
 ·obtain ⟨hV,h1,h2,h3⟩ := ferr_ok he
  rw [if_pos he]
  rw [h3,he] at ha
  have ht := thin_con hV.inn (know_ok hV h2) (.work (worksF x)) (((isPlan_iff hV).1 h1).ok hV.inn)
  cases hf : fthinF x (knowTh x) (knowWr x) plan with
  | none =>
   rw [hf] at ht
   exact contract_of_path (GF 29) fFirst_fn (fFirst_none x plan _ _ _ 0 0) ⟨ha,ht,trivial⟩
  | some p =>
   obtain ⟨d,s⟩ := p
   rw [hf] at ht
   exact contract_of_path (GF 29) fFirst_fn (fFirst_some x plan _ _ _ d s) ⟨ha,ht,trivial⟩
 ·obtain ⟨h1,h2⟩ := ferr_bad he
  rw [if_neg he]
  rcases h1 with h1 | h1
  ·rw [h1] at ha
   exact contract_of_path (GF 29) fFirst_fn (fFirst_errz x plan _) ⟨ha,h2,trivial⟩
  ·rw [h1] at ha
   exact contract_of_path (GF 29) fFirst_fn (fFirst_erro x plan _ _) ⟨ha,h2,trivial⟩
def fSafeF (x : FBook) (plan : List Work) : Bool × Int := if (fFirstF x plan).2.2 = 0 then (false,0) else if (fFirstF x plan).2.2 = 4 then (true,0) else (false,(fFirstF x plan).2.2)
theorem fSafe_con {x : FBook} (hs : FSmall x) {plan : List Work} (hl : plan.length ≤ 9223372036854775807) : CF 78 [fbookD x,.sl false .work plan] (.tup [.bool (fSafeF x plan).1,.int .i64 (fSafeF x plan).2]) := by
 have ha := fFirst_con hs hl
 unfold fSafeF
 generalize fFirstF x plan = r at ha
 obtain ⟨a,b,e⟩ := r
 simp only at ha ⊢
 by_cases h0 : e = 0
 ·subst h0
  exact contract_of_path (GF 23) fSafe_fn (fSafe_ok x plan a b 0) ⟨ha,rfl,trivial⟩
 ·rw [if_neg h0]
  have h0' : (e == 0) = false := beq_eq_false_iff_ne.2 h0
  by_cases h4 : e = 4
  ·subst h4
   exact contract_of_path (GF 23) fSafe_fn (fSafe_none x plan a b 4) ⟨ha,rfl,rfl,trivial⟩
  ·rw [if_neg h4]
   have h4' : (e == 4) = false := beq_eq_false_iff_ne.2 h4
   exact contract_of_path (GF 23) fSafe_fn (fSafe_err x plan a b e) ⟨ha,h0',h4',trivial⟩
def fplanE (x : FBook) (plan : List Work) : Int := if fvalidF x = false then 70 else if planB x plan = false then 71 else 0
def fFeetF (x : FBook) (plan : List Work) : Int × Int := if fplanE x plan = 0 then (feetF x plan,0) else (0,fplanE x plan)
theorem fFeet_con {x : FBook} (hs : FSmall x) {plan : List Work} (hl : plan.length ≤ 9223372036854775807) : CF 84 [fbookD x,.sl false .work plan] (.tup [.int .i64 (fFeetF x plan).1,.int .i64 (fFeetF x plan).2]) := by
 have hch := fcheck_con hs
 unfold fcheckF at hch
 unfold fFeetF fplanE
 cases hv : fvalidF x with
 | false =>
  rw [hv] at hch
  exact contract_of_path (GF 22) fFeet_fn (fFeet_bad x plan 70) ⟨hch,rfl,trivial⟩
 | true =>
  rw [hv] at hch
  have hV := fvalid_iff.1 hv
  have ho := opened_con' (x := x) (by have := hV.inn.n; omega) (by have := hV.inn.opnl; omega)
  have hp := Contract.ofOp (isPlanW_con hV [] [] hl)
  cases h1 : planB x plan with
  | false =>
   rw [show isPlanF (worksF x) plan = false from h1] at hp
   exact contract_of_path (GF 22) fFeet_fn (fFeet_ask x plan _) ⟨hch,ho,hp,trivial⟩
  | true =>
   rw [show isPlanF (worksF x) plan = true from h1] at hp
   have hf := Contract.ofOp (feet_con hV.inn (.work (worksF x)) [] [] (((isPlan_iff hV).1 h1).ok hV.inn))
   exact contract_of_path (GF 22) fFeet_fn (fFeet_ok x plan _ _) ⟨hch,ho,hp,hf,trivial⟩
def fShortF (x : FBook) (plan : List Work) : Int × Int := if fplanE x plan = 0 then (match shortF x plan with
  | some k => ((k : Int),0)
  | none => (0,4)) else (0,fplanE x plan)
theorem short_cases (x : FBook) (plan : List Work) : (shortF x plan = none ∧ ∀ k < plan.length,¬ needsF x (plan.take (k + 1)) > x.stock) ∨ ∃ k,shortF x plan = some k ∧ k < plan.length ∧ needsF x (plan.take (k + 1)) > x.stock ∧ ∀ j < k,¬ needsF x (plan.take (j + 1)) > x.stock := by
 unfold shortF
 cases h : (List.range plan.length).find? fun k => decide (needsF x (plan.take (k + 1)) > x.stock) with
 | none =>
  rw [List.find?_range_eq_none] at h
  exact .inl ⟨rfl,fun k hk => by simpa using h k hk⟩
 | some k =>
  rw [List.find?_range_eq_some] at h
  exact .inr ⟨k,rfl,List.mem_range.1 h.2.1,of_decide_eq_true h.1,fun j hj => by simpa using h.2.2 j hj⟩
theorem fShort_con {x : FBook} (hs : FSmall x) {plan : List Work} (hl : plan.length ≤ 9223372036854775807) : CF 85 [fbookD x,.sl false .work plan] (.tup [.int .i64 (fShortF x plan).1,.int .i64 (fShortF x plan).2]) := by
 have hf := fFeet_con hs hl
 unfold fFeetF at hf
 unfold fShortF
 by_cases he : fplanE x plan = 0
 ·rw [if_pos he] at hf ⊢
  have hv : FValid x ∧ planB x plan = true := by
   unfold fplanE at he
   split at he
   ·cases he
   ·rename_i h1
    split at he
    ·cases he
    ·rename_i h2
     exact ⟨fvalid_iff.1 (by simpa using h1),by simpa using h2⟩
  obtain ⟨hV,h1⟩ := hv
  have hp := ((isPlan_iff hV).1 h1).ok hV.inn
  have hpl := hp.1
  have ho := opened_con' (x := x) (by have := hV.inn.n; omega) (by have := hV.inn.opnl; omega)
  have hn : ∀ k,CF 148 [fopD x (worksF x),.sl false .work (plan.take (k + 1))] (.int .i64 (needsF x (plan.take (k + 1)))) := fun k => Contract.ofOp (needs_con hV.inn (.work (worksF x)) [] [] (hp.take (k + 1)))
  have hcode : Code.at [1,1,1,0,1] (body Tryd.f85) = .block 0 (.loop (Code.at [1,1,1,0,1,0,0] (body Tryd.f85))) := by kernel_rfl
  have hon : ∀ k,k < plan.length → ¬ needsF x (plan.take (k + 1)) > x.stock → ∃ dec orc lorc ks ps L1,runK (MF 37) dec orc lorc (Code.at [1,1,1,0,1,0,0] (body Tryd.f85)) (fShort_S0 x plan (worksF x) k) ks = some (ps,.normal,L1) ∧ allP ps ∧ L1 = fShort_S0 x plan (worksF x) (k + 1) := fun k hk h =>
   ⟨_,_,_,_,_,_,fShort_0_on x plan (worksF x) k (needsF x (plan.take (k + 1))),⟨lt_true hk,i64_of (by omega) (by omega),⟨by omega,by omega,by omega⟩,hn k,decide_eq_false h,i64_of (by omega) (by omega),trivial⟩,rfl⟩
  rcases short_cases x plan with ⟨h2,h3⟩ | ⟨k,h2,h3,h4,h5⟩
  ·rw [h2]
   refine contract_of_path (GF 37) fShort_fn (fShort_none x plan (worksF x) _ plan.length) ⟨hf,ho,?_,trivial⟩
   exact LF.each (id := 0) hcode plan.length (fun i => fShort_S0 x plan (worksF x) i) (fun i hi => hon i hi (h3 i hi)) ⟨_,_,_,_,_,_,_,fShort_0_end x plan _ _,⟨lt_false,trivial⟩,.inl ⟨rfl,rfl⟩,rfl⟩
  ·rw [h2]
   refine contract_of_path (GF 37) fShort_fn (fShort_hit x plan (worksF x) _ (needsF x (plan.take (k + 1))) k) ⟨hf,ho,?_,trivial⟩
   exact LF.each (id := 0) hcode k (fun i => fShort_S0 x plan (worksF x) i) (fun i hi => hon i (by omega) (h5 i hi)) ⟨_,_,_,_,_,_,_,fShort_0_hit x plan _ k _,⟨lt_true h3,i64_of (by omega) (by omega),⟨by omega,by omega,by omega⟩,hn k,decide_eq_true h4,trivial⟩,.inr ⟨rfl,rfl⟩,rfl⟩
 ·rw [if_neg he] at hf ⊢
  exact contract_of_path (GF 37) fShort_fn (fShort_bad x plan 0 _) ⟨hf,by simpa using he,trivial⟩
end Go.Di

