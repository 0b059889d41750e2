/- Part 18: an interpreter over plain data for this code, with the proof that it says what the model does, and the contracts of the functions. No condition. -/
import Derived.Test.YtfkmodcjddfeiaaDoorDi17
set_option linter.unusedVariables false
set_option linter.unusedSimpArgs false
namespace Go.Di
open Proofs

/-! ### sum,feet,needs,good -/
theorem sumTo_in {xs : List Int} (h : ∀ n ∈ xs,0 ≤ n ∧ n ≤ 1000) (z : Int) (hz : 0 ≤ z) : 0 ≤ xs.foldl (· + ·) z ∧ z ≤ xs.foldl (· + ·) z ∧ xs.foldl (· + ·) z ≤ z + 1000 * xs.length := by
 induction xs generalizing z with
 | nil => simp; omega
 | cons y l ih =>
  have hy := h y (by simp)
  have := ih (fun n hn => h n (by simp [hn])) (z + y) (by omega)
  simp only [List.foldl_cons,List.length_cons]
  omega
theorem fsum_con {xs : List Int} (h : ∀ n ∈ xs,0 ≤ n ∧ n ≤ 1000) (hl : xs.length ≤ 100000) : CF 178 [.sl false .int xs] (.int .i64 (sumF xs)) := by
 refine contract_of_path (GF 17) fsum_fn (fsum_all xs (sumF xs) xs.length) ⟨?_,trivial⟩
 refine LF.each (id := 0) (c := Code.at [1,1,0,1,0,0] (body Tryd.f178)) (by kernel_rfl) xs.length (fun i => fsum_S0 xs (sumF (xs.take i)) i) (fun i hi => ?_) ⟨_,_,_,_,_,_,_,fsum_0_end xs _ _,⟨lt_false,trivial⟩,.inl ⟨rfl,rfl⟩,by rw [List.take_length]⟩
 have hf := take_foldl (fun (a b : Int) => a + b) xs 0 i 0 hi
 have h1 := sumTo_in (xs := xs.take i) (fun n hn => h n (List.mem_of_mem_take hn)) 0 (by omega)
 have h2 := h _ (mem_getD 0 hi)
 rw [List.length_take] at h1
 have h3 : (((min i xs.length : Nat)) : Int) ≤ 100000 := by omega
 exact ⟨_,_,_,_,_,_,fsum_0_on xs _ i,⟨lt_true hi,⟨by omega,by omega⟩,by omega,by unfold sumF; exact i64_of (by omega) (by omega),i64_of (by omega) (by omega),trivial⟩,by unfold sumF; rw [hf]⟩
theorem feetL_in {x : FBook} (hx : FIn x) {plan : List Work} (hp : ∀ w ∈ plan,WorkOk x w) : ∀ n ∈ feetLF x plan,1 ≤ n ∧ n ≤ 1000 := by
 intro n hn
 obtain ⟨w,hw,rfl⟩ := List.mem_map.1 hn
 have := (hp w hw).s
 exact hx.feet _ (mem_getD 0 (by omega))
theorem feet_in {x : FBook} (hx : FIn x) {plan : List Work} (hp : PlanOk x plan) : 0 ≤ feetF x plan ∧ feetF x plan ≤ 1000000 := by
 have := sumTo_in (xs := feetLF x plan) (fun n hn => by have := feetL_in hx hp.2 n hn; omega) 0 (by omega)
 have hl := hp.1
 unfold feetLF at this
 rw [List.length_map] at this
 unfold feetF sumF feetLF
 omega
def feetS (x : FBook) (m : Mp) (th : List (List Int)) (wr : List Int) (plan : List Work) (i : Nat) : List Int → List (Key × Val)
 | [] => feetA_S0 x m th wr plan i
 | y :: r => feetB_S0 x m th wr plan y r i
theorem feet_con {x : FBook} (hx : FIn x) (m : Mp) (th : List (List Int)) (wr : List Int) {plan : List Work} (hp : PlanOk x plan) : CF 147 [fbkD x m th wr,.sl false .work plan] (.int .i64 (feetF x plan)) := by
 have hpl := hp.1
 have hloop : LF 27 (Code.at [1,1,0,1] (body Tryd.f147)) (feetA_S0 x m th wr plan 0) .normal (feetS x m th wr plan plan.length (feetLF x plan)) := by
  refine LF.each (id := 0) (c := Code.at [1,1,0,1,0,0] (body Tryd.f147)) (by kernel_rfl) plan.length (fun i => feetS x m th wr plan i (feetLF x (plan.take i))) (fun i hi => ?_) ?_
  ·have hs := (hp.2 _ (mem_getD work0 hi)).s
   have hlen : (feetLF x (plan.take i)).length ≤ 1000 := by unfold feetLF; rw [List.length_map,List.length_take]; omega
   have hn : feetLF x (plan.take (i + 1)) = feetLF x (plan.take i) ++ [x.feet.getD (plan.getD i work0).s.toNat 0] := by
    unfold feetLF
    rw [List.take_add_one,List.map_append,List.getElem?_eq_getElem hi,List.getD_eq_getElem?_getD (l := plan),List.getElem?_eq_getElem hi]
    rfl
   simp only [hn]
   cases hl : feetLF x (plan.take i) with
   | nil => exact ⟨_,_,_,_,_,_,feetA_0_on x m th wr plan i,⟨lt_true hi,⟨by omega,by omega⟩,by omega,by omega,hs,by omega,by omega,i64_of (by omega) (by omega),trivial⟩,rfl⟩
   | cons y r =>
    rw [hl] at hlen
    exact ⟨_,_,_,_,_,_,feetB_0_on x m th wr plan y r i,⟨lt_true hi,⟨by omega,by omega⟩,by omega,by omega,hs,by omega,rfl,by rw [List.length_append]; simp only [List.length_cons,List.length_nil] at hlen ⊢; omega,i64_of (by omega) (by omega),trivial⟩,rfl⟩
  ·rw [List.take_length]
   cases hl : feetLF x plan with
   | nil => exact ⟨_,_,_,_,_,_,_,feetA_0_end x m th wr plan _,⟨lt_false,trivial⟩,.inl ⟨rfl,rfl⟩,rfl⟩
   | cons y r => exact ⟨_,_,_,_,_,_,_,feetB_0_end x m th wr plan y r _,⟨lt_false,trivial⟩,.inl ⟨rfl,rfl⟩,rfl⟩
 have hsum : CF 178 [.sl false .int (feetLF x plan)] (.int .i64 (feetF x plan)) := fsum_con (fun n hn => by have := feetL_in hx hp.2 n hn; omega) (by unfold feetLF; rw [List.length_map]; omega)
 cases hl : feetLF x plan with
 | nil =>
  rw [hl] at hloop hsum
  exact contract_of_path (GF 27) feetA_fn (feetA_none x m th wr plan _ plan.length) ⟨hloop,hsum,trivial⟩
 | cons y r =>
  rw [hl] at hloop hsum
  exact contract_of_path (GF 27) feetA_fn (feetA_some x m th wr plan _ plan.length y r) ⟨hloop,rfl,hsum,trivial⟩
theorem PlanOk.take {x : FBook} {plan : List Work} (h : PlanOk x plan) (k : Nat) : PlanOk x (plan.take k) :=
 ⟨by have := h.1; rw [List.length_take]; omega,fun w hw => h.2 w (List.mem_of_mem_take hw)⟩
theorem make_in {x : FBook} (hx : FIn x) {d : Int} (hd : 0 ≤ d ∧ d ≤ 900) : 0 ≤ x.make * d ∧ x.make * d ≤ 900000 := by
 have hm := hx.make
 refine ⟨Int.mul_nonneg hm.1 hd.1,?_⟩
 calc x.make * d ≤ 1000 * d := Int.mul_le_mul_of_nonneg_right hm.2 hd.1
  _ ≤ 900000 := by omega
theorem needs_con {x : FBook} (hx : FIn x) (m : Mp) (th : List (List Int)) (wr : List Int) {plan : List Work} (hp : PlanOk x plan) : CF 148 [fbkD x m th wr,.sl false .work plan] (.int .i64 (needsF x plan)) := by
 have hpl := hp.1
 refine contract_of_path (GF 32) fneeds_fn (fneeds_all x m th wr plan (needsF x plan) plan.length) ⟨?_,trivial⟩
 refine LF.each (id := 0) (c := Code.at [1,1,0,1,0,0] (body Tryd.f148)) (by kernel_rfl) plan.length (fun i => fneeds_S0 x m th wr plan (needsTo x plan i) i) (fun i hi => ?_) ⟨_,_,_,_,_,_,_,fneeds_0_end x m th wr plan _ _,⟨lt_false,trivial⟩,.inl ⟨rfl,rfl⟩,rfl⟩
 have hf := feet_in hx (hp.take (i + 1))
 have hw := (hp.2 _ (mem_getD work0 hi)).d
 have hm := make_in hx hw
 exact ⟨_,_,_,_,_,_,fneeds_0_on x m th wr plan _ i (feetF x (plan.take (i + 1))),⟨lt_true hi,⟨by omega,by omega⟩,by omega,i64_of (by omega) (by omega),⟨by omega,by omega,by omega⟩,feet_con hx m th wr (hp.take (i + 1)),by omega,i64_of (by omega) (by omega),i64_of (by omega) (by omega),i64_of (by omega) (by omega),trivial⟩,rfl⟩
theorem good_con {x : FBook} (hx : FIn x) (m : Mp) (th : List (List Int)) (wr : List Int) {plan : List Work} (hp : PlanOk x plan) : CF 175 [fbkD x m th wr,.sl false .work plan] (.bool (fgoodF x plan)) :=
 contract_of_path (GF 12) fgood_fn (fgood_all x m th wr plan _) ⟨needs_con hx m th wr hp,trivial⟩

/-! ### isPlan -/
/-- Is it a plan up to a work? And the work behind which the next one stands. -/
def planAt (m : List (K2 × Bool)) (plan : List Work) (i : Nat) : Bool := !badF m (if i = 0 then ⟨-1,0⟩ else plan.getD (i - 1) work0) (plan.getD i work0)
theorem isPlan_go (m : List (K2 × Bool)) : ∀ (l : List Work) (la : Work),isPlanGo m la l = (List.range l.length).all fun i => !badF m (if i = 0 then la else l.getD (i - 1) work0) (l.getD i work0)
 | [],_ => rfl
 | w :: r,la => by
  simp only [isPlanGo,isPlan_go m r w,List.length_cons,List.range_succ_eq_map,List.all_cons,List.all_map]
  cases hb : badF m la w with
  | true => simp [hb]
  | false =>
   simp only [hb,if_true,if_false,Bool.not_false,List.getD_cons_zero,Bool.true_and,Bool.false_eq_true]
   refine congrArg _ ?_
   funext i
   cases i with
   | zero => rfl
   | succ i => simp
theorem isPlan_all (m : List (K2 × Bool)) (plan : List Work) : isPlanF m plan = (List.range plan.length).all (planAt m plan) := isPlan_go m plan ⟨-1,0⟩
theorem all_first (p : Nat → Bool) (n : Nat) : ((List.range n).all p = true ∧ ∀ i < n,p i = true) ∨ ((List.range n).all p = false ∧ ∃ k < n,p k = false ∧ ∀ i < k,p i = true) := by
 rcases find_first (fun i => !p i) n with ⟨k,h1,h2,h3⟩ | h
 ·refine .inr ⟨?_,k,h1,by simpa using h2,fun i hi => by simpa using h3 i hi⟩
  rw [Bool.eq_false_iff]
  intro hh
  have := List.all_eq_true.1 hh k (List.mem_range.2 h1)
  simp [this] at h2
 ·exact .inl ⟨List.all_eq_true.2 fun i hi => by simpa using h i (List.mem_range.1 hi),fun i hi => by simpa using h i hi⟩
theorem isPlan_con (x : FBook) (m : List (K2 × Bool)) (th : List (List Int)) (wr : List Int) {plan : List Work} (hl : plan.length ≤ 9223372036854775807) (hm : ∀ w,isWorkF m w = true → -1000000 ≤ w.d ∧ w.d ≤ 1000000 ∧ -1000000 ≤ w.s ∧ w.s ≤ 1000000) : CF 141 [fbkD x (.work m) th wr,.sl false .work plan] (.bool (isPlanF m plan)) := by
 obtain ⟨la,hla⟩ : ∃ la : Nat → Work,∀ i,la i = if i = 0 then ⟨-1,0⟩ else plan.getD (i - 1) work0 := ⟨_,fun _ => rfl⟩
 have hcode : Code.at [1,1,0,1] (body Tryd.f141) = .block 0 (.loop (Code.at [1,1,0,1,0,0] (body Tryd.f141))) := by kernel_rfl
 have hat : ∀ i,planAt m plan i = !badF m (la i) (plan.getD i work0) := fun i => by rw [hla]; rfl
 have hst : ∀ {e : Ex} {L' : List (Key × Val)},LF 33 (Code.at [1,1,0,1] (body Tryd.f141)) (isPlan_S0 x m th wr plan (la 0) 0) e L' → LF 33 (Code.at [1,1,0,1] (body Tryd.f141)) (isPlan_S0 x m th wr plan ⟨-1,0⟩ 0) e L' := by
  intro e L' h
  rwa [show la 0 = ⟨-1,0⟩ by rw [hla]; rfl] at h
 -- a round that goes on
 have hon : ∀ i,i < plan.length → planAt m plan i = true → (∀ j < i,planAt m plan j = true) → ∃ dec orc lorc ks ps L1,runK (MF 33) dec orc lorc (Code.at [1,1,0,1,0,0] (body Tryd.f141)) (isPlan_S0 x m th wr plan (la i) i) ks = some (ps,.normal,L1) ∧ allP ps ∧ L1 = isPlan_S0 x m th wr plan (la (i + 1)) (i + 1) := by
  intro i hi hp hbefore
  have hnext : la (i + 1) = plan.getD i work0 := by rw [hla]; rfl
  rw [hat] at hp
  have hb : badF m (la i) (plan.getD i work0) = false := by simpa using hp
  unfold badF at hb
  rw [Bool.or_eq_false_iff] at hb
  obtain ⟨hb1,hb2⟩ := hb
  have h20 : (!(lookK m ((plan.getD i work0).d,(plan.getD i work0).s)).getD false) = false := by simpa [isWorkF] using hb1
  have hw := hm (plan.getD i work0) (by simpa using hb1)
  have hi64 : inI64 ((i : Int) + 1) := by simp only [inI64]; omega
  by_cases hz : (la i).d = -1 ∧ (la i).s = 0
  ·have h24 : (!eqI [(la i).d,(la i).s] [-1,0]) = false := by rw [hz.1,hz.2]; rfl
   refine ⟨_,_,_,_,_,_,isPlan_0_first x m th wr plan (la i) i,?_,by rw [hnext]⟩
   repeat (first | exact trivial | refine ⟨by first | exact h20 | exact h24 | exact lt_true hi | omega | exact hi64,?_⟩)
  ·have h24 : (!eqI [(la i).d,(la i).s] [-1,0]) = true := by
    cases he : eqI [(la i).d,(la i).s] [-1,0] with
    | false => rfl
    | true =>
     have := (eqI_iff _ _).1 he
     simp only [List.cons.injEq,and_true] at this
     exact absurd this hz
   rw [show decide ((la i).d = -1 ∧ (la i).s = 0) = false from decide_eq_false hz] at hb2
   have h30 : decide (compareF (la i) (plan.getD i work0) ≥ 0) = false := by simpa using hb2
   have hla2 : -1000000 ≤ (la i).d ∧ (la i).d ≤ 1000000 ∧ -1000000 ≤ (la i).s ∧ (la i).s ≤ 1000000 := by
    cases i with
    | zero => rw [hla] at hz; simp at hz
    | succ i =>
     have hq := hbefore i (by omega)
     rw [hat] at hq
     rw [hla]
     refine hm _ ?_
     have : badF m (la i) (plan.getD i work0) = false := by simpa using hq
     unfold badF at this
     rw [Bool.or_eq_false_iff] at this
     simpa using this.1
   have hc := fcompare_con (la i) (plan.getD i work0) (i64_of (by omega) (by omega)) (i64_of (by omega) (by omega))
   refine ⟨_,_,_,_,_,_,isPlan_0_ok x m th wr plan (la i) i (compareF (la i) (plan.getD i work0)),?_,by rw [hnext]⟩
   repeat (first | exact trivial | refine ⟨by first | exact h20 | exact h24 | exact h30 | exact hc | exact lt_true hi | omega | exact hi64,?_⟩)
 rw [isPlan_all]
 rcases all_first (planAt m plan) plan.length with ⟨h1,h2⟩ | ⟨h1,k,hk,hpk,hbefore⟩
 ·rw [h1]
  refine contract_of_path (GF 33) isPlan_fn (isPlan_yes x m th wr plan (la plan.length) plan.length) ⟨by omega,?_,trivial⟩
  exact hst (LF.each (id := 0) hcode plan.length (fun i => isPlan_S0 x m th wr plan (la i) i) (fun i hi => hon i hi (h2 i hi) fun j hj => h2 j (by omega)) ⟨_,_,_,_,_,_,_,isPlan_0_end x m th wr plan _ _,⟨lt_false,trivial⟩,.inl ⟨rfl,rfl⟩,rfl⟩)
 ·rw [h1]
  have hb : badF m (la k) (plan.getD k work0) = true := by rw [hat] at hpk; simpa using hpk
  unfold badF at hb
  cases hw : isWorkF m (plan.getD k work0) with
  | false =>
   have h20 : (!(lookK m ((plan.getD k work0).d,(plan.getD k work0).s)).getD false) = true := by simpa [isWorkF] using hw
   refine contract_of_path (GF 33) isPlan_fn (isPlan_none x m th wr plan (la k) k) ⟨by omega,?_,trivial⟩
   refine hst (LF.each (id := 0) hcode k (fun i => isPlan_S0 x m th wr plan (la i) i) (fun i hi => hon i (by omega) (hbefore i hi) fun j hj => hbefore j (by omega)) ⟨_,_,_,_,_,_,_,isPlan_0_none x m th wr plan _ _,?_,.inr ⟨rfl,rfl⟩,rfl⟩)
   repeat (first | exact trivial | refine ⟨by first | exact h20 | exact lt_true hk | omega,?_⟩)
  | true =>
   have h20 : (!(lookK m ((plan.getD k work0).d,(plan.getD k work0).s)).getD false) = false := by simpa [isWorkF] using hw
   rw [hw] at hb
   simp only [Bool.not_true,Bool.false_or,Bool.and_eq_true,Bool.not_eq_true',decide_eq_false_iff_not] at hb
   obtain ⟨hz,h30⟩ := hb
   have h24 : (!eqI [(la k).d,(la k).s] [-1,0]) = true := by
    cases he : eqI [(la k).d,(la k).s] [-1,0] with
    | false => rfl
    | true =>
     have := (eqI_iff _ _).1 he
     simp only [List.cons.injEq,and_true] at this
     exact absurd this hz
   have hw2 := hm _ hw
   have hla2 : -1000000 ≤ (la k).d ∧ (la k).d ≤ 1000000 ∧ -1000000 ≤ (la k).s ∧ (la k).s ≤ 1000000 := by
    cases k with
    | zero => rw [hla] at hz; simp at hz
    | succ i =>
     have hq := hbefore i (by omega)
     rw [hat] at hq
     rw [hla]
     refine hm _ ?_
     have : badF m (la i) (plan.getD i work0) = false := by simpa using hq
     unfold badF at this
     rw [Bool.or_eq_false_iff] at this
     simpa using this.1
   have hc := fcompare_con (la k) (plan.getD k work0) (i64_of (by omega) (by omega)) (i64_of (by omega) (by omega))
   refine contract_of_path (GF 33) isPlan_fn (isPlan_bad x m th wr plan (la k) k (compareF (la k) (plan.getD k work0))) ⟨by omega,?_,trivial⟩
   refine hst (LF.each (id := 0) hcode k (fun i => isPlan_S0 x m th wr plan (la i) i) (fun i hi => hon i (by omega) (hbefore i hi) fun j hj => hbefore j (by omega)) ⟨_,_,_,_,_,_,_,isPlan_0_bad x m th wr plan _ _ _,?_,.inr ⟨rfl,rfl⟩,rfl⟩)
   repeat (first | exact trivial | refine ⟨by first | exact h20 | exact h24 | exact h30 | exact hc | exact lt_true hk | omega,?_⟩)
end Go.Di

namespace Go.Di
open Proofs

/-! ### thin -/
section
variable (x : FBook) (th : List (List Int)) (wr : List Int) (plan : List Work)
theorem fsec_cases (d : Nat) : (fsecF x th wr plan d = none ∧ ∀ s < x.feet.length,fbadF x th wr plan d s = false) ∨ ∃ s,fsecF x th wr plan d = some s ∧ s < x.feet.length ∧ fbadF x th wr plan d s = true ∧ ∀ s' < s,fbadF x th wr plan d s' = false := by
 unfold fsecF
 cases h : (List.range x.feet.length).find? (fbadF x th wr plan d) with
 | none =>
  rw [List.find?_range_eq_none] at h
  exact .inl ⟨rfl,fun s hs => by simpa using h s hs⟩
 | some s =>
  rw [List.find?_range_eq_some] at h
  exact .inr ⟨s,rfl,List.mem_range.1 h.2.1,h.1,fun s' hs' => by simpa using h.2.2 s' hs'⟩
theorem fthinGo_cases : ∀ (k d : Nat),(fthinGo x th wr plan k d = none ∧ ∀ d',d ≤ d' → d' < d + k → ∀ s < x.feet.length,fbadF x th wr plan d' s = false) ∨
  ∃ e s,fthinGo x th wr plan k d = some (e,s) ∧ d ≤ e ∧ e < d + k ∧ s < x.feet.length ∧ fbadF x th wr plan e s = true ∧ (∀ d',d ≤ d' → d' < e → ∀ s' < x.feet.length,fbadF x th wr plan d' s' = false) ∧ ∀ s' < s,fbadF x th wr plan e s' = false
 | 0,d => .inl ⟨rfl,fun d' h1 h2 => by omega⟩
 | k + 1,d => by
  rcases fsec_cases x th wr plan d with ⟨h1,h2⟩ | ⟨s,h1,h2,h3,h4⟩
  ·have he : fthinGo x th wr plan (k + 1) d = fthinGo x th wr plan k (d + 1) := by simp only [fthinGo,h1]
   rw [he]
   rcases fthinGo_cases k (d + 1) with ⟨g1,g2⟩ | ⟨e,s,g1,g2,g3,g4,g5,g6,g7⟩
   ·refine .inl ⟨g1,fun d' q1 q2 s hs => ?_⟩
    by_cases hd : d' = d
    ·rw [hd]; exact h2 s hs
    ·exact g2 d' (by omega) (by omega) s hs
   ·refine .inr ⟨e,s,g1,by omega,by omega,g4,g5,fun d' q1 q2 s' hs' => ?_,g7⟩
    by_cases hd : d' = d
    ·rw [hd]; exact h2 s' hs'
    ·exact g6 d' (by omega) q2 s' hs'
  ·exact .inr ⟨d,s,by simp only [fthinGo,h1],by omega,by omega,h2,h3,fun d' q1 q2 => by omega,h4⟩
theorem fthin_cases : (fthinF x th wr plan = none ∧ ∀ d : Nat,(d : Int) ≤ x.chain.days → ∀ s < x.feet.length,fbadF x th wr plan d s = false) ∨
  ∃ e s : Nat,fthinF x th wr plan = some (e,s) ∧ (e : Int) ≤ x.chain.days ∧ s < x.feet.length ∧ fbadF x th wr plan e s = true ∧ (∀ d' < e,∀ s' < x.feet.length,fbadF x th wr plan d' s' = false) ∧ ∀ s' < s,fbadF x th wr plan e s' = false := by
 rcases fthinGo_cases x th wr plan (x.chain.days + 1).toNat 0 with ⟨h1,h2⟩ | ⟨e,s,h1,h2,h3,h4,h5,h6,h7⟩
 ·exact .inl ⟨h1,fun d hd => h2 d (by omega) (by omega)⟩
 ·exact .inr ⟨e,s,h1,by omega,h4,h5,fun d' hd' => h6 d' (by omega) hd',h7⟩
end
def fthinR (o : Option (Nat × Nat)) : D := match o with
 | some (d,s) => .tup [.int .i64 (d : Int),.int .i64 (s : Int),.bool true]
 | none => .tup [.int .i64 0,.int .i64 0,.bool false]
theorem thin_con {x : FBook} {th : List (List Int)} {wr : List Int} (hx : FIn x) (hk : KnOk x th wr) (m : Mp) {plan : List Work} (hp : PlanOk x plan) : CF 145 [fbkD x m th wr,.sl false .work plan] (fthinR (fthinF x th wr plan)) := by
 have hn := hx.n
 have hdd := hx.days
 have hcode : Code.at [1,0,1] (body Tryd.f145) = .block 0 (.loop (Code.at [1,0,1,0,0] (body Tryd.f145))) := by kernel_rfl
 have hcode2 : Code.at [1,0,1,0,0,1,1,0,0,1,1] (body Tryd.f145) = .block 2 (.loop (Code.at [1,0,1,0,0,1,1,0,0,1,1,0,0] (body Tryd.f145))) := by kernel_rfl
 have hle : ∀ d s : Nat,(d : Int) ≤ x.chain.days → s < x.feet.length → CF 143 [fbkD x m th wr,.sl false .work plan,.int .i64 (s : Int),.int .i64 (d : Int)] (.int .i64 (fleastF x th wr plan s d)) := fun d s hd hs => fleast_con hx hk m hp s d ⟨by omega,by omega⟩ ⟨by omega,hd⟩
 -- a day on which none is too thin,up to a section
 have hin : ∀ (d : Nat),(d : Int) ≤ x.chain.days → ∀ N ≤ x.feet.length,(∀ s < N,fbadF x th wr plan d s = false) → ∀ {e : Ex} {L' : List (Key × Val)},
   (∃ dec orc lorc ks ps e1 L1,runK (MF 38) dec orc lorc (Code.at [1,0,1,0,0,1,1,0,0,1,1,0,0] (body Tryd.f145)) (fthin_S2 x m th wr plan d N) ks = some (ps,e1,L1) ∧ allP ps ∧ (e1 = .exit 2 ∧ e = .normal ∨ e1 = .ret ∧ e = .ret) ∧ L1 = L') →
   LF 38 (Code.at [1,0,1,0,0,1,1,0,0,1,1] (body Tryd.f145)) (fthin_S2 x m th wr plan d 0) e L' := by
  intro d hd N hN hb e L' hfin
  refine LF.each (id := 2) hcode2 N (fun j => fthin_S2 x m th wr plan d j) (fun j hj => ?_) hfin
  exact ⟨_,_,_,_,_,_,fthin_2_on x m th wr plan d j (fleastF x th wr plan j d),⟨lt_true (by omega),hle d j hd (by omega),hb j hj,i64_of (by omega) (by omega),trivial⟩,rfl⟩
 have hon : ∀ d : Nat,(d : Int) ≤ x.chain.days → (∀ s < x.feet.length,fbadF x th wr plan d s = false) → ∃ dec orc lorc ks ps L1,runK (MF 38) dec orc lorc (Code.at [1,0,1,0,0] (body Tryd.f145)) (fthin_S0 x m th wr plan d) ks = some (ps,.normal,L1) ∧ allP ps ∧ L1 = fthin_S0 x m th wr plan (d + 1) := fun d hd hb =>
  ⟨_,_,_,_,_,_,fthin_0_on x m th wr plan d x.feet.length,⟨decide_eq_true (by omega),hin d hd _ (Nat.le_refl _) hb ⟨_,_,_,_,_,_,_,fthin_2_end x m th wr plan d _,⟨lt_false,trivial⟩,.inl ⟨rfl,rfl⟩,rfl⟩,i64_of (by omega) (by omega),trivial⟩,rfl⟩
 rcases fthin_cases x th wr plan with ⟨h1,h2⟩ | ⟨d,s,h1,h2,h3,h4,h5,h6⟩
 ·rw [h1]
  refine contract_of_path (GF 38) fthin_fn (fthin_none x m th wr plan (x.chain.days + 1).toNat) ⟨i64_of (by omega) (by omega),?_,trivial⟩
  exact LF.each (id := 0) hcode _ (fun d => fthin_S0 x m th wr plan d) (fun d hd => hon d (by omega) (h2 d (by omega))) ⟨_,_,_,_,_,_,_,fthin_0_end x m th wr plan _,⟨decide_eq_false (by omega),trivial⟩,.inl ⟨rfl,rfl⟩,rfl⟩
 ·rw [h1]
  refine contract_of_path (GF 38) fthin_fn (fthin_hit x m th wr plan d s (fleastF x th wr plan s d)) ⟨i64_of (by omega) (by omega),?_,trivial⟩
  refine LF.each (id := 0) hcode d (fun d => fthin_S0 x m th wr plan d) (fun d' hd' => hon d' (by omega) (h5 d' hd')) ⟨_,_,_,_,_,_,_,fthin_0_hit x m th wr plan d s _,⟨decide_eq_true (by omega),?_,trivial⟩,.inr ⟨rfl,rfl⟩,rfl⟩
  exact hin d h2 s (by omega) h6 ⟨_,_,_,_,_,_,_,fthin_2_hit x m th wr plan d s _,⟨lt_true h3,hle d s h2 h3,h4,trivial⟩,.inr ⟨rfl,rfl⟩,rfl⟩
end Go.Di

