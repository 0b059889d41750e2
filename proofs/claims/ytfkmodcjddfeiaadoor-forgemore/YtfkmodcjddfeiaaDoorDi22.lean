/- Part 22: an interpreter over plain data for this code, with the proof that it says what the model does, and the contracts of the functions. No condition. -/
import Derived.Test.YtfkmodcjddfeiaaDoorDi21
set_option linter.unusedVariables false
set_option linter.unusedSimpArgs false
namespace Go.Di
open Proofs
theorem plannedDay_mem (x : FBook) (on : W4) (k : Nat) (l : List Work) (w : Work) : ∀ s,w ∈ plannedDay x on k l s ↔ w ∈ l ∨ ∃ j,j < s ∧ bitF (on.get j) k = true ∧ w = ⟨x.opn.getD k 0,(j : Int)⟩
 | 0 => by
  simp only [plannedDay]
  exact ⟨.inl,fun h => h.elim id fun ⟨j,hj,_⟩ => by omega⟩
 | s + 1 => by
  have ih := plannedDay_mem x on k l w s
  simp only [plannedDay]
  cases hb : bitF (on.get s) k with
  | true =>
   simp only [if_true,List.mem_append,List.mem_singleton,ih]
   constructor
   ·rintro ((h | ⟨j,hj,h⟩) | h)
    ·exact .inl h
    ·exact .inr ⟨j,by omega,h⟩
    ·exact .inr ⟨s,by omega,hb,h⟩
   ·rintro (h | ⟨j,hj,h1,h2⟩)
    ·exact .inl (.inl h)
    ·by_cases hjs : j = s
     ·subst hjs; exact .inr h2
     ·exact .inl (.inr ⟨j,by omega,h1,h2⟩)
  | false =>
   simp only [Bool.false_eq_true,if_false,ih]
   refine or_congr_right ⟨fun ⟨j,hj,h⟩ => ⟨j,by omega,h⟩,fun ⟨j,hj,h1,h2⟩ => ?_⟩
   by_cases hjs : j = s
   ·subst hjs; rw [hb] at h1; cases h1
   ·exact ⟨j,by omega,h1,h2⟩
theorem plannedTo_mem (x : FBook) (on : W4) (w : Work) : ∀ n,w ∈ plannedTo x on n ↔ ∃ k j,k < n ∧ j < x.feet.length ∧ bitF (on.get j) k = true ∧ w = ⟨x.opn.getD k 0,(j : Int)⟩
 | 0 => by
  simp only [plannedTo]
  exact ⟨fun h => (by cases h),fun ⟨k,_,hk,_⟩ => by omega⟩
 | n + 1 => by
  simp only [plannedTo,plannedDay_mem,plannedTo_mem x on w n]
  constructor
  ·rintro (⟨k,j,h1,h2⟩ | ⟨j,h1,h2⟩)
   ·exact ⟨k,j,by omega,h2⟩
   ·exact ⟨n,j,by omega,h1,h2⟩
  ·rintro ⟨k,j,h1,h2,h3⟩
   by_cases hk : k = n
   ·subst hk; exact .inr ⟨j,h2,h3⟩
   ·exact .inl ⟨k,j,by omega,h2,h3⟩
theorem planned_mem {x : FBook} {on : W4} {w : Work} : w ∈ plannedF x on ↔ ∃ k j,k < x.opn.length ∧ j < x.feet.length ∧ bitF (on.get j) k = true ∧ w = ⟨x.opn.getD k 0,(j : Int)⟩ := plannedTo_mem x on w _
theorem planned_ok {x : FBook} (hx : FIn x) (on : W4) : PlanOk x (plannedF x on) := by
 have hn := hx.n
 have hl := plannedTo_len x on x.opn.length
 refine ⟨Nat.le_trans hl (Nat.le_trans (Nat.mul_le_mul hx.opnl hn.2) (by decide)),fun w hw => ?_⟩
 obtain ⟨k,j,hk,hj,_,rfl⟩ := planned_mem.1 hw
 exact ⟨⟨by show (0 : Int) ≤ (j : Int); omega,by show (j : Int) < _; omega⟩,hx.opn _ (mem_getD 0 hk)⟩
theorem keeps_region (x : FBook) (m : Mp) (th : List (List Int)) (wr : List Int) (s : Nat) (hs : s < 4) (set : Int) : LF 36 (Code.at [1,1,0] (body Tryd.f201)) (keeps_R2 x m th wr s set) .normal (keeps_RS2 x m th wr s set) := by
 have h4 : s = 0 ∨ s = 1 ∨ s = 2 ∨ s = 3 := by omega
 rcases h4 with rfl | rfl | rfl | rfl
 ·exact joinF (keeps_r0 x m th wr set) ⟨by omega,trivial⟩ rfl
 ·exact joinF (keeps_r1 x m th wr set) ⟨by omega,trivial⟩ rfl
 ·exact joinF (keeps_r2 x m th wr set) ⟨by omega,trivial⟩ rfl
 ·exact joinF (keeps_r3 x m th wr set) ⟨by omega,trivial⟩ rfl
theorem keeps_con {x : FBook} {th : List (List Int)} {wr : List Int} (hx : FIn x) (hk : KnOk x th wr) (m : Mp) {s : Nat} (hs : s < x.feet.length) (set : Int) : CF 201 [fbkD x m th wr,.int .i64 (s : Int),.int .i64 set] (.bool (keepsF x th wr s set)) := by
 have hn := hx.n
 have hd := hx.days
 have hreg := keeps_region x m th wr s (by omega) set
 have hp := planned_con hx m th wr (zeroW.set s set)
 have hle : ∀ d : Nat,(d : Int) ≤ x.chain.days → CF 143 [fbkD x m th wr,.sl false .work (plannedF x (zeroW.set s set)),.int .i64 (s : Int),.int .i64 (d : Int)] (.int .i64 (fleastF x th wr (plannedF x (zeroW.set s set)) s d)) := fun d hdd => fleast_con hx hk m (planned_ok hx _) s d ⟨by omega,by omega⟩ ⟨by omega,hdd⟩
 have hcode : Code.at [1,1,1,1,0,1] (body Tryd.f201) = .block 0 (.loop (Code.at [1,1,1,1,0,1,0,0] (body Tryd.f201))) := by kernel_rfl
 have hon : ∀ d : Nat,(d : Int) ≤ x.chain.days → (!(decide (fleastF x th wr (plannedF x (zeroW.set s set)) s d < x.chain.rule))) = true → ∃ dec orc lorc ks ps L1,runK (MF 36) dec orc lorc (Code.at [1,1,1,1,0,1,0,0] (body Tryd.f201)) (keeps_S0 x m th wr s set (plannedF x (zeroW.set s set)) d) ks = some (ps,.normal,L1) ∧ allP ps ∧ L1 = keeps_S0 x m th wr s set (plannedF x (zeroW.set s set)) (d + 1) := fun d hdd hb =>
  ⟨_,_,_,_,_,_,keeps_0_on x m th wr s set _ d _,⟨decide_eq_true (by omega),hle d hdd,by simpa using hb,i64_of (by omega) (by omega),trivial⟩,rfl⟩
 unfold keepsF
 rcases all_first (fun d => !(decide (fleastF x th wr (plannedF x (zeroW.set s set)) s d < x.chain.rule))) (x.chain.days + 1).toNat with ⟨h1,h2⟩ | ⟨h1,k,hk,hpk,hb⟩
 ·rw [h1]
  refine contract_of_path (GF 36) keeps_fn (keeps_yes x m th wr s set _ (x.chain.days + 1).toNat) ⟨fnever_con,hreg,by omega,hp,i64_of (by omega) (by omega),?_,trivial⟩
  exact LF.each (id := 0) hcode _ (fun d => keeps_S0 x m th wr s set (plannedF x (zeroW.set s set)) d) (fun d hdd => hon d (by omega) (h2 d hdd)) ⟨_,_,_,_,_,_,_,keeps_0_end x m th wr s set _ _,⟨decide_eq_false (by omega),trivial⟩,.inl ⟨rfl,rfl⟩,rfl⟩
 ·rw [h1]
  refine contract_of_path (GF 36) keeps_fn (keeps_no x m th wr s set _ k (fleastF x th wr (plannedF x (zeroW.set s set)) s k)) ⟨fnever_con,hreg,by omega,hp,i64_of (by omega) (by omega),?_,trivial⟩
  exact LF.each (id := 0) hcode k (fun d => keeps_S0 x m th wr s set (plannedF x (zeroW.set s set)) d) (fun d hdd => hon d (by omega) (hb d hdd)) ⟨_,_,_,_,_,_,_,keeps_0_hit x m th wr s set _ k _,⟨decide_eq_true (by omega),hle k (by omega),by simpa using hpk,trivial⟩,.inr ⟨rfl,rfl⟩,rfl⟩
theorem pow_cast {n : Nat} (h : n ≤ 5) : (1 : Int) * (2 : Int) ^ Min.min (Int.toNat (n : Int)) 64 = ((2 ^ n : Nat) : Int) := by
 have h5 : n = 0 ∨ n = 1 ∨ n = 2 ∨ n = 3 ∨ n = 4 ∨ n = 5 := by omega
 rcases h5 with rfl | rfl | rfl | rfl | rfl | rfl <;> rfl
theorem pow_le {n : Nat} (h : n ≤ 5) : 2 ^ n ≤ 32 := Nat.pow_le_pow_right (by decide) h
def chS (x : FBook) (m : Mp) (th : List (List Int)) (wr : List Int) (s i : Nat) : List Int → List (Key × Val)
 | [] => chA_S0 x m th wr s i
 | y :: r => chB_S0 x m th wr s i y r
theorem changesTo_len (x : FBook) (th : List (List Int)) (wr : List Int) (s : Nat) : ∀ k,(changesTo x th wr s k).length ≤ k
 | 0 => Nat.le_refl _
 | k + 1 => by
  have := changesTo_len x th wr s k
  simp only [changesTo]
  split
  ·omega
  ·split
   ·rw [List.length_append,List.length_singleton]; omega
   ·omega
theorem any_getD (p : Int → Bool) (l : List Int) : (l.any p = true ∧ ∃ j,j < l.length ∧ p (l.getD j 0) = true ∧ ∀ i < j,p (l.getD i 0) = false) ∨ (l.any p = false ∧ ∀ j < l.length,p (l.getD j 0) = false) := by
 rcases find_first (fun j => p (l.getD j 0)) l.length with ⟨k,h1,h2,h3⟩ | h
 ·exact .inl ⟨List.any_eq_true.2 ⟨_,mem_getD 0 h1,h2⟩,k,h1,h2,h3⟩
 ·refine .inr ⟨List.any_eq_false.2 fun z hz => ?_,h⟩
  obtain ⟨j,hj,rfl⟩ := mem_iff_getD.1 hz
  simpa using h j hj
theorem changes_con {x : FBook} {th : List (List Int)} {wr : List Int} (hx : FIn x) (hk : KnOk x th wr) (m : Mp) {s : Nat} (hs : s < x.feet.length) : CF 180 [fbkD x m th wr,.int .i64 (s : Int)] (.sl false .int (changesF x th wr s)) := by
 have ho := hx.opnl
 have hc := pow_cast ho
 have hp := pow_le ho
 have hN : inI64 ((1 : Int) * (2 : Int) ^ Min.min (Int.toNat (x.opn.length : Int)) 64) := by rw [hc]; revert hp; generalize 2 ^ x.opn.length = N; intro hp; exact i64_of (by omega) (by omega)
 have hkeep := fun i : Nat => keeps_con hx hk m hs (i : Int)
 have hcode2 : Code.at [1,0,1,1,0,1,0,0,1,1,0,0,1,0,1] (body Tryd.f180) = .block 2 (.loop (Code.at [1,0,1,1,0,1,0,0,1,1,0,0,1,0,1,0,0] (body Tryd.f180))) := by kernel_rfl
 have hloop : LF 39 (Code.at [1,0,1,1,0,1] (body Tryd.f180)) (chS x m th wr s 0 (changesTo x th wr s 0)) .normal (chS x m th wr s (2 ^ x.opn.length) (changesF x th wr s)) := by
  refine LF.each (id := 0) (c := Code.at [1,0,1,1,0,1,0,0] (body Tryd.f180)) (by kernel_rfl) (2 ^ x.opn.length) (fun i => chS x m th wr s i (changesTo x th wr s i)) (fun i hi => ?_) ?_
  ·have hlt : decide ((i : Int) < (1 : Int) * (2 : Int) ^ Min.min (Int.toNat (x.opn.length : Int)) 64) = true := by rw [hc]; exact lt_true hi
   have hi64 : inI64 ((i : Int) + 1) := i64_of (by omega) (by omega)
   have hlen := changesTo_len x th wr s i
   have he : changesTo x th wr s (i + 1) = if ((changesTo x th wr s i).any fun l => andF i l == l) = true then changesTo x th wr s i else if keepsF x th wr s i = true then changesTo x th wr s i ++ [(i : Int)] else changesTo x th wr s i := rfl
   simp only [he]
   cases hl : changesTo x th wr s i with
   | nil =>
    have hin : LF 39 (Code.at [1,0,1,1,0,1,0,0,1,1,0,0,1,0,1] (body Tryd.f180)) (chA_S2 x m th wr s i) .normal (chA_S2 x m th wr s i) :=
     LF.each (id := 2) hcode2 0 (fun _ => chA_S2 x m th wr s i) (fun j hj => by omega) ⟨_,_,_,_,_,_,_,chA_2_end x m th wr s i,⟨rfl,trivial⟩,.inl ⟨rfl,rfl⟩,rfl⟩
    simp only [List.any_nil,Bool.false_eq_true,if_false]
    cases hb : keepsF x th wr s i with
    | true =>
     have := hkeep i
     rw [hb] at this
     exact ⟨_,_,_,_,_,_,chA_0_yes x m th wr s i true,⟨hlt,hin,this,rfl,by omega,hi64,trivial⟩,rfl⟩
    | false =>
     have := hkeep i
     rw [hb] at this
     exact ⟨_,_,_,_,_,_,chA_0_no x m th wr s i false,⟨hlt,hin,this,rfl,hi64,trivial⟩,rfl⟩
   | cons y r =>
    rw [hl] at hlen
    have hj64 : ∀ j : Nat,j < (y :: r).length → inI64 ((j : Int) + 1) := fun j hj => i64_of (by omega) (by omega)
    have hon : ∀ j,j < (y :: r).length → (andF i ((y :: r).getD j 0) == (y :: r).getD j 0) = false → ∃ dec orc lorc ks ps L1,runK (MF 39) dec orc lorc (Code.at [1,0,1,1,0,1,0,0,1,1,0,0,1,0,1,0,0] (body Tryd.f180)) (chB_S2 x m th wr s i j y r) ks = some (ps,.normal,L1) ∧ allP ps ∧ L1 = chB_S2 x m th wr s i (j + 1) y r := fun j hj hb =>
     ⟨_,_,_,_,_,_,chB_2_on x m th wr s i j y r,⟨lt_true hj,rfl,⟨by omega,by omega⟩,by omega,hb,hj64 j hj,trivial⟩,rfl⟩
    rcases any_getD (fun l => andF i l == l) (y :: r) with ⟨h1,j,h2,h3,h4⟩ | ⟨h1,h2⟩
    ·rw [h1,if_pos rfl]
     have hin : LF 39 (Code.at [1,0,1,1,0,1,0,0,1,1,0,0,1,0,1] (body Tryd.f180)) (chB_S2 x m th wr s i 0 y r) (.exit 1) (chB_S2 x m th wr s i j y r) :=
      LF.leaves (id := 2) (by decide) hcode2 j (fun j => chB_S2 x m th wr s i j y r) (fun j' hj' => hon j' (by omega) (h4 j' hj')) ⟨_,_,_,_,_,_,chB_2_hit x m th wr s i j y r,⟨lt_true h2,rfl,⟨by omega,by omega⟩,by omega,h3,trivial⟩,rfl⟩
     exact ⟨_,_,_,_,_,_,chB_0_skip x m th wr s i y r j,⟨hlt,rfl,hin,hi64,trivial⟩,rfl⟩
    ·rw [h1]
     simp only [Bool.false_eq_true,if_false]
     have hin : LF 39 (Code.at [1,0,1,1,0,1,0,0,1,1,0,0,1,0,1] (body Tryd.f180)) (chB_S2 x m th wr s i 0 y r) .normal (chB_S2 x m th wr s i (y :: r).length y r) :=
      LF.each (id := 2) hcode2 (y :: r).length (fun j => chB_S2 x m th wr s i j y r) (fun j' hj' => hon j' hj' (h2 j' hj')) ⟨_,_,_,_,_,_,_,chB_2_end x m th wr s i _ y r,⟨lt_false,trivial⟩,.inl ⟨rfl,rfl⟩,rfl⟩
     cases hb : keepsF x th wr s i with
     | true =>
      have := hkeep i
      rw [hb] at this
      exact ⟨_,_,_,_,_,_,chB_0_yes x m th wr s i y r _ true,⟨hlt,rfl,hin,this,rfl,rfl,by rw [List.length_append,List.length_singleton]; omega,hi64,trivial⟩,rfl⟩
     | false =>
      have := hkeep i
      rw [hb] at this
      exact ⟨_,_,_,_,_,_,chB_0_no x m th wr s i y r _ false,⟨hlt,rfl,hin,this,rfl,hi64,trivial⟩,rfl⟩
  ·have hlt : decide ((((2 ^ x.opn.length : Nat)) : Int) < (1 : Int) * (2 : Int) ^ Min.min (Int.toNat (x.opn.length : Int)) 64) = false := by rw [hc]; exact lt_false
   rw [show changesF x th wr s = changesTo x th wr s (2 ^ x.opn.length) from rfl]
   cases changesTo x th wr s (2 ^ x.opn.length) with
   | nil => exact ⟨_,_,_,_,_,_,_,chA_0_end x m th wr s _,⟨hlt,trivial⟩,.inl ⟨rfl,rfl⟩,rfl⟩
   | cons y r => exact ⟨_,_,_,_,_,_,_,chB_0_end x m th wr s _ y r,⟨hlt,trivial⟩,.inl ⟨rfl,rfl⟩,rfl⟩
 cases hl : changesF x th wr s with
 | nil =>
  rw [hl] at hloop
  exact Contract.weaken (contract_of_path (GF 39) chA_fn (chA_none x m th wr s (2 ^ x.opn.length)) ⟨⟨by omega,hN⟩,hloop,trivial⟩)
 | cons y r =>
  rw [hl] at hloop
  exact contract_of_path (GF 39) chA_fn (chA_some x m th wr s (2 ^ x.opn.length) y r) ⟨⟨by omega,hN⟩,hloop,rfl,trivial⟩
end Go.Di

namespace Go.Di
open Proofs
theorem cmp_drop : ∀ (k : Nat) (p q : List Work),k ≤ p.length → (∀ i < k,i < q.length ∧ compareF (p.getD i work0) (q.getD i work0) = 0) → cmpPlans p q = cmpPlans (p.drop k) (q.drop k)
 | 0,p,q,_,_ => by simp
 | k + 1,[],q,h,_ => by simp at h
 | k + 1,a :: p,[],_,h => by have := (h 0 (by omega)).1; simp at this
 | k + 1,a :: p,b :: q,h,hc => by
  have h0 : compareF a b = 0 := (hc 0 (by omega)).2
  simp only [cmpPlans,List.drop_succ_cons]
  rw [if_neg (by omega)]
  exact cmp_drop k p q (by simpa using h) fun i hi => by
   have := hc (i + 1) (by omega)
   simpa using this
theorem drop_cons (l : List Work) (k : Nat) (h : k < l.length) : l.drop k = l.getD k work0 :: l.drop (k + 1) := drop_getD l k work0 h
def Num (l : List Work) : Prop := l.length ≤ 1000000 ∧ ∀ w ∈ l,-1000000 ≤ w.d ∧ w.d ≤ 1000000 ∧ -1000000 ≤ w.s ∧ w.s ≤ 1000000
theorem PlanOk.num {x : FBook} (hx : FIn x) {plan : List Work} (h : PlanOk x plan) : Num plan := by
 have hn := hx.n
 exact ⟨by have := h.1; omega,fun w hw => by have h1 := (h.2 w hw).s; have h2 := (h.2 w hw).d; omega⟩
theorem cmpW_con {p q : List Work} (hp : Num p) (hq : Num q) : CF 200 [.sl false .work p,.sl false .work q,.fn 177 [] []] (.int .i64 (cmpPlans p q)) := by
 have hpl := hp.1
 have hql := hq.1
 have hc : ∀ i,i < p.length → i < q.length → CF 177 [wkD (p.getD i work0),wkD (q.getD i work0)] (.int .i64 (compareF (p.getD i work0) (q.getD i work0))) := fun i h1 h2 => by
  have a1 := hp.2 _ (mem_getD work0 h1)
  have a2 := hq.2 _ (mem_getD work0 h2)
  exact fcompare_con _ _ (i64_of (by omega) (by omega)) (i64_of (by omega) (by omega))
 have hcode : Code.at [1,0,1] (body Tryd.f200) = .block 0 (.loop (Code.at [1,0,1,0,0] (body Tryd.f200))) := by kernel_rfl
 have hon : ∀ i,i < p.length → i < q.length ∧ compareF (p.getD i work0) (q.getD i work0) = 0 → ∃ dec orc lorc ks ps L1,runK (MF 39) dec orc lorc (Code.at [1,0,1,0,0] (body Tryd.f200)) (cmpW_S0 p q i) ks = some (ps,.normal,L1) ∧ allP ps ∧ L1 = cmpW_S0 p q (i + 1) := fun i h1 ⟨h2,h3⟩ => by
  have h4 := hc i h1 h2
  rw [h3] at h4
  exact ⟨_,_,_,_,_,_,cmpW_0_on p q i 0,⟨lt_true h1,⟨by omega,by omega⟩,by omega,decide_eq_false (by omega),⟨by omega,by omega⟩,by omega,by omega,by omega,h4,rfl,i64_of (by omega) (by omega),trivial⟩,rfl⟩
 rcases find_first (fun i => decide (i ≥ q.length) || (compareF (p.getD i work0) (q.getD i work0) != 0)) p.length with ⟨k,h1,h2,h3⟩ | h
 ·have hbefore : ∀ i < k,i < q.length ∧ compareF (p.getD i work0) (q.getD i work0) = 0 := fun i hi => by
   have := h3 i hi
   simpa using this
  rw [cmp_drop k p q (by omega) hbefore]
  by_cases hk : k < q.length
  ·have hne : (compareF (p.getD k work0) (q.getD k work0) != 0) = true := by
    rw [show decide (k ≥ q.length) = false from decide_eq_false (by omega)] at h2
    simpa using h2
   rw [drop_cons p k h1,drop_cons q k hk]
   simp only [cmpPlans]
   rw [if_pos (by simpa using hne)]
   refine contract_of_path (GF 39) cmpW_fn (cmpW_ne p q k _) ⟨?_,trivial⟩
   exact LF.each (id := 0) hcode k (fun i => cmpW_S0 p q i) (fun i hi => hon i (by omega) (hbefore i hi)) ⟨_,_,_,_,_,_,_,cmpW_0_ne p q k _,⟨lt_true h1,⟨by omega,by omega⟩,by omega,decide_eq_false (by omega),⟨by omega,by omega⟩,by omega,by omega,by omega,hc k h1 hk,hne,trivial⟩,.inr ⟨rfl,rfl⟩,rfl⟩
  ·rw [drop_cons p k h1,List.drop_eq_nil_of_le (by omega : q.length ≤ k)]
   simp only [cmpPlans]
   refine contract_of_path (GF 39) cmpW_fn (cmpW_long p q k) ⟨?_,trivial⟩
   exact LF.each (id := 0) hcode k (fun i => cmpW_S0 p q i) (fun i hi => hon i (by omega) (hbefore i hi)) ⟨_,_,_,_,_,_,_,cmpW_0_long p q k,⟨lt_true h1,⟨by omega,by omega⟩,by omega,decide_eq_true (by omega),trivial⟩,.inr ⟨rfl,rfl⟩,rfl⟩
 ·have hall : ∀ i < p.length,i < q.length ∧ compareF (p.getD i work0) (q.getD i work0) = 0 := fun i hi => by
   have := h i hi
   simpa using this
  rw [cmp_drop p.length p q (Nat.le_refl _) hall,List.drop_length]
  have hloop : LF 39 (Code.at [1,0,1] (body Tryd.f200)) (cmpW_S0 p q 0) .normal (cmpW_S0 p q p.length) :=
   LF.each (id := 0) hcode p.length (fun i => cmpW_S0 p q i) (fun i hi => hon i hi (hall i hi)) ⟨_,_,_,_,_,_,_,cmpW_0_end p q _,⟨lt_false,trivial⟩,.inl ⟨rfl,rfl⟩,rfl⟩
  by_cases hk : p.length < q.length
  ·rw [drop_cons q _ hk]
   exact contract_of_path (GF 39) cmpW_fn (cmpW_less p q p.length) ⟨hloop,decide_eq_true (by omega),trivial⟩
  ·rw [List.drop_eq_nil_of_le (by omega : q.length ≤ p.length)]
   exact contract_of_path (GF 39) cmpW_fn (cmpW_same p q p.length) ⟨hloop,decide_eq_false (by omega),trivial⟩
theorem fewest_con (x : FBook) (m : Mp) (th : List (List Int)) (wr : List Int) : CF 176 [fbkD x m th wr] (.agg [.fn 199 [] [cellsOf (fbkD x m th wr)]]) := contract_of_path (GF 5) fewest_fn (fewest_all x m th wr) trivial
theorem plans_con (x : FBook) (m : Mp) (th : List (List Int)) (wr : List Int) : CF 149 [fbkD x m th wr] (.fn 179 [] [cellsOf (fbkD x m th wr)]) := contract_of_path (GF 4) fplans_fn (fplans_all x m th wr) trivial
theorem better_con {x : FBook} (hx : FIn x) (m : Mp) (th : List (List Int)) (wr : List Int) {p q : List Work} (hp : PlanOk x p) (hq : PlanOk x q) : CF 199 [.sl false .work p,.sl false .work q,.ref (cellsOf (fbkD x m th wr)) 0] (.bool (betterWF x p q)) := by
 have c1 := feet_con hx m th wr hp
 have c2 := feet_con hx m th wr hq
 have c3 := cmpW_con (hp.num hx) (hq.num hx)
 unfold betterWF
 by_cases h1 : feetF x p < feetF x q
 ·have h1' : decide (feetF x p < feetF x q) = true := decide_eq_true h1
  rw [h1']
  refine contract_of_path (GF 28) fewest1_fn (fewest1_lt x m th wr p q (feetF x p) (feetF x q) 0) ?_
  repeat (first | exact trivial | refine ⟨by first | exact c1 | exact c2 | exact h1',?_⟩)
 ·have h1' : decide (feetF x p < feetF x q) = false := decide_eq_false h1
  rw [h1']
  by_cases h2 : feetF x p = feetF x q
  ·have h2' : (feetF x p == feetF x q) = true := beq_iff_eq.2 h2
   rw [decide_eq_true h2]
   refine contract_of_path (GF 28) fewest1_fn (fewest1_eq x m th wr p q (feetF x p) (feetF x q) (cmpPlans p q)) ?_
   repeat (first | exact trivial | refine ⟨by first | exact c1 | exact c2 | exact c3 | exact h1' | exact h2',?_⟩)
  ·have h2' : (feetF x p == feetF x q) = false := beq_eq_false_iff_ne.2 h2
   rw [decide_eq_false h2]
   refine contract_of_path (GF 28) fewest1_fn (fewest1_gt x m th wr p q (feetF x p) (feetF x q) 0) ?_
   repeat (first | exact trivial | refine ⟨by first | exact c1 | exact c2 | exact h1' | exact h2',?_⟩)
end Go.Di

namespace Go.Di
open Proofs
noncomputable abbrev MFF (n : Nat) (ke no : Nat → Prop) (w1 : World) (fx : List Nat) (fv : Nat → Value) : Cfg := mkF PRG (lookN typesF) globF n ke no w1 fx fv
def gS (x : FBook) (m : Mp) (th : List (List Int)) (wr : List Int) (al : List (List Int)) (on : W4) (s : Int) : List (Key × Val) :=
 [(.tmp 1,.d (.int .i64 s)),(.tmp 2,.d (.ref [.sl false (.list .int) al] 0)),(.tmp 4,.d (.ref (cellsOf (fbkD x m th wr)) 0)),(.tmp 6,.d (.ptr 6 0)),(.box 6,.bx (some ⟨false,cellsOf (setsD on)⟩))]
def gK : List Key := [.tmp 1,.tmp 2,.tmp 4,.tmp 6,.box 6]
def gL (x : FBook) (m : Mp) (th : List (List Int)) (wr : List Int) (al : List (List Int)) (on : W4) (s : Int) (row : List Int) (j : Nat) : List (Key × Val) :=
 gS x m th wr al on s ++ [(.tmp 23,.d (.sl false .int row)),(.tmp 24,.d (.int .i64 row.length)),(.tmp 25,.d (.int .i64 j))]
def gLK : List Key := gK ++ [.tmp 23,.tmp 24,.tmp 25]
def hS (x : FBook) (m : Mp) (th : List (List Int)) (wr : List Int) : List (Key × Val) := [(.tmp 0,.d .undef),(.tmp 1,.d (.ref (cellsOf (fbkD x m th wr)) 0))]
def hS1 (x : FBook) (m : Mp) (th : List (List Int)) (wr : List Int) (c : D) : List (Key × Val) := [(.tmp 1,.d (.ref (cellsOf (fbkD x m th wr)) 0)),(.tmp 3,.d (.ptr 3 0)),(.box 3,.bx (some ⟨false,[c]⟩))]
def hK1 : List Key := [.tmp 1,.tmp 3,.box 3]
def hL (x : FBook) (m : Mp) (th : List (List Int)) (wr : List Int) (i : Nat) : List (List Int) → List (Key × Val)
 | [] => hS1 x m th wr .nil ++ [(.tmp 9,.d (.int .i64 x.feet.length)),(.tmp 10,.d (.int .i64 i))]
 | y :: r => hS1 x m th wr (.own 18 (y :: r).length) ++ [(.tmp 9,.d (.int .i64 x.feet.length)),(.tmp 10,.d (.int .i64 i)),(.obj 18,.ob (some ⟨.list .int,y :: r⟩))]
def hLK : List Key := hK1 ++ [.tmp 9,.tmp 10]
def hLK1 : List Key := hLK ++ [.obj 18]
theorem g_0 (x : FBook) (m : Mp) (th : List (List Int)) (wr : List Int) (al : List (List Int)) (on : W4) (s : Int) (ke no : Nat → Prop) (w1 : World) (fv : Nat → Value) :
  runK (MFF 39 ke no w1 [2,3,4,5] fv) [] [] [] (Code.at [0] (body Tryd.f181)) (entry 0 [setsD on,.int .i64 s,.ref [.sl false (.list .int) al] 0,.undef,.ref (cellsOf (fbkD x m th wr)) 0]) gK =
   some ([],.normal,gS x m th wr al on s) := by kernel_rfl
theorem g_1 (x : FBook) (m : Mp) (th : List (List Int)) (wr : List Int) (al : List (List Int)) (on : W4) (s : Int) (ke no : Nat → Prop) (w1 : World) (fv : Nat → Value) :
  runK (MFF 39 ke no w1 [2,3,4,5,6] fv) [] [] [] (Code.at [1,0,0] (body Tryd.f181)) (gS x m th wr al on s) (gK ++ [.tmp 14]) =
   some ([],.normal,gS x m th wr al on s ++ [(.tmp 14,.d (.bool (s == (al.length : Int))))]) := by kernel_rfl
theorem g_3 (x : FBook) (m : Mp) (th : List (List Int)) (wr : List Int) (al : List (List Int)) (on : W4) (s : Int) (ke no : Nat → Prop) (w1 : World) (fv : Nat → Value) :
  runK (MFF 39 ke no w1 [2,3,4,5,6] fv) [] [] [] (Code.at [1,1,0,0] (body Tryd.f181)) (gS x m th wr al on s) gLK =
   some ([(0 : Int) ≤ s ∧ s < (List.length al : Int)],.normal,gL x m th wr al on s (al.getD s.toNat []) 0) := by kernel_rfl
theorem g_4 (x : FBook) (m : Mp) (th : List (List Int)) (wr : List Int) (al : List (List Int)) (on : W4) (s : Int) (row : List Int) (j : Nat) (ke no : Nat → Prop) (w1 : World) (fv : Nat → Value) :
  runK (MFF 39 ke no w1 [2,3,4,5,6] fv) [] [] [] (Code.at [1,1,0,1,0,0,0] (body Tryd.f181)) (gL x m th wr al on s row j) (gLK ++ [.tmp 26]) =
   some ([],.normal,gL x m th wr al on s row j ++ [(.tmp 26,.d (.bool (decide ((j : Int) < (row.length : Int)))))]) := by kernel_rfl
theorem g_5 (x : FBook) (m : Mp) (th : List (List Int)) (wr : List Int) (al : List (List Int)) (on : W4) (s : Int) (row : List Int) (j : Nat) (ke no : Nat → Prop) (w1 : World) (fv : Nat → Value) :
  runK (MFF 39 ke no w1 [2,3,4,5,6] fv) [] [] [] (Code.at [1,1,0,1,0,0,1,1,0,0,0] (body Tryd.f181)) (gL x m th wr al on s row j) (gLK ++ [.tmp 10]) =
   some ([(0 : Int) ≤ (j : Int) ∧ (j : Int) < (List.length row : Int),0 + 1 ≤ 1],.normal,gL x m th wr al on s row j ++ [(.tmp 10,.d (.int .i64 (row.getD j 0)))]) := by kernel_rfl
theorem g_6_0 (x : FBook) (m : Mp) (th : List (List Int)) (wr : List Int) (al : List (List Int)) (on : W4) (row : List Int) (j : Nat) (z : Int) (ke no : Nat → Prop) (w1 : World) (fv : Nat → Value) :
  runK (MFF 39 ke no w1 [2,3,4,5,6] fv) [] [] [] (Code.at [1,1,0,1,0,0,1,1,0,0,1,0] (body Tryd.f181)) (gL x m th wr al on 0 row j ++ [(.tmp 10,.d (.int .i64 z))]) gLK =
   some ([(0 : Int) ≤ (0 : Int) ∧ (0 : Int) < (Nat.cast : Nat → Int) 4],.normal,gL x m th wr al (on.set 0 z) 0 row j) := by kernel_rfl
theorem g_6_1 (x : FBook) (m : Mp) (th : List (List Int)) (wr : List Int) (al : List (List Int)) (on : W4) (row : List Int) (j : Nat) (z : Int) (ke no : Nat → Prop) (w1 : World) (fv : Nat → Value) :
  runK (MFF 39 ke no w1 [2,3,4,5,6] fv) [] [] [] (Code.at [1,1,0,1,0,0,1,1,0,0,1,0] (body Tryd.f181)) (gL x m th wr al on 1 row j ++ [(.tmp 10,.d (.int .i64 z))]) gLK =
   some ([(0 : Int) ≤ (1 : Int) ∧ (1 : Int) < (Nat.cast : Nat → Int) 4],.normal,gL x m th wr al (on.set 1 z) 1 row j) := by kernel_rfl
theorem g_6_2 (x : FBook) (m : Mp) (th : List (List Int)) (wr : List Int) (al : List (List Int)) (on : W4) (row : List Int) (j : Nat) (z : Int) (ke no : Nat → Prop) (w1 : World) (fv : Nat → Value) :
  runK (MFF 39 ke no w1 [2,3,4,5,6] fv) [] [] [] (Code.at [1,1,0,1,0,0,1,1,0,0,1,0] (body Tryd.f181)) (gL x m th wr al on 2 row j ++ [(.tmp 10,.d (.int .i64 z))]) gLK =
   some ([(0 : Int) ≤ (2 : Int) ∧ (2 : Int) < (Nat.cast : Nat → Int) 4],.normal,gL x m th wr al (on.set 2 z) 2 row j) := by kernel_rfl
theorem g_6_3 (x : FBook) (m : Mp) (th : List (List Int)) (wr : List Int) (al : List (List Int)) (on : W4) (row : List Int) (j : Nat) (z : Int) (ke no : Nat → Prop) (w1 : World) (fv : Nat → Value) :
  runK (MFF 39 ke no w1 [2,3,4,5,6] fv) [] [] [] (Code.at [1,1,0,1,0,0,1,1,0,0,1,0] (body Tryd.f181)) (gL x m th wr al on 3 row j ++ [(.tmp 10,.d (.int .i64 z))]) gLK =
   some ([(0 : Int) ≤ (3 : Int) ∧ (3 : Int) < (Nat.cast : Nat → Int) 4],.normal,gL x m th wr al (on.set 3 z) 3 row j) := by kernel_rfl
theorem g_7a (x : FBook) (m : Mp) (th : List (List Int)) (wr : List Int) (al : List (List Int)) (on : W4) (s : Int) (row : List Int) (j : Nat) (ke no : Nat → Prop) (w1 : World) (fv : Nat → Value) :
  runLK (MFF 39 ke no w1 [2,3,4,5,6,32] fv) [] [] (rops (Code.at [1,1,0,1,0,0,1,1,0,0,1,1,0] (body Tryd.f181))) [(rops (Code.at [1,1,0,1,0,0,1,1,0,0,1,1,0] (body Tryd.f181)))[1],(rops (Code.at [1,1,0,1,0,0,1,1,0,0,1,1,0] (body Tryd.f181)))[2],(rops (Code.at [1,1,0,1,0,0,1,1,0,0,1,1,0] (body Tryd.f181)))[3]] (gL x m th wr al on s row j) (gLK ++ [.tmp 33,.tmp 35]) =
   some ([0 + 4 ≤ 4,inI64 (s + (1 : Int))],gL x m th wr al on s row j ++ [(.tmp 33,.d (setsD on)),(.tmp 35,.d (.int .i64 (s + 1)))]) := by kernel_rfl
theorem g_7b (x : FBook) (m : Mp) (th : List (List Int)) (wr : List Int) (al : List (List Int)) (on : W4) (s : Int) (row : List Int) (j : Nat) (ke no : Nat → Prop) (w1 : World) (fv : Nat → Value) :
  runLK (MFF 39 ke no w1 [2,3,4,5,6] fv) [] [] (rops (Code.at [1,1,0,1,0,0,1,1,0,0,1,1,0] (body Tryd.f181))) [(rops (Code.at [1,1,0,1,0,0,1,1,0,0,1,1,0] (body Tryd.f181)))[5]] ((.tmp 36,.d (.bool true)) :: (gL x m th wr al on s row j ++ [(.tmp 33,.d (setsD on)),(.tmp 35,.d (.int .i64 (s + 1)))])) (gLK ++ [.tmp 37]) =
   some ([],gL x m th wr al on s row j ++ [(.tmp 37,.d (.bool false))]) := by kernel_rfl
theorem g_9 (x : FBook) (m : Mp) (th : List (List Int)) (wr : List Int) (al : List (List Int)) (on : W4) (s : Int) (row : List Int) (j : Nat) (ke no : Nat → Prop) (w1 : World) (fv : Nat → Value) :
  runK (MFF 39 ke no w1 [2,3,4,5,6] fv) [] [] [] (Code.at [1,1,0,1,0,0,1,1,1] (body Tryd.f181)) (gL x m th wr al on s row j) gLK =
   some ([inI64 ((j : Int) + (1 : Int))],.normal,gL x m th wr al on s row (j + 1)) := by kernel_rfl
theorem g_10 (x : FBook) (m : Mp) (th : List (List Int)) (wr : List Int) (al : List (List Int)) (on : W4) (s : Int) (ke no : Nat → Prop) (w1 : World) (fv : Nat → Value) :
  runK (MFF 39 ke no w1 [2,3,4,5,6] fv) [] [] [] (Code.at [1,1,1,0] (body Tryd.f181)) (gS x m th wr al on s) (gK ++ [.tmp 8]) =
   some ([],.normal,gS x m th wr al on s ++ [(.tmp 8,.d (.bool true))]) := by kernel_rfl
theorem h_1 (x : FBook) (m : Mp) (th : List (List Int)) (wr : List Int) (ke no : Nat → Prop) (w1 : World) (fv : Nat → Value) :
  runK (MFF 24 ke no w1 [0,1,2] fv) [] [] [] (Code.at [1,0] (body Tryd.f179)) (hS x m th wr) hK1 =
   some ([],.normal,hS1 x m th wr .nil) := by kernel_rfl
theorem h_2 (x : FBook) (m : Mp) (th : List (List Int)) (wr : List Int) (ke no : Nat → Prop) (w1 : World) (fv : Nat → Value) :
  runK (MFF 24 ke no w1 [0,1,2,3] fv) [] [] [] (Code.at [1,1,0,0] (body Tryd.f179)) (hS1 x m th wr .nil) hLK =
   some ([],.normal,hL x m th wr 0 []) := by kernel_rfl
theorem h_on0 (x : FBook) (m : Mp) (th : List (List Int)) (wr : List Int) (i : Nat) (l : List Int) (ke no : Nat → Prop) (w1 : World) (fv : Nat → Value) :
  runK (MFF 24 ke no w1 [0,1,2,3] fv) [(11,true)] [(16,.sl false .int l)] [] (Code.at [1,1,0,1,0,0] (body Tryd.f179)) (hL x m th wr i []) hLK1 =
   some ([decide ((i : Int) < (List.length (FBook.feet x) : Int)) = true,CF 180 [fbkD x m th wr,D.int .i64 (i : Int)] (D.sl false E.int l),1 * (24 + 1) ≤ 140737488355328,1 = 1,inI64 ((i : Int) + (1 : Int))],.normal,hL x m th wr (i + 1) [l]) := by kernel_rfl
theorem h_on1 (x : FBook) (m : Mp) (th : List (List Int)) (wr : List Int) (i : Nat) (y : List Int) (r : List (List Int)) (l : List Int) (ke no : Nat → Prop) (w1 : World) (fv : Nat → Value) :
  runK (MFF 24 ke no w1 [0,1,2,3] fv) [(11,true)] [(16,.sl false .int l)] [] (Code.at [1,1,0,1,0,0] (body Tryd.f179)) (hL x m th wr i (y :: r)) hLK1 =
   some ([decide ((i : Int) < (List.length (FBook.feet x) : Int)) = true,CF 180 [fbkD x m th wr,D.int .i64 (i : Int)] (D.sl false E.int l),List.length (y :: r) = List.length ((y :: r)),List.length ((y :: r) ++ [l]) * (24 + 1) ≤ 140737488355328,List.length ((y :: r) ++ [l]) = List.length (((y :: r) ++ [l])),inI64 ((i : Int) + (1 : Int))],.normal,hL x m th wr (i + 1) (y :: r ++ [l])) := by kernel_rfl
theorem h_end (x : FBook) (m : Mp) (th : List (List Int)) (wr : List Int) (i : Nat) (y : List Int) (r : List (List Int)) (ke no : Nat → Prop) (w1 : World) (fv : Nat → Value) :
  runK (MFF 24 ke no w1 [0,1,2,3] fv) [(11,false)] [] [] (Code.at [1,1,0,1,0,0] (body Tryd.f179)) (hL x m th wr i (y :: r)) hLK1 =
   some ([decide ((i : Int) < (List.length (FBook.feet x) : Int)) = false],.exit 0,hL x m th wr i (y :: r)) := by kernel_rfl
theorem h_5 (x : FBook) (m : Mp) (th : List (List Int)) (wr : List Int) (al : List (List Int)) (ke no : Nat → Prop) (w1 : World) (fv : Nat → Value) :
  runK (MFF 24 ke no w1 [0,1,2,3] fv) [] [] [] (Code.at [1,1,1,0] (body Tryd.f179)) (hS1 x m th wr (.sl false (.list .int) al)) (hK1 ++ [.tmp 5,.box 5]) =
   some ([],.normal,hS1 x m th wr (.sl false (.list .int) al) ++ [(.tmp 5,.d (.ptr 5 0)),(.box 5,.bx (some ⟨false,[.nilfn]⟩))]) := by kernel_rfl
end Go.Di

namespace Go.Di
open Proofs
open Go.RowKit
section
variable {P : Program} {Q : Exit → Act → World → Prop} {a : Act} {w w' : World} {K : Act → World → Prop} {ops : Array Oper}
theorem count_set : ∀ (l : List Bool) (i : Nat),l[i]? = some false → (l.set i true).count false + 1 = l.count false
 | [],i,h => by simp at h
 | b :: l,0,h => by
  simp only [List.getElem?_cons_zero,Option.some.injEq] at h
  subst h
  simp
 | b :: l,i + 1,h => by
  have ih := count_set l i (by simpa using h)
  simp only [List.set_cons_succ,List.count_cons]
  omega
def edgesOf (ops : Array Oper) (i : Nat) : List Nat := match ops[i]? with
 | some o => (o.after.toList.filter fun e => Region.binds .any e).map (·.on)
 | none => []
theorem ready_iff {l : Array Bool} {i : Nat} : i ∈ Region.ready .any ops l ↔ i < ops.size ∧ l.getD i true = false ∧ ∀ j ∈ edgesOf ops i,l.getD j false = true := by
 rw [mem_ready]
 unfold edgesOf
 constructor
 ·rintro ⟨h1,o,h2,h3⟩
  refine ⟨(Array.getElem?_eq_some_iff.1 h2).1,h1,fun j hj => ?_⟩
  rw [h2] at hj
  obtain ⟨e,he,rfl⟩ := List.mem_map.1 hj
  rw [List.mem_filter] at he
  exact h3 e (by simpa using he.1) he.2
 ·rintro ⟨h1,h2,h3⟩
  refine ⟨h2,ops[i],Array.getElem?_eq_getElem h1,fun e he hb => h3 e.on ?_⟩
  rw [Array.getElem?_eq_getElem h1]
  exact List.mem_map.2 ⟨e,List.mem_filter.2 ⟨by simpa using he,hb⟩,rfl⟩
theorem wpAnyIn_inv {m : Nat} (Φ : Array Bool → Act → World → Prop) (hdone : ∀ l a w,Φ l a w → (∀ i,i < ops.size → (∀ j ∈ edgesOf ops i,l.getD j false = true) → l.getD i true = true) → Q .normal a w)
  (hstep : ∀ l a w i,Φ l a w → i < ops.size → l.getD i true = false → (∀ j ∈ edgesOf ops i,l.getD j false = true) → wpOpIn (FR none) m P ops Q i (Φ (l.setIfInBounds i true)) a w) :
  ∀ (fuel : Nat) (l : Array Bool) (a : Act) (w : World),Φ l a w → l.toList.count false ≤ fuel → wpAnyIn (FR none) m P .any ops Q fuel l a w := by
 have key : ∀ (l : Array Bool) (i : Nat),l.getD i true = false → l.toList[i]? = some false := by
  intro l i h
  rw [Array.getD_eq_getD_getElem?] at h
  rw [Array.getElem?_toList]
  cases hl : l[i]? with
  | none => rw [hl] at h; simp at h
  | some b => rw [hl] at h; simp only [Option.getD_some] at h; rw [h]
 have hd : ∀ l a w,Φ l a w → Region.ready .any ops l = [] → Q .normal a w := fun l a w h hr => hdone l a w h fun i h1 h2 => by
  cases hb : l.getD i true with
  | true => rfl
  | false =>
   have : i ∈ Region.ready .any ops l := ready_iff.2 ⟨h1,hb,h2⟩
   rw [hr] at this
   cases this
 intro fuel
 induction fuel with
 | zero =>
  intro l a w h hc
  have hr : Region.ready .any ops l = [] := by
   cases hr : Region.ready .any ops l with
   | nil => rfl
   | cons i r =>
    have hi : i ∈ Region.ready .any ops l := by rw [hr]; simp
    have := count_set l.toList i (key l i (ready_iff.1 hi).2.1)
    omega
  exact ⟨hr,hd l a w h hr⟩
 | succ fuel ih =>
  intro l a w h hc
  refine ⟨fun hr => hd l a w h hr,fun i hi => ?_⟩
  obtain ⟨h0,h1,h2⟩ := ready_iff.1 hi
  refine wpOpIn_mono (fun a' w' h' => ih _ a' w' h' ?_) (hstep l a w i h h0 h1 h2)
  have := count_set l.toList i (key l i h1)
  rw [Array.toList_setIfInBounds]
  omega
theorem getD_tf {l : Array Bool} {i : Nat} (h : i < l.size) : l.getD i true = l.getD i false := by
 rw [Array.getD_eq_getD_getElem?,Array.getD_eq_getD_getElem?,Array.getElem?_eq_getElem h]
 rfl
theorem getD_done {l : Array Bool} {i j : Nat} (h : (l.setIfInBounds i true).getD j false = true) : i = j ∨ l.getD j false = true := by
 rw [Array.getD_eq_getD_getElem?,Array.getElem?_setIfInBounds] at h
 rw [Array.getD_eq_getD_getElem?]
 by_cases hij : i = j
 ·exact .inl hij
 ·rw [if_neg hij] at h
  exact .inr h
theorem getD_keep {l : Array Bool} {i j : Nat} {b : Bool} (hij : i ≠ j) (h : l.getD j false = b) : (l.setIfInBounds i true).getD j false = b := by
 rw [Array.getD_eq_getD_getElem?] at h
 rw [Array.getD_eq_getD_getElem?,Array.getElem?_setIfInBounds,if_neg hij]
 exact h
theorem getD_now {l : Array Bool} {i : Nat} (h : i < l.size) : (l.setIfInBounds i true).getD i false = true := by
 rw [Array.getD_eq_getD_getElem?,Array.getElem?_setIfInBounds,if_pos rfl,if_pos h]
 rfl
theorem wpOpIn_of {i : Nat} {o : Oper} {m : Nat} (ho : ops[i]? = some o) (hg : o.guard = none) (h : o.wpIn (FR none) m P a w K Q) : wpOpIn (FR none) m P ops Q i K a w := by
 unfold wpOpIn
 rw [ho]
 have : Region.wanted o (yielded ops a.tmps) = true := by simp [Region.wanted,hg]
 simp only [this,if_true]
 exact h
theorem wpOpIn_hand {i : Nat} {o : Oper} {m : Nat} (ho : ops[i]? = some o) (hg : o.guard = none) (hd : ∀ c,o.op ≠ .defer c) {v : Value} (hrun : (execOp a.eval o).run P w = .ok (.value v) w') (hK : K (a.put o.dst v) w') : wpOpIn (FR none) m P ops Q i K a w :=
 wpOpIn_of ho hg (opIn hd (wp_value hrun hK))
theorem wpOpIn_callv {i : Nat} {o : Oper} {m : Nat} {f : FuncId} {vs caps : Array Value} {R : Ending → World → Prop} (ho : ops[i]? = some o) (hg : o.guard = none) {c : Call} (hc : o.op = .call c) {t : Operand} (hcal : c.callee = .value t) (hev : a.eval t = .func (.func f) #[] caps) (hargs : c.args.map a.eval = vs)
  {fn : Func} (h1 : P.funcs[f]? = some fn) (h2 : (fn.name == "runtime.NumGoroutine") = false) (h3 : fn.body.isNone = false) (hcl : Calls P f (vs ++ caps) w R) (hK : ∀ e w',R e w' → ∃ v,e = .returned v ∧ K (a.put o.dst v) w') : wpOpIn (FR none) m P ops Q i K a w := by
 refine wpOpIn_of ho hg (opIn (call_nd hc) ?_)
 obtain ⟨cb,hbody⟩ : ∃ cb,fn.body = some cb := by
  cases hb : fn.body with
  | none => rw [hb] at h3; cases h3
  | some cb => exact ⟨cb,rfl⟩
 have h2' : fn.name ≠ "runtime.NumGoroutine" := by simpa using h2
 have hrun : (execOp a.eval o).run P w = .ok (.enter f (vs ++ caps)) w := by
  simp [execOp,hc,resolve,hcal,hev,hargs,Deferred.ofValue,invoke,callFunc,h1,h2',hbody]
 unfold Oper.wp
 rw [hrun,Oper.upon_enter]
 refine hcl.mono fun e w' he => ?_
 obtain ⟨v,rfl,hk⟩ := hK e w' he
 exact hk
theorem wpOpIn_con {gl : Nat → Option (List D)} {i : Nat} {o : Oper} {m : Nat} {f : FuncId} {args : List D} {r : D} {vs : List Value} {R : Foot} (hcon : Contract P gl f args r) (ho : ops[i]? = some o) (hg : o.guard = none) {c : Call} (hc : o.op = .call c) (hcal : c.callee = .value (.func f)) (hargs : c.args.map a.eval = vs.toArray)
  (hs : ∀ b o,R b o → b < w.heap.size) (hgl : ∀ g cs,gl g = some cs → Rel R w (.ref cs 0) (.pointer (some ⟨g,0,none⟩))) (ha : All2 (Rel R w) args vs)
  (hK : ∀ v w' R',Below w.heap.size w w' → (∀ b o,R b o → R' b o) → (∀ b o,R' b o → b < w'.heap.size ∧ (R b o ∨ w.heap.size ≤ b)) → Rel R' w' r v → K (a.put o.dst v) w') : wpOpIn (FR none) m P ops Q i K a w := by
 obtain ⟨⟨fn,h1,h2,h3⟩,hcalls⟩ := hcon
 refine wpOpIn_callv ho hg hc hcal (f := f) (caps := #[]) rfl hargs h1 h2 h3 (by simpa using hcalls w R vs hs hgl ha) ?_
 rintro e w' ⟨v,rfl,hb,R',h4,h5,h6⟩
 exact ⟨v,rfl,hK v w' R' hb h4 h5 h6⟩
theorem wpOpIn_yield {i : Nat} {o : Oper} {m y : Nat} {vs : Array Value} {R : Ending → World → Prop} (ho : ops[i]? = some o) (hg : o.guard = none) {c : Call} (hc : o.op = .call c) {t : Operand} (hcal : c.callee = .value t) (hev : a.eval t = .func (.yield y) #[] #[]) (hargs : c.args.map a.eval = vs)
  (hy : YieldAt Fence.wide 0 P y vs w R) (hK : ∀ e w',R e w' → ∃ v,e = .returned v ∧ K (a.put o.dst v) w') : wpOpIn (FR none) m P ops Q i K a w := by
 refine wpOpIn_of ho hg ⟨fun _ _ => trivial,?_⟩
 obtain ⟨fn,tmps,assign,body,hrun,hr⟩ := hy
 rw [show (FR none).round = none from rfl,Oper.semAt_eq none a.eval o (fun c' hc' => by rw [hc] at hc'; cases hc')]
 have : (execOp a.eval o).run P w = .ok (.round y fn tmps assign body) w := by
  rw [← hrun]
  simp [execOp,hc,resolve,hcal,hev,hargs,Deferred.ofValue,invoke]
 rw [this,Oper.uponIn_round]
 refine ⟨fun x => by simp [FR,Fence.wide] at x,⟨trivial,fun c' cs hroom => ?_⟩⟩
 obtain ⟨e,w',hr1,hr2⟩ := hr.2 c' cs (room_wide _)
 obtain ⟨v,rfl,hk⟩ := hK e w' hr1
 refine ⟨.returned v,w',hk,?_⟩
 exact hr2
end
def ToldP (R : Foot) (T : Nat → Prop) (p : List Work) (vs : Array Value) (W : World) : Prop := ∃ v R',vs = #[v] ∧ (∀ b o,R' b o → R b o ∨ T b) ∧ Rel R' W (.sl false .work p) v
section
variable (x : FBook) (m : Mp) (th : List (List Int)) (wr : List Int) (al : List (List Int)) (R : Foot) (KE : Nat → Prop) (xs : List (List Work)) (y : Nat) (J : List (List Work) → (Nat → Prop) → World → Prop) (pA pY pB pC : Value)
def YieldP : Prop := ∀ pre q vs N T W,J pre N W → (∃ post,pre ++ q :: post = xs) → (∀ b,T b → N b) → ToldP R T q vs W → YieldAt Fence.wide 0 PRG y vs W fun e W' => e = .returned (.bool true) ∧ J (pre ++ [q]) (Less N T) W' ∧ Stays KE (Less N T) W W'
structure PCaps (N : Nat → Prop) (W : World) : Prop where
 b : Rel R W (.ref (cellsOf (fbkD x m th wr)) 0) pB
 glob : ∀ g cs,globF g = some cs → Rel R W (.ref cs 0) (.pointer (some ⟨g,0,none⟩))
 all : ∃ Ra : Foot,(∀ b o,Ra b o → KE b ∨ N b) ∧ Rel Ra W (.ref [.sl false (.list .int) al] 0) pA
 yld : ∃ b4,pY = .pointer (some ⟨b4,0,none⟩) ∧ N b4 ∧ W.cell? ⟨b4,0,none⟩ = some (.func (.yield y) #[] #[])
 chg : ∃ b5,pC = .pointer (some ⟨b5,0,none⟩) ∧ N b5 ∧ W.cell? ⟨b5,0,none⟩ = some (.func (.func 181) #[] #[pA,pY,pB,pC])
variable {x m th wr al R KE xs y J pA pY pB pC}
theorem keeps_of {R : Foot} {W W' : World} {X : Nat → Prop} (h1 : ∀ b o,R b o → X b) (hs : ∀ b,X b → W'.heap[b]? = W.heap[b]?) : Keeps R R W W' :=
 ⟨fun _ _ h => h,fun b o u hr hc => by rw [cell_same (hs b (h1 b o hr))]; exact hc,fun b es c hr hm => by rw [hs b (h1 b 0 hr)]; exact hm⟩
theorem PCaps.after {N N' : Nat → Prop} {W W' : World} (hR : ∀ b o,R b o → KE b) (h : PCaps x m th wr al R KE y pA pY pB pC N W) (hN : ∀ b,N b → N' b) (hs : ∀ b,KE b ∨ N b → W'.heap[b]? = W.heap[b]?) : PCaps x m th wr al R KE y pA pY pB pC N' W' := by
 obtain ⟨h1,h2,⟨Ra,h3,h4⟩,⟨b4,q1,q2,q3⟩,⟨b5,r1,r2,r3⟩⟩ := h
 have hk := keeps_of (R := R) hR (fun b hb => hs b (.inl hb))
 have hk2 := keeps_of (R := Ra) h3 hs
 exact ⟨Rel.keep hk _ _ h1,fun g cs hg => Rel.keep hk _ _ (h2 g cs hg),⟨Ra,fun b o hr => (h3 b o hr).imp id (hN b),Rel.keep hk2 _ _ h4⟩,⟨b4,q1,hN _ q2,by rw [cell_same (hs _ (.inr q2))]; exact q3⟩,⟨b5,r1,hN _ r2,by rw [cell_same (hs _ (.inr r2))]; exact r3⟩⟩
theorem run_loadAgg {t : TypeId} {ti : TI} (hti : lookN typesF t = some ti) (ha : ti.agg = true) {cs : List D} (hsz : cs.length = ti.sz) {R : Foot} {W : World} {v : Value} (h : Rel R W (.ref cs 0) v) : ∃ u,(Instr.loadAt t v).run PRG W = .ok u W ∧ Rel R W (.agg cs) u := by
 obtain ⟨b,o,rfl,hr⟩ := h
 obtain ⟨vs,h1,h2⟩ := ref_cells hr
 have hl : vs.length = ti.sz := by rw [← hsz]; exact (All2.length h1).symm
 have hrun := loadAt_run (P := PRG) (C := mkF PRG (lookN typesF) globF 0 (fun _ => False) (fun _ => False) W [] (fun _ => undef)) (w := W) (typesF_ok t ti hti) (b := b) (o' := o) (off := 0) vs (fun j u hu => (h2 j u hu).2) (by omega) (fun h => by rw [ha] at h; cases h)
 rw [ha] at hrun
 simp only [if_true,List.drop_zero] at hrun
 rw [List.take_of_length_le (by omega)] at hrun
 exact ⟨_,hrun,vs.toArray,rfl,h1⟩
end
end Go.Di

namespace Go.Di
open Proofs
open Go.RowKit
section
variable {x : FBook} {m : Mp} {th : List (List Int)} {wr : List Int} {al : List (List Int)} {R : Foot} {KE : Nat → Prop} {xs : List (List Work)} {y : Nat} {J : List (List Work) → (Nat → Prop) → World → Prop} {pA pY pB pC : Value}
theorem get_put {a : Act} {d i : Nat} {v u : Value} (hd : d < a.tmps.size) (hne : d ≠ i) (h : a.tmps.getD i undef = u) : (a.put (some d) v).tmps.getD i undef = u := by
 rw [getD_put a d v i hd,if_neg hne]; exact h
theorem get_now {a : Act} {d : Nat} {v : Value} (hd : d < a.tmps.size) : (a.put (some d) v).tmps.getD d undef = v := by
 rw [getD_put a d v d hd,if_pos rfl]
theorem getD_set {l : Array Bool} {i j : Nat} (h : l.getD j false = true) : (l.setIfInBounds i true).getD j false = true := by
 by_cases hij : i = j
 ·subst hij
  have hlt : i < l.size := by
   rcases Nat.lt_or_ge i l.size with h' | h'
   ·exact h'
   ·rw [Array.getD_eq_getD_getElem?,Array.getElem?_eq_none h'] at h; cases h
  exact getD_now hlt
 ·exact getD_keep hij h
theorem size_put (a : Act) (d : Nat) (v : Value) : (a.put (some d) v).tmps.size = a.tmps.size := by simp [Act.put]
theorem chg_leaf (hJ : Abides J) (hRKE : ∀ b o,R b o → KE b) (hy : YieldP R KE xs y J) (hx : FIn x) {on : W4} {s : Int} {pre : List (List Work)} {N0 N : Nat → Prop} {W0 W : World} {a : Act} {fv : Nat → Value}
  (hKE : ∀ b,KE b → b < W0.heap.size) (hN0 : ∀ b,N0 b → b < W0.heap.size) (hcaps : PCaps x m th wr al R KE y pA pY pB pC N0 W0) (hmid : Mid KE J pre [] N0 W0 N W)
  (hfr : Fr PRG (lookN typesF) globF 39 [2,3,4,5,6] fv KE W0.heap.size N a W (gS x m th wr al on s)) (hf3 : fv 3 = pY) (hf4 : fv 4 = pB) (hxs : ∃ post,pre ++ [plannedF x on] ++ post = xs)
  {Q : Exit → Act → World → Prop} (hret : ∀ a' W',Done KE J pre [plannedF x on] N0 W0 a' W' → Q .ret a' W') : (Code.at [1,0,1,0] (body Tryd.f181)).wpIn (FR none) 0 PRG Q a W := by
 have hcode : Code.at [1,0,1,0] (body Tryd.f181) = .seq (.region 2 (rops (Code.at [1,0,1,0,0] (body Tryd.f181))) true) .ret := by kernel_rfl
 rw [hcode]
 have hfin : ∀ (e : Exit) (a' : Act) (w' : World),noOut (fun e a' w' => e = .normal ∧ Done KE J pre [plannedF x on] N0 W0 a' w') e a' w' → Exit.then (Code.wpIn (FR none) 0 PRG Code.ret Q) Q e a' w' := by
  intro e a' w' h
  obtain ⟨rfl,h2⟩ := noOut_mono h
  exact wpIn_ret (hret a' w' h2)
 refine wpIn_seq (wpIn_mono (Q := noOut fun e a' w' => e = .normal ∧ Done KE J pre [plannedF x on] N0 W0 a' w') (wpIn_region_any mixed_ok ?_) hfin)
 obtain ⟨ops,hops⟩ : ∃ ops,ops = rops (Code.at [1,0,1,0,0] (body Tryd.f181)) := ⟨_,rfl⟩
 rw [← hops]
 have hsz : ops.size = 6 := by rw [hops]; kernel_rfl
 have d0 : edgesOf ops 0 = [] := by rw [hops]; kernel_rfl
 have d1 : edgesOf ops 1 = [] := by rw [hops]; kernel_rfl
 have d2 : edgesOf ops 2 = [] := by rw [hops]; kernel_rfl
 have d3 : edgesOf ops 3 = [1,2] := by rw [hops]; kernel_rfl
 have d4 : edgesOf ops 4 = [0,3,3] := by rw [hops]; kernel_rfl
 have d5 : edgesOf ops 5 = [4,4,0,1,2,3,4] := by rw [hops]; kernel_rfl
 have hnt : 39 ≤ a.tmps.size := by obtain ⟨β,σ,R',hi⟩ := hfr; exact hi.inv.nt
 have hdf := hfr.defers
 have e3 : a.tmps.getD 3 undef = pY := (hfr.fixed 3 (by simp)).trans hf3
 have e4 : a.tmps.getD 4 undef = pB := (hfr.fixed 4 (by simp)).trans hf4
 obtain ⟨g6,arr6,el6,R6,e6,hg1,hg2,hg3,_,hg4⟩ := hfr.boxAt (i := 6) rfl (cs := cellsOf (setsD on)) rfl
 have hcs6 := hg4 (.inl rfl)
 have hcap := hcaps.after hRKE hmid.le hmid.same
 obtain ⟨b4,hb1,hb2,hb3⟩ := hcap.yld
 have hKEW : ∀ b,KE b → b < W.heap.size := fun b hb => Nat.lt_of_lt_of_le (hKE b hb) hmid.size
 have hRW : ∀ b o,R b o → b < W.heap.size := fun b o hr => hKEW b (hRKE b o hr)
 obtain ⟨W1,hW1⟩ : ∃ W1 : World,W1 = { W with drawn := W.drawn + 1 } := ⟨_,rfl⟩
 rw [← hW1]
 have hB1 : Below W.heap.size W W1 := by rw [hW1]; exact below_drew1 W
 obtain ⟨post,hpost⟩ := hxs
 have hkeepR : ∀ W',Below W.heap.size W W' → Keeps R R W W' := fun W' hb => Keeps.of_below (fun _ _ h => h) hRW hb
 obtain ⟨P1,hP1⟩ : ∃ P1 : Array Bool → Act → World → Prop,P1 = fun l a' w' => l.getD 5 false = false ∧ Below W.heap.size W w' ∧ (l.getD 0 false = true → a'.tmps.getD 15 undef = .func (.yield y) #[] #[]) ∧ (l.getD 1 false = true → Rel R w' (fbkD x m th wr) (a'.tmps.getD 16 undef)) ∧ (l.getD 2 false = true → a'.tmps.getD 17 undef = w4V on) ∧
  (l.getD 3 false = true → l.getD 1 false = true ∧ l.getD 2 false = true ∧ ∃ R' : Foot,(∀ b o,R' b o → b < w'.heap.size ∧ (R b o ∨ W.heap.size ≤ b)) ∧ Rel R' w' (.sl false .work (plannedF x on)) (a'.tmps.getD 18 undef)) := ⟨_,rfl⟩
 obtain ⟨P2,hP2⟩ : ∃ P2 : Array Bool → Act → World → Prop,P2 = fun l a' w' => (∀ j,j < 4 → l.getD j false = true) ∧ (∃ N',Mid KE J pre [plannedF x on] N0 W0 N' w') ∧ a'.tmps.getD 19 undef = .bool true ∧ (l.getD 5 false = true → a'.tmps.getD 8 undef = .bool true) := ⟨_,rfl⟩
 refine wpAnyIn_inv (fun l a' w' => l.size = 6 ∧ a'.defers = [] ∧ 39 ≤ a'.tmps.size ∧ a'.tmps.getD 3 undef = pY ∧ a'.tmps.getD 4 undef = pB ∧ a'.tmps.getD 6 undef = .pointer (some ⟨g6,0,none⟩) ∧ ((l.getD 4 false = false ∧ P1 l a' w') ∨ (l.getD 4 false = true ∧ P2 l a' w'))) ?_ ?_ ops.size (Array.replicate ops.size false) a W1 ⟨by simp [hsz],hdf,hnt,e3,e4,e6,.inl ⟨by rw [hsz]; rfl,by rw [hP1,hsz]; exact ⟨rfl,hB1,fun h => (by cases h),fun h => (by cases h),fun h => (by cases h),fun h => (by cases h)⟩⟩⟩ (by rw [hsz]; decide)
 · -- all is done
  rintro l a' w' ⟨hl,hd,hn,q3,q4,q6,hphase⟩ hall
  have hall' : ∀ i,i < 6 → (∀ j ∈ edgesOf ops i,l.getD j false = true) → l.getD i false = true := fun i hi h => by rw [← getD_tf (by omega)]; exact hall i (by omega) h
  have l0 := hall' 0 (by omega) (by rw [d0]; intro j hj; cases hj)
  have l1 := hall' 1 (by omega) (by rw [d1]; intro j hj; cases hj)
  have l2 := hall' 2 (by omega) (by rw [d2]; intro j hj; cases hj)
  have l3 := hall' 3 (by omega) (by rw [d3]; intro j hj; simp only [List.mem_cons,List.not_mem_nil,or_false] at hj; rcases hj with rfl | rfl <;> assumption)
  have l4 := hall' 4 (by omega) (by rw [d4]; intro j hj; simp only [List.mem_cons,List.not_mem_nil,or_false] at hj; rcases hj with rfl | rfl | rfl <;> assumption)
  have l5 := hall' 5 (by omega) (by rw [d5]; intro j hj; simp only [List.mem_cons,List.not_mem_nil,or_false] at hj; rcases hj with rfl | rfl | rfl | rfl | rfl | rfl | rfl <;> assumption)
  rcases hphase with ⟨h4,_⟩ | ⟨_,hp⟩
  ·rw [h4] at l4; cases l4
  ·rw [hP2] at hp
   exact ⟨rfl,hd,hp.2.2.2 l5,hp.2.1⟩
 ·rintro l a' w' i ⟨hl,hd,hn,q3,q4,q6,hphase⟩ hi hli hedge
  rw [getD_tf (by omega)] at hli
  have hsize : (l.setIfInBounds i true).size = 6 := by rw [Array.size_setIfInBounds]; exact hl
  have hkeep : ∀ (d : Nat) (v : Value),d < 39 → d ≠ 3 → d ≠ 4 → d ≠ 6 → (a'.put (some d) v).defers = [] ∧ 39 ≤ (a'.put (some d) v).tmps.size ∧ (a'.put (some d) v).tmps.getD 3 undef = pY ∧ (a'.put (some d) v).tmps.getD 4 undef = pB ∧ (a'.put (some d) v).tmps.getD 6 undef = .pointer (some ⟨g6,0,none⟩) := fun d v h1 h2 h3 h4 =>
   ⟨hd,by rw [size_put]; exact hn,get_put (by omega) h2 q3,get_put (by omega) h3 q4,get_put (by omega) h4 q6⟩
  have hi6 : i = 0 ∨ i = 1 ∨ i = 2 ∨ i = 3 ∨ i = 4 ∨ i = 5 := by omega
  have hph1 : i ≠ 5 → l.getD 4 false = false ∧ P1 l a' w' := fun hne => by
   rcases hphase with h | ⟨h4,hp⟩
   ·exact h
   ·rw [hP2] at hp
    by_cases h : i < 4
    ·have := hp.1 i h
     rw [hli] at this
     cases this
    ·have : i = 4 := by omega
     rw [this,h4] at hli
     cases hli
  rcases hi6 with rfl | rfl | rfl | rfl | rfl | rfl
  · -- the yield is loaded
   obtain ⟨h4,hp⟩ := hph1 (by decide)
   rw [hP1] at hp
   obtain ⟨h50,hb,f0,f1,f2,f3⟩ := hp
   obtain ⟨o0,h00,h01,h02,h03⟩ := (opAt (ops := ops) (i := 0) (dst := some 15) (op := .load 157 (.tmp 3)) (by rw [hops]; kernel_rfl)).at_
   have hc4 : w'.cell? ⟨b4,0,none⟩ = some (.func (.yield y) #[] #[]) := by rw [cell_same (hb.block b4 (hmid.own b4 hb2))]; exact hb3
   refine wpOpIn_hand (v := .func (.yield y) #[] #[]) (w' := w') h00 h01 (load_nd h03) ?_ ?_
   ·have hev : a'.eval (.tmp 3) = .pointer (some ⟨b4,0,none⟩) := q3.trans hb1
    simp only [execOp,h03,hev]
    simp [run_loadv (P := PRG) typesF_ok (t := 157) (ti := ⟨.other,1,8,[.nilfn],none,false⟩) (by kernel_rfl) rfl rfl hc4]
   rw [h02]
   obtain ⟨k1,k2,k3,k4,k5⟩ := hkeep 15 (.func (.yield y) #[] #[]) (by decide) (by decide) (by decide) (by decide)
   refine ⟨hsize,k1,k2,k3,k4,k5,.inl ⟨getD_keep (by decide) h4,?_⟩⟩
   rw [hP1]
   refine ⟨getD_keep (by decide) h50,hb,fun _ => get_now (by omega),fun h => ?_,fun h => ?_,fun h => ?_⟩
   ·rw [getD_put a' 15 _ 16 (by omega),if_neg (by decide)]; exact f1 ((getD_done h).resolve_left (by decide))
   ·rw [getD_put a' 15 _ 17 (by omega),if_neg (by decide)]; exact f2 ((getD_done h).resolve_left (by decide))
   ·rw [getD_put a' 15 _ 18 (by omega),if_neg (by decide)]; obtain ⟨k6,k7,k8⟩ := f3 ((getD_done h).resolve_left (by decide)); exact ⟨getD_set k6,getD_set k7,k8⟩
  · -- the book is loaded
   obtain ⟨h4,hp⟩ := hph1 (by decide)
   rw [hP1] at hp
   obtain ⟨h50,hb,f0,f1,f2,f3⟩ := hp
   obtain ⟨o0,h00,h01,h02,h03⟩ := (opAt (ops := ops) (i := 1) (dst := some 16) (op := .load 151 (.tmp 4)) (by rw [hops]; kernel_rfl)).at_
   obtain ⟨u,hu1,hu2⟩ := run_loadAgg (t := 151) (ti := ⟨.struct [(0,84),(10,149),(11,40),(12,23)],13,216,zfbkC,none,false⟩) (by kernel_rfl) rfl (cs := cellsOf (fbkD x m th wr)) rfl (Rel.keep (hkeepR w' hb) _ _ hcap.b)
   refine wpOpIn_hand (v := u) (w' := w') h00 h01 (load_nd h03) ?_ ?_
   ·have hev : a'.eval (.tmp 4) = pB := q4
    simp only [execOp,h03,hev]
    simp [hu1]
   rw [h02]
   obtain ⟨k1,k2,k3,k4,k5⟩ := hkeep 16 u (by decide) (by decide) (by decide) (by decide)
   refine ⟨hsize,k1,k2,k3,k4,k5,.inl ⟨getD_keep (by decide) h4,?_⟩⟩
   rw [hP1]
   refine ⟨getD_keep (by decide) h50,hb,fun h => ?_,fun _ => ?_,fun h => ?_,fun h => ?_⟩
   ·rw [getD_put a' 16 _ 15 (by omega),if_neg (by decide)]; exact f0 ((getD_done h).resolve_left (by decide))
   ·rw [getD_put a' 16 _ 16 (by omega),if_pos rfl]; exact hu2
   ·rw [getD_put a' 16 _ 17 (by omega),if_neg (by decide)]; exact f2 ((getD_done h).resolve_left (by decide))
   ·rw [getD_put a' 16 _ 18 (by omega),if_neg (by decide)]; obtain ⟨k6,k7,k8⟩ := f3 ((getD_done h).resolve_left (by decide)); exact ⟨getD_set k6,getD_set k7,k8⟩
  · -- the sets are loaded
   obtain ⟨h4,hp⟩ := hph1 (by decide)
   rw [hP1] at hp
   obtain ⟨h50,hb,f0,f1,f2,f3⟩ := hp
   obtain ⟨o0,h00,h01,h02,h03⟩ := (opAt (ops := ops) (i := 2) (dst := some 17) (op := .load 196 (.tmp 6)) (by rw [hops]; kernel_rfl)).at_
   have hg6 : w'.heap[g6]? = some (.cells arr6 el6 (0,0)) := by rw [hb.block g6 (hmid.own g6 hg1)]; exact hg3
   have href : Rel (fun b _ => b = g6) w' (.ref (cellsOf (setsD on)) 0) (.pointer (some ⟨g6,0,none⟩)) := by
    refine ⟨g6,0,rfl,fun j d hj => ?_⟩
    obtain ⟨u,hu,hr⟩ := All2.get hcs6 j d hj
    have hj4 : j < 4 := (List.getElem?_eq_some_iff.1 hj).1
    have hju : arr6[j]? = some u := by
     rw [List.getElem?_take] at hu
     split at hu
     ·simpa using hu
     ·cases hu
    refine ⟨u,?_,rfl,by rw [cell_of hg6]; rw [Nat.zero_add]; exact hju⟩
    have hd4 : ∃ z : Int,d = .int .i64 z := by
     have h4' : j = 0 ∨ j = 1 ∨ j = 2 ∨ j = 3 := by omega
     rcases h4' with rfl | rfl | rfl | rfl <;> (cases hj; exact ⟨_,rfl⟩)
    obtain ⟨z,rfl⟩ := hd4
    exact hr
   obtain ⟨u,hu1,hu2⟩ := run_loadAgg (t := 196) (ti := ⟨.array 4 3,4,32,[.int .i64 0,.int .i64 0,.int .i64 0,.int .i64 0],none,true⟩) (by kernel_rfl) rfl (cs := cellsOf (setsD on)) rfl href
   have hu3 : u = w4V on := wD_rel hu2
   refine wpOpIn_hand (v := u) (w' := w') h00 h01 (load_nd h03) ?_ ?_
   ·have hev : a'.eval (.tmp 6) = .pointer (some ⟨g6,0,none⟩) := q6
    simp only [execOp,h03,hev]
    simp [hu1]
   rw [h02]
   obtain ⟨k1,k2,k3,k4,k5⟩ := hkeep 17 u (by decide) (by decide) (by decide) (by decide)
   refine ⟨hsize,k1,k2,k3,k4,k5,.inl ⟨getD_keep (by decide) h4,?_⟩⟩
   rw [hP1]
   refine ⟨getD_keep (by decide) h50,hb,fun h => ?_,fun h => ?_,fun _ => ?_,fun h => ?_⟩
   ·rw [getD_put a' 17 _ 15 (by omega),if_neg (by decide)]; exact f0 ((getD_done h).resolve_left (by decide))
   ·rw [getD_put a' 17 _ 16 (by omega),if_neg (by decide)]; exact f1 ((getD_done h).resolve_left (by decide))
   ·rw [getD_put a' 17 _ 17 (by omega),if_pos rfl]; exact hu3
   ·rw [getD_put a' 17 _ 18 (by omega),if_neg (by decide)]; obtain ⟨k6,k7,k8⟩ := f3 ((getD_done h).resolve_left (by decide)); exact ⟨getD_set k6,getD_set k7,k8⟩
  · -- the plan is made
   obtain ⟨h4,hp⟩ := hph1 (by decide)
   rw [hP1] at hp
   obtain ⟨h50,hb,f0,f1,f2,f3⟩ := hp
   rw [d3] at hedge
   have g1 := f1 (hedge 1 (by simp))
   have g2 := f2 (hedge 2 (by simp))
   obtain ⟨o0,h00,h01,h02,h03⟩ := (opAt (ops := ops) (i := 3) (dst := some 18) (op := .call { callee := .value (.func 182),args := #[.tmp 16,.tmp 17],argTypes := #[151,196] }) (by rw [hops]; kernel_rfl)).at_
   refine wpOpIn_con (planned_con hx m th wr on) h00 h01 h03 rfl (vs := [a'.tmps.getD 16 undef,w4V on]) (R := R) (by simp only [List.map_toArray,List.map_cons,List.map_nil]; show #[a'.tmps.getD 16 undef,a'.tmps.getD 17 undef] = _; rw [g2]) (fun b o hr => Nat.lt_of_lt_of_le (hRW b o hr) hb.size) (fun g cs hg => Rel.keep (hkeepR w' hb) _ _ (hcap.glob g cs hg)) ⟨g1,⟨_,rfl,rfl,rfl,rfl,rfl,trivial⟩,trivial⟩ ?_
   intro v w2 R' hb2' hR1 hR2 hv
   rw [h02]
   obtain ⟨k1,k2,k3,k4,k5⟩ := hkeep 18 v (by decide) (by decide) (by decide) (by decide)
   refine ⟨hsize,k1,k2,k3,k4,k5,.inl ⟨getD_keep (by decide) h4,?_⟩⟩
   rw [hP1]
   have hbb : Below W.heap.size W w2 := hb.trans (hb2'.mono hb.size)
   refine ⟨getD_keep (by decide) h50,hbb,fun h => ?_,fun h => ?_,fun h => ?_,fun _ => ⟨getD_keep (by decide) (hedge 1 (by simp)),getD_keep (by decide) (hedge 2 (by simp)),R',fun b o hr => ⟨(hR2 b o hr).1,(hR2 b o hr).2.imp id fun h => Nat.le_trans hb.size h⟩,?_⟩⟩
   ·rw [getD_put a' 18 _ 15 (by omega),if_neg (by decide)]; exact f0 ((getD_done h).resolve_left (by decide))
   ·rw [getD_put a' 18 _ 16 (by omega),if_neg (by decide)]
    exact Rel.keep (Keeps.of_below (fun _ _ h => h) (fun b o hr => Nat.lt_of_lt_of_le (hRW b o hr) hb.size) hb2') _ _ g1
   ·rw [getD_put a' 18 _ 17 (by omega),if_neg (by decide)]; exact f2 ((getD_done h).resolve_left (by decide))
   ·rw [getD_put a' 18 _ 18 (by omega),if_pos rfl]; exact hv
  · -- it is yielded
   obtain ⟨h4,hp⟩ := hph1 (by decide)
   rw [hP1] at hp
   obtain ⟨h50,hb,f0,f1,f2,f3⟩ := hp
   rw [d4] at hedge
   have g0 := f0 (hedge 0 (by simp))
   obtain ⟨l1,l2,R',g3,g3'⟩ := f3 (hedge 3 (by simp))
   obtain ⟨o0,h00,h01,h02,h03⟩ := (opAt (ops := ops) (i := 4) (dst := some 19) (op := .call { callee := .value (.tmp 15),args := #[.tmp 18],argTypes := #[90] }) (by rw [hops]; kernel_rfl)).at_
   have hjy : J pre (fun b => N b ∨ (W.heap.size ≤ b ∧ b < w'.heap.size)) w' := hJ.new _ _ _ _ _ (by simpa using hmid.j) hb (fun b hb => hb)
   have htold : ToldP R (fun b => W.heap.size ≤ b ∧ b < w'.heap.size) (plannedF x on) #[a'.tmps.getD 18 undef] w' := ⟨_,R',rfl,fun b o hr => (g3 b o hr).2.imp id fun h => ⟨h,(g3 b o hr).1⟩,g3'⟩
   refine wpOpIn_yield h00 h01 h03 rfl g0 (vs := #[a'.tmps.getD 18 undef]) (by simp only [List.map_toArray,List.map_cons,List.map_nil]; rfl) (hy pre (plannedF x on) _ _ (fun b => W.heap.size ≤ b ∧ b < w'.heap.size) w' hjy ⟨post,by rw [← hpost]; simp⟩ (fun b h => .inr h) htold) ?_
   rintro e w2 ⟨rfl,hj2,hs2⟩
   refine ⟨_,rfl,?_⟩
   rw [h02]
   obtain ⟨k1,k2,k3,k4,k5⟩ := hkeep 19 (.bool true) (by decide) (by decide) (by decide) (by decide)
   refine ⟨hsize,k1,k2,k3,k4,k5,.inr ⟨getD_now (by omega),?_⟩⟩
   rw [hP2]
   have hNn : ∀ b,N b → Less (fun b => N b ∨ (W.heap.size ≤ b ∧ b < w'.heap.size)) (fun b => W.heap.size ≤ b ∧ b < w'.heap.size) b := fun b hb => ⟨.inl hb,fun h => by have := hmid.own b hb; omega⟩
   refine ⟨fun j hj => ?_,⟨N,hmid.le,hJ.new _ _ _ _ _ hj2 (Below.refl _ _) (fun b hb => .inl (hNn b hb)),Nat.le_trans hmid.size (Nat.le_trans hb.size hs2.size),fun b hb' => ?_,fun b hb' => Nat.lt_of_lt_of_le (hmid.own b hb') (Nat.le_trans hb.size hs2.size)⟩,get_now (by omega),fun h => ?_⟩
   ·have h4' : j = 0 ∨ j = 1 ∨ j = 2 ∨ j = 3 := by omega
    rcases h4' with rfl | rfl | rfl | rfl
    ·exact getD_keep (by decide) (hedge 0 (by simp))
    ·exact getD_keep (by decide) l1
    ·exact getD_keep (by decide) l2
    ·exact getD_keep (by decide) (hedge 3 (by simp))
   ·have hlt : b < W.heap.size := hb'.elim (hKEW b) fun h => hmid.own b (hmid.le b h)
    have h1 : w2.heap[b]? = w'.heap[b]? := hb'.elim (hs2.old b) fun h => hs2.own b (hNn b (hmid.le b h))
    rw [h1,hb.block b hlt]
    exact hmid.same b hb'
   ·rcases getD_done h with h | h
    ·cases h
    ·rw [h50] at h; cases h
  · -- the answer
   rcases hphase with ⟨h4,hp⟩ | ⟨h4,hp⟩
   ·rw [d5] at hedge
    rw [hedge 4 (by simp)] at h4
    cases h4
   ·rw [hP2] at hp
    obtain ⟨hall4,hm2,h19,_⟩ := hp
    obtain ⟨o0,h00,h01,h02,h03⟩ := (opAt (ops := ops) (i := 5) (dst := some 8) (op := .assign (.tmp 19)) (by rw [hops]; kernel_rfl)).at_
    refine wpOpIn_hand (v := .bool true) (w' := w') h00 h01 (fun c hc => by rw [h03] at hc; cases hc) (by
     have hev : a'.eval (.tmp 19) = .bool true := h19
     simp [execOp,h03,hev]) ?_
    rw [h02]
    obtain ⟨k1,k2,k3,k4,k5⟩ := hkeep 8 (.bool true) (by decide) (by decide) (by decide) (by decide)
    refine ⟨hsize,k1,k2,k3,k4,k5,.inr ⟨getD_keep (by decide) h4,?_⟩⟩
    rw [hP2]
    exact ⟨fun j hj => getD_keep (by omega) (hall4 j hj),hm2,by rw [getD_put a' 8 _ 19 (by omega),if_neg (by decide)]; exact h19,fun _ => get_now (by omega)⟩
end
end Go.Di

