/- Part 22: an interpreter over plain data for this code, with the proof that it says what the model does, and the contracts of the functions. No condition. -/
import Derived.Test.YtfkmodcjddfeiaaDoorDi21
set_option linter.unusedVariables false
set_option linter.unusedSimpArgs false
namespace Go.Di
open Proofs

/-! ### The works of a planned plan -/
theorem plannedDay_mem (x : FBook) (on : W4) (k : Nat) (l : List Work) (w : Work) : ∀ s,w ∈ plannedDay x on k l s ↔ w ∈ l ∨ ∃ j,j < s ∧ bitF (on.get j) k = true ∧ w = ⟨x.opn.getD k 0,(j : Int)⟩
 | 0 => by
  simp only [plannedDay]
  exact ⟨.inl,fun h => h.elim id fun ⟨j,hj,_⟩ => by omega⟩
 | s + 1 => by
  have ih := plannedDay_mem x on k l w s
  simp only [plannedDay]
  cases hb : bitF (on.get s) k with
  | true =>
   simp only [if_true,List.mem_append,List.mem_singleton,ih]
   constructor
   ·rintro ((h | ⟨j,hj,h⟩) | h)
    ·exact .inl h
    ·exact .inr ⟨j,by omega,h⟩
    ·exact .inr ⟨s,by omega,hb,h⟩
   ·rintro (h | ⟨j,hj,h1,h2⟩)
    ·exact .inl (.inl h)
    ·by_cases hjs : j = s
     ·subst hjs; exact .inr h2
     ·exact .inl (.inr ⟨j,by omega,h1,h2⟩)
  | false =>
   simp only [Bool.false_eq_true,if_false,ih]
   refine or_congr_right ⟨fun ⟨j,hj,h⟩ => ⟨j,by omega,h⟩,fun ⟨j,hj,h1,h2⟩ => ?_⟩
   by_cases hjs : j = s
   ·subst hjs; rw [hb] at h1; cases h1
   ·exact ⟨j,by omega,h1,h2⟩
theorem plannedTo_mem (x : FBook) (on : W4) (w : Work) : ∀ n,w ∈ plannedTo x on n ↔ ∃ k j,k < n ∧ j < x.feet.length ∧ bitF (on.get j) k = true ∧ w = ⟨x.opn.getD k 0,(j : Int)⟩
 | 0 => by
  simp only [plannedTo]
  exact ⟨fun h => (by cases h),fun ⟨k,_,hk,_⟩ => by omega⟩
 | n + 1 => by
  simp only [plannedTo,plannedDay_mem,plannedTo_mem x on w n]
  constructor
  ·rintro (⟨k,j,h1,h2⟩ | ⟨j,h1,h2⟩)
   ·exact ⟨k,j,by omega,h2⟩
   ·exact ⟨n,j,by omega,h1,h2⟩
  ·rintro ⟨k,j,h1,h2,h3⟩
   by_cases hk : k = n
   ·subst hk; exact .inr ⟨j,h2,h3⟩
   ·exact .inl ⟨k,j,by omega,h2,h3⟩
theorem planned_mem {x : FBook} {on : W4} {w : Work} : w ∈ plannedF x on ↔ ∃ k j,k < x.opn.length ∧ j < x.feet.length ∧ bitF (on.get j) k = true ∧ w = ⟨x.opn.getD k 0,(j : Int)⟩ := plannedTo_mem x on w _
theorem planned_ok {x : FBook} (hx : FIn x) (on : W4) : PlanOk x (plannedF x on) := by
 have hn := hx.n
 have hl := plannedTo_len x on x.opn.length
 refine ⟨Nat.le_trans hl (Nat.le_trans (Nat.mul_le_mul hx.opnl hn.2) (by decide)),fun w hw => ?_⟩
 obtain ⟨k,j,hk,hj,_,rfl⟩ := planned_mem.1 hw
 exact ⟨⟨by show (0 : Int) ≤ (j : Int); omega,by show (j : Int) < _; omega⟩,hx.opn _ (mem_getD 0 hk)⟩

/-! ### keeps -/
theorem keeps_region (x : FBook) (m : Mp) (th : List (List Int)) (wr : List Int) (s : Nat) (hs : s < 4) (set : Int) : LF 36 (Code.at [1,1,0] (body Tryd.f201)) (keeps_R2 x m th wr s set) .normal (keeps_RS2 x m th wr s set) := by
 have h4 : s = 0 ∨ s = 1 ∨ s = 2 ∨ s = 3 := by omega
 rcases h4 with rfl | rfl | rfl | rfl
 ·exact joinF (keeps_r0 x m th wr set) ⟨by omega,trivial⟩ rfl
 ·exact joinF (keeps_r1 x m th wr set) ⟨by omega,trivial⟩ rfl
 ·exact joinF (keeps_r2 x m th wr set) ⟨by omega,trivial⟩ rfl
 ·exact joinF (keeps_r3 x m th wr set) ⟨by omega,trivial⟩ rfl
theorem keeps_con {x : FBook} {th : List (List Int)} {wr : List Int} (hx : FIn x) (hk : KnOk x th wr) (m : Mp) {s : Nat} (hs : s < x.feet.length) (set : Int) : CF 201 [fbkD x m th wr,.int .i64 (s : Int),.int .i64 set] (.bool (keepsF x th wr s set)) := by
 have hn := hx.n
 have hd := hx.days
 have hreg := keeps_region x m th wr s (by omega) set
 have hp := planned_con hx m th wr (zeroW.set s set)
 have hle : ∀ d : Nat,(d : Int) ≤ x.chain.days → CF 143 [fbkD x m th wr,.sl false .work (plannedF x (zeroW.set s set)),.int .i64 (s : Int),.int .i64 (d : Int)] (.int .i64 (fleastF x th wr (plannedF x (zeroW.set s set)) s d)) := fun d hdd => fleast_con hx hk m (planned_ok hx _) s d ⟨by omega,by omega⟩ ⟨by omega,hdd⟩
 have hcode : Code.at [1,1,1,1,0,1] (body Tryd.f201) = .block 0 (.loop (Code.at [1,1,1,1,0,1,0,0] (body Tryd.f201))) := by kernel_rfl
 have hon : ∀ d : Nat,(d : Int) ≤ x.chain.days → (!(decide (fleastF x th wr (plannedF x (zeroW.set s set)) s d < x.chain.rule))) = true → ∃ dec orc lorc ks ps L1,runK (MF 36) dec orc lorc (Code.at [1,1,1,1,0,1,0,0] (body Tryd.f201)) (keeps_S0 x m th wr s set (plannedF x (zeroW.set s set)) d) ks = some (ps,.normal,L1) ∧ allP ps ∧ L1 = keeps_S0 x m th wr s set (plannedF x (zeroW.set s set)) (d + 1) := fun d hdd hb =>
  ⟨_,_,_,_,_,_,keeps_0_on x m th wr s set _ d _,⟨decide_eq_true (by omega),hle d hdd,by simpa using hb,i64_of (by omega) (by omega),trivial⟩,rfl⟩
 unfold keepsF
 rcases all_first (fun d => !(decide (fleastF x th wr (plannedF x (zeroW.set s set)) s d < x.chain.rule))) (x.chain.days + 1).toNat with ⟨h1,h2⟩ | ⟨h1,k,hk,hpk,hb⟩
 ·rw [h1]
  refine contract_of_path (GF 36) keeps_fn (keeps_yes x m th wr s set _ (x.chain.days + 1).toNat) ⟨fnever_con,hreg,by omega,hp,i64_of (by omega) (by omega),?_,trivial⟩
  exact LF.each (id := 0) hcode _ (fun d => keeps_S0 x m th wr s set (plannedF x (zeroW.set s set)) d) (fun d hdd => hon d (by omega) (h2 d hdd)) ⟨_,_,_,_,_,_,_,keeps_0_end x m th wr s set _ _,⟨decide_eq_false (by omega),trivial⟩,.inl ⟨rfl,rfl⟩,rfl⟩
 ·rw [h1]
  refine contract_of_path (GF 36) keeps_fn (keeps_no x m th wr s set _ k (fleastF x th wr (plannedF x (zeroW.set s set)) s k)) ⟨fnever_con,hreg,by omega,hp,i64_of (by omega) (by omega),?_,trivial⟩
  exact LF.each (id := 0) hcode k (fun d => keeps_S0 x m th wr s set (plannedF x (zeroW.set s set)) d) (fun d hdd => hon d (by omega) (hb d hdd)) ⟨_,_,_,_,_,_,_,keeps_0_hit x m th wr s set _ k _,⟨decide_eq_true (by omega),hle k (by omega),by simpa using hpk,trivial⟩,.inr ⟨rfl,rfl⟩,rfl⟩

/-! ### changes -/
theorem pow_cast {n : Nat} (h : n ≤ 5) : (1 : Int) * (2 : Int) ^ Min.min (Int.toNat (n : Int)) 64 = ((2 ^ n : Nat) : Int) := by
 have h5 : n = 0 ∨ n = 1 ∨ n = 2 ∨ n = 3 ∨ n = 4 ∨ n = 5 := by omega
 rcases h5 with rfl | rfl | rfl | rfl | rfl | rfl <;> rfl
theorem pow_le {n : Nat} (h : n ≤ 5) : 2 ^ n ≤ 32 := Nat.pow_le_pow_right (by decide) h
def chS (x : FBook) (m : Mp) (th : List (List Int)) (wr : List Int) (s i : Nat) : List Int → List (Key × Val)
 | [] => chA_S0 x m th wr s i
 | y :: r => chB_S0 x m th wr s i y r
theorem changesTo_len (x : FBook) (th : List (List Int)) (wr : List Int) (s : Nat) : ∀ k,(changesTo x th wr s k).length ≤ k
 | 0 => Nat.le_refl _
 | k + 1 => by
  have := changesTo_len x th wr s k
  simp only [changesTo]
  split
  ·omega
  ·split
   ·rw [List.length_append,List.length_singleton]; omega
   ·omega
theorem any_getD (p : Int → Bool) (l : List Int) : (l.any p = true ∧ ∃ j,j < l.length ∧ p (l.getD j 0) = true ∧ ∀ i < j,p (l.getD i 0) = false) ∨ (l.any p = false ∧ ∀ j < l.length,p (l.getD j 0) = false) := by
 rcases find_first (fun j => p (l.getD j 0)) l.length with ⟨k,h1,h2,h3⟩ | h
 ·exact .inl ⟨List.any_eq_true.2 ⟨_,mem_getD 0 h1,h2⟩,k,h1,h2,h3⟩
 ·refine .inr ⟨List.any_eq_false.2 fun z hz => ?_,h⟩
  obtain ⟨j,hj,rfl⟩ := mem_iff_getD.1 hz
  simpa using h j hj
theorem changes_con {x : FBook} {th : List (List Int)} {wr : List Int} (hx : FIn x) (hk : KnOk x th wr) (m : Mp) {s : Nat} (hs : s < x.feet.length) : CF 180 [fbkD x m th wr,.int .i64 (s : Int)] (.sl false .int (changesF x th wr s)) := by
 have ho := hx.opnl
 have hc := pow_cast ho
 have hp := pow_le ho
 have hN : inI64 ((1 : Int) * (2 : Int) ^ Min.min (Int.toNat (x.opn.length : Int)) 64) := by rw [hc]; revert hp; generalize 2 ^ x.opn.length = N; intro hp; exact i64_of (by omega) (by omega)
 have hkeep := fun i : Nat => keeps_con hx hk m hs (i : Int)
 have hcode2 : Code.at [1,0,1,1,0,1,0,0,1,1,0,0,1,0,1] (body Tryd.f180) = .block 2 (.loop (Code.at [1,0,1,1,0,1,0,0,1,1,0,0,1,0,1,0,0] (body Tryd.f180))) := by kernel_rfl
 have hloop : LF 39 (Code.at [1,0,1,1,0,1] (body Tryd.f180)) (chS x m th wr s 0 (changesTo x th wr s 0)) .normal (chS x m th wr s (2 ^ x.opn.length) (changesF x th wr s)) := by
  refine LF.each (id := 0) (c := Code.at [1,0,1,1,0,1,0,0] (body Tryd.f180)) (by kernel_rfl) (2 ^ x.opn.length) (fun i => chS x m th wr s i (changesTo x th wr s i)) (fun i hi => ?_) ?_
  ·have hlt : decide ((i : Int) < (1 : Int) * (2 : Int) ^ Min.min (Int.toNat (x.opn.length : Int)) 64) = true := by rw [hc]; exact lt_true hi
   have hi64 : inI64 ((i : Int) + 1) := i64_of (by omega) (by omega)
   have hlen := changesTo_len x th wr s i
   have he : changesTo x th wr s (i + 1) = if ((changesTo x th wr s i).any fun l => andF i l == l) = true then changesTo x th wr s i else if keepsF x th wr s i = true then changesTo x th wr s i ++ [(i : Int)] else changesTo x th wr s i := rfl
   simp only [he]
   cases hl : changesTo x th wr s i with
   | nil =>
    have hin : LF 39 (Code.at [1,0,1,1,0,1,0,0,1,1,0,0,1,0,1] (body Tryd.f180)) (chA_S2 x m th wr s i) .normal (chA_S2 x m th wr s i) :=
     LF.each (id := 2) hcode2 0 (fun _ => chA_S2 x m th wr s i) (fun j hj => by omega) ⟨_,_,_,_,_,_,_,chA_2_end x m th wr s i,⟨rfl,trivial⟩,.inl ⟨rfl,rfl⟩,rfl⟩
    simp only [List.any_nil,Bool.false_eq_true,if_false]
    cases hb : keepsF x th wr s i with
    | true =>
     have := hkeep i
     rw [hb] at this
     exact ⟨_,_,_,_,_,_,chA_0_yes x m th wr s i true,⟨hlt,hin,this,rfl,by omega,hi64,trivial⟩,rfl⟩
    | false =>
     have := hkeep i
     rw [hb] at this
     exact ⟨_,_,_,_,_,_,chA_0_no x m th wr s i false,⟨hlt,hin,this,rfl,hi64,trivial⟩,rfl⟩
   | cons y r =>
    rw [hl] at hlen
    have hj64 : ∀ j : Nat,j < (y :: r).length → inI64 ((j : Int) + 1) := fun j hj => i64_of (by omega) (by omega)
    have hon : ∀ j,j < (y :: r).length → (andF i ((y :: r).getD j 0) == (y :: r).getD j 0) = false → ∃ dec orc lorc ks ps L1,runK (MF 39) dec orc lorc (Code.at [1,0,1,1,0,1,0,0,1,1,0,0,1,0,1,0,0] (body Tryd.f180)) (chB_S2 x m th wr s i j y r) ks = some (ps,.normal,L1) ∧ allP ps ∧ L1 = chB_S2 x m th wr s i (j + 1) y r := fun j hj hb =>
     ⟨_,_,_,_,_,_,chB_2_on x m th wr s i j y r,⟨lt_true hj,rfl,⟨by omega,by omega⟩,by omega,hb,hj64 j hj,trivial⟩,rfl⟩
    rcases any_getD (fun l => andF i l == l) (y :: r) with ⟨h1,j,h2,h3,h4⟩ | ⟨h1,h2⟩
    ·rw [h1,if_pos rfl]
     have hin : LF 39 (Code.at [1,0,1,1,0,1,0,0,1,1,0,0,1,0,1] (body Tryd.f180)) (chB_S2 x m th wr s i 0 y r) (.exit 1) (chB_S2 x m th wr s i j y r) :=
      LF.leaves (id := 2) (by decide) hcode2 j (fun j => chB_S2 x m th wr s i j y r) (fun j' hj' => hon j' (by omega) (h4 j' hj')) ⟨_,_,_,_,_,_,chB_2_hit x m th wr s i j y r,⟨lt_true h2,rfl,⟨by omega,by omega⟩,by omega,h3,trivial⟩,rfl⟩
     exact ⟨_,_,_,_,_,_,chB_0_skip x m th wr s i y r j,⟨hlt,rfl,hin,hi64,trivial⟩,rfl⟩
    ·rw [h1]
     simp only [Bool.false_eq_true,if_false]
     have hin : LF 39 (Code.at [1,0,1,1,0,1,0,0,1,1,0,0,1,0,1] (body Tryd.f180)) (chB_S2 x m th wr s i 0 y r) .normal (chB_S2 x m th wr s i (y :: r).length y r) :=
      LF.each (id := 2) hcode2 (y :: r).length (fun j => chB_S2 x m th wr s i j y r) (fun j' hj' => hon j' hj' (h2 j' hj')) ⟨_,_,_,_,_,_,_,chB_2_end x m th wr s i _ y r,⟨lt_false,trivial⟩,.inl ⟨rfl,rfl⟩,rfl⟩
     cases hb : keepsF x th wr s i with
     | true =>
      have := hkeep i
      rw [hb] at this
      exact ⟨_,_,_,_,_,_,chB_0_yes x m th wr s i y r _ true,⟨hlt,rfl,hin,this,rfl,rfl,by rw [List.length_append,List.length_singleton]; omega,hi64,trivial⟩,rfl⟩
     | false =>
      have := hkeep i
      rw [hb] at this
      exact ⟨_,_,_,_,_,_,chB_0_no x m th wr s i y r _ false,⟨hlt,rfl,hin,this,rfl,hi64,trivial⟩,rfl⟩
  ·have hlt : decide ((((2 ^ x.opn.length : Nat)) : Int) < (1 : Int) * (2 : Int) ^ Min.min (Int.toNat (x.opn.length : Int)) 64) = false := by rw [hc]; exact lt_false
   rw [show changesF x th wr s = changesTo x th wr s (2 ^ x.opn.length) from rfl]
   cases changesTo x th wr s (2 ^ x.opn.length) with
   | nil => exact ⟨_,_,_,_,_,_,_,chA_0_end x m th wr s _,⟨hlt,trivial⟩,.inl ⟨rfl,rfl⟩,rfl⟩
   | cons y r => exact ⟨_,_,_,_,_,_,_,chB_0_end x m th wr s _ y r,⟨hlt,trivial⟩,.inl ⟨rfl,rfl⟩,rfl⟩
 cases hl : changesF x th wr s with
 | nil =>
  rw [hl] at hloop
  exact Contract.weaken (contract_of_path (GF 39) chA_fn (chA_none x m th wr s (2 ^ x.opn.length)) ⟨⟨by omega,hN⟩,hloop,trivial⟩)
 | cons y r =>
  rw [hl] at hloop
  exact contract_of_path (GF 39) chA_fn (chA_some x m th wr s (2 ^ x.opn.length) y r) ⟨⟨by omega,hN⟩,hloop,rfl,trivial⟩
end Go.Di

namespace Go.Di
open Proofs

/-! ### The order of plans -/
theorem cmp_drop : ∀ (k : Nat) (p q : List Work),k ≤ p.length → (∀ i < k,i < q.length ∧ compareF (p.getD i work0) (q.getD i work0) = 0) → cmpPlans p q = cmpPlans (p.drop k) (q.drop k)
 | 0,p,q,_,_ => by simp
 | k + 1,[],q,h,_ => by simp at h
 | k + 1,a :: p,[],_,h => by have := (h 0 (by omega)).1; simp at this
 | k + 1,a :: p,b :: q,h,hc => by
  have h0 : compareF a b = 0 := (hc 0 (by omega)).2
  simp only [cmpPlans,List.drop_succ_cons]
  rw [if_neg (by omega)]
  exact cmp_drop k p q (by simpa using h) fun i hi => by
   have := hc (i + 1) (by omega)
   simpa using this
theorem drop_cons (l : List Work) (k : Nat) (h : k < l.length) : l.drop k = l.getD k work0 :: l.drop (k + 1) := drop_getD l k work0 h
/-- Works whose numbers are small. -/
def Num (l : List Work) : Prop := l.length ≤ 1000000 ∧ ∀ w ∈ l,-1000000 ≤ w.d ∧ w.d ≤ 1000000 ∧ -1000000 ≤ w.s ∧ w.s ≤ 1000000
theorem PlanOk.num {x : FBook} (hx : FIn x) {plan : List Work} (h : PlanOk x plan) : Num plan := by
 have hn := hx.n
 exact ⟨by have := h.1; omega,fun w hw => by have h1 := (h.2 w hw).s; have h2 := (h.2 w hw).d; omega⟩
theorem cmpW_con {p q : List Work} (hp : Num p) (hq : Num q) : CF 200 [.sl false .work p,.sl false .work q,.fn 177 [] []] (.int .i64 (cmpPlans p q)) := by
 have hpl := hp.1
 have hql := hq.1
 have hc : ∀ i,i < p.length → i < q.length → CF 177 [wkD (p.getD i work0),wkD (q.getD i work0)] (.int .i64 (compareF (p.getD i work0) (q.getD i work0))) := fun i h1 h2 => by
  have a1 := hp.2 _ (mem_getD work0 h1)
  have a2 := hq.2 _ (mem_getD work0 h2)
  exact fcompare_con _ _ (i64_of (by omega) (by omega)) (i64_of (by omega) (by omega))
 have hcode : Code.at [1,0,1] (body Tryd.f200) = .block 0 (.loop (Code.at [1,0,1,0,0] (body Tryd.f200))) := by kernel_rfl
 have hon : ∀ i,i < p.length → i < q.length ∧ compareF (p.getD i work0) (q.getD i work0) = 0 → ∃ dec orc lorc ks ps L1,runK (MF 39) dec orc lorc (Code.at [1,0,1,0,0] (body Tryd.f200)) (cmpW_S0 p q i) ks = some (ps,.normal,L1) ∧ allP ps ∧ L1 = cmpW_S0 p q (i + 1) := fun i h1 ⟨h2,h3⟩ => by
  have h4 := hc i h1 h2
  rw [h3] at h4
  exact ⟨_,_,_,_,_,_,cmpW_0_on p q i 0,⟨lt_true h1,⟨by omega,by omega⟩,by omega,decide_eq_false (by omega),⟨by omega,by omega⟩,by omega,by omega,by omega,h4,rfl,i64_of (by omega) (by omega),trivial⟩,rfl⟩
 rcases find_first (fun i => decide (i ≥ q.length) || (compareF (p.getD i work0) (q.getD i work0) != 0)) p.length with ⟨k,h1,h2,h3⟩ | h
 ·have hbefore : ∀ i < k,i < q.length ∧ compareF (p.getD i work0) (q.getD i work0) = 0 := fun i hi => by
   have := h3 i hi
   simpa using this
  rw [cmp_drop k p q (by omega) hbefore]
  by_cases hk : k < q.length
  ·have hne : (compareF (p.getD k work0) (q.getD k work0) != 0) = true := by
    rw [show decide (k ≥ q.length) = false from decide_eq_false (by omega)] at h2
    simpa using h2
   rw [drop_cons p k h1,drop_cons q k hk]
   simp only [cmpPlans]
   rw [if_pos (by simpa using hne)]
   refine contract_of_path (GF 39) cmpW_fn (cmpW_ne p q k _) ⟨?_,trivial⟩
   exact LF.each (id := 0) hcode k (fun i => cmpW_S0 p q i) (fun i hi => hon i (by omega) (hbefore i hi)) ⟨_,_,_,_,_,_,_,cmpW_0_ne p q k _,⟨lt_true h1,⟨by omega,by omega⟩,by omega,decide_eq_false (by omega),⟨by omega,by omega⟩,by omega,by omega,by omega,hc k h1 hk,hne,trivial⟩,.inr ⟨rfl,rfl⟩,rfl⟩
  ·rw [drop_cons p k h1,List.drop_eq_nil_of_le (by omega : q.length ≤ k)]
   simp only [cmpPlans]
   refine contract_of_path (GF 39) cmpW_fn (cmpW_long p q k) ⟨?_,trivial⟩
   exact LF.each (id := 0) hcode k (fun i => cmpW_S0 p q i) (fun i hi => hon i (by omega) (hbefore i hi)) ⟨_,_,_,_,_,_,_,cmpW_0_long p q k,⟨lt_true h1,⟨by omega,by omega⟩,by omega,decide_eq_true (by omega),trivial⟩,.inr ⟨rfl,rfl⟩,rfl⟩
 ·have hall : ∀ i < p.length,i < q.length ∧ compareF (p.getD i work0) (q.getD i work0) = 0 := fun i hi => by
   have := h i hi
   simpa using this
  rw [cmp_drop p.length p q (Nat.le_refl _) hall,List.drop_length]
  have hloop : LF 39 (Code.at [1,0,1] (body Tryd.f200)) (cmpW_S0 p q 0) .normal (cmpW_S0 p q p.length) :=
   LF.each (id := 0) hcode p.length (fun i => cmpW_S0 p q i) (fun i hi => hon i hi (hall i hi)) ⟨_,_,_,_,_,_,_,cmpW_0_end p q _,⟨lt_false,trivial⟩,.inl ⟨rfl,rfl⟩,rfl⟩
  by_cases hk : p.length < q.length
  ·rw [drop_cons q _ hk]
   exact contract_of_path (GF 39) cmpW_fn (cmpW_less p q p.length) ⟨hloop,decide_eq_true (by omega),trivial⟩
  ·rw [List.drop_eq_nil_of_le (by omega : q.length ≤ p.length)]
   exact contract_of_path (GF 39) cmpW_fn (cmpW_same p q p.length) ⟨hloop,decide_eq_false (by omega),trivial⟩
theorem fewest_con (x : FBook) (m : Mp) (th : List (List Int)) (wr : List Int) : CF 176 [fbkD x m th wr] (.agg [.fn 199 [] [cellsOf (fbkD x m th wr)]]) := contract_of_path (GF 5) fewest_fn (fewest_all x m th wr) trivial
theorem plans_con (x : FBook) (m : Mp) (th : List (List Int)) (wr : List Int) : CF 149 [fbkD x m th wr] (.fn 179 [] [cellsOf (fbkD x m th wr)]) := contract_of_path (GF 4) fplans_fn (fplans_all x m th wr) trivial
theorem better_con {x : FBook} (hx : FIn x) (m : Mp) (th : List (List Int)) (wr : List Int) {p q : List Work} (hp : PlanOk x p) (hq : PlanOk x q) : CF 199 [.sl false .work p,.sl false .work q,.ref (cellsOf (fbkD x m th wr)) 0] (.bool (betterWF x p q)) := by
 have c1 := feet_con hx m th wr hp
 have c2 := feet_con hx m th wr hq
 have c3 := cmpW_con (hp.num hx) (hq.num hx)
 unfold betterWF
 by_cases h1 : feetF x p < feetF x q
 ·have h1' : decide (feetF x p < feetF x q) = true := decide_eq_true h1
  rw [h1']
  refine contract_of_path (GF 28) fewest1_fn (fewest1_lt x m th wr p q (feetF x p) (feetF x q) 0) ?_
  repeat (first | exact trivial | refine ⟨by first | exact c1 | exact c2 | exact h1',?_⟩)
 ·have h1' : decide (feetF x p < feetF x q) = false := decide_eq_false h1
  rw [h1']
  by_cases h2 : feetF x p = feetF x q
  ·have h2' : (feetF x p == feetF x q) = true := beq_iff_eq.2 h2
   rw [decide_eq_true h2]
   refine contract_of_path (GF 28) fewest1_fn (fewest1_eq x m th wr p q (feetF x p) (feetF x q) (cmpPlans p q)) ?_
   repeat (first | exact trivial | refine ⟨by first | exact c1 | exact c2 | exact c3 | exact h1' | exact h2',?_⟩)
  ·have h2' : (feetF x p == feetF x q) = false := beq_eq_false_iff_ne.2 h2
   rw [decide_eq_false h2]
   refine contract_of_path (GF 28) fewest1_fn (fewest1_gt x m th wr p q (feetF x p) (feetF x q) 0) ?_
   repeat (first | exact trivial | refine ⟨by first | exact c1 | exact c2 | exact h1' | exact h2',?_⟩)
end Go.Di

namespace Go.Di
open Proofs
/-- The configuration of a piece. -/
noncomputable abbrev MFF (n : Nat) (ke no : Nat → Prop) (w1 : World) (fx : List Nat) (fv : Nat → Value) : Cfg := mkF PRG (lookN typesF) globF n ke no w1 fx fv
def gS (x : FBook) (m : Mp) (th : List (List Int)) (wr : List Int) (al : List (List Int)) (on : W4) (s : Int) : List (Key × Val) :=
 [(.tmp 1,.d (.int .i64 s)),(.tmp 2,.d (.ref [.sl false (.list .int) al] 0)),(.tmp 4,.d (.ref (cellsOf (fbkD x m th wr)) 0)),(.tmp 6,.d (.ptr 6 0)),(.box 6,.bx (some ⟨false,cellsOf (setsD on)⟩))]
def gK : List Key := [.tmp 1,.tmp 2,.tmp 4,.tmp 6,.box 6]
def gL (x : FBook) (m : Mp) (th : List (List Int)) (wr : List Int) (al : List (List Int)) (on : W4) (s : Int) (row : List Int) (j : Nat) : List (Key × Val) :=
 gS x m th wr al on s ++ [(.tmp 23,.d (.sl false .int row)),(.tmp 24,.d (.int .i64 row.length)),(.tmp 25,.d (.int .i64 j))]
def gLK : List Key := gK ++ [.tmp 23,.tmp 24,.tmp 25]
def hS (x : FBook) (m : Mp) (th : List (List Int)) (wr : List Int) : List (Key × Val) := [(.tmp 0,.d .undef),(.tmp 1,.d (.ref (cellsOf (fbkD x m th wr)) 0))]
def hS1 (x : FBook) (m : Mp) (th : List (List Int)) (wr : List Int) (c : D) : List (Key × Val) := [(.tmp 1,.d (.ref (cellsOf (fbkD x m th wr)) 0)),(.tmp 3,.d (.ptr 3 0)),(.box 3,.bx (some ⟨false,[c]⟩))]
def hK1 : List Key := [.tmp 1,.tmp 3,.box 3]
def hL (x : FBook) (m : Mp) (th : List (List Int)) (wr : List Int) (i : Nat) : List (List Int) → List (Key × Val)
 | [] => hS1 x m th wr .nil ++ [(.tmp 9,.d (.int .i64 x.feet.length)),(.tmp 10,.d (.int .i64 i))]
 | y :: r => hS1 x m th wr (.own 18 (y :: r).length) ++ [(.tmp 9,.d (.int .i64 x.feet.length)),(.tmp 10,.d (.int .i64 i)),(.obj 18,.ob (some ⟨.list .int,y :: r⟩))]
def hLK : List Key := hK1 ++ [.tmp 9,.tmp 10]
def hLK1 : List Key := hLK ++ [.obj 18]
theorem g_0 (x : FBook) (m : Mp) (th : List (List Int)) (wr : List Int) (al : List (List Int)) (on : W4) (s : Int) (ke no : Nat → Prop) (w1 : World) (fv : Nat → Value) :
  runK (MFF 39 ke no w1 [2,3,4,5] fv) [] [] [] (Code.at [0] (body Tryd.f181)) (entry 0 [setsD on,.int .i64 s,.ref [.sl false (.list .int) al] 0,.undef,.ref (cellsOf (fbkD x m th wr)) 0]) gK =
   some ([],.normal,gS x m th wr al on s) := by kernel_rfl
theorem g_1 (x : FBook) (m : Mp) (th : List (List Int)) (wr : List Int) (al : List (List Int)) (on : W4) (s : Int) (ke no : Nat → Prop) (w1 : World) (fv : Nat → Value) :
  runK (MFF 39 ke no w1 [2,3,4,5,6] fv) [] [] [] (Code.at [1,0,0] (body Tryd.f181)) (gS x m th wr al on s) (gK ++ [.tmp 14]) =
   some ([],.normal,gS x m th wr al on s ++ [(.tmp 14,.d (.bool (s == (al.length : Int))))]) := by kernel_rfl
theorem g_3 (x : FBook) (m : Mp) (th : List (List Int)) (wr : List Int) (al : List (List Int)) (on : W4) (s : Int) (ke no : Nat → Prop) (w1 : World) (fv : Nat → Value) :
  runK (MFF 39 ke no w1 [2,3,4,5,6] fv) [] [] [] (Code.at [1,1,0,0] (body Tryd.f181)) (gS x m th wr al on s) gLK =
   some ([(0 : Int) ≤ s ∧ s < (List.length al : Int)],.normal,gL x m th wr al on s (al.getD s.toNat []) 0) := by kernel_rfl
theorem g_4 (x : FBook) (m : Mp) (th : List (List Int)) (wr : List Int) (al : List (List Int)) (on : W4) (s : Int) (row : List Int) (j : Nat) (ke no : Nat → Prop) (w1 : World) (fv : Nat → Value) :
  runK (MFF 39 ke no w1 [2,3,4,5,6] fv) [] [] [] (Code.at [1,1,0,1,0,0,0] (body Tryd.f181)) (gL x m th wr al on s row j) (gLK ++ [.tmp 26]) =
   some ([],.normal,gL x m th wr al on s row j ++ [(.tmp 26,.d (.bool (decide ((j : Int) < (row.length : Int)))))]) := by kernel_rfl
theorem g_5 (x : FBook) (m : Mp) (th : List (List Int)) (wr : List Int) (al : List (List Int)) (on : W4) (s : Int) (row : List Int) (j : Nat) (ke no : Nat → Prop) (w1 : World) (fv : Nat → Value) :
  runK (MFF 39 ke no w1 [2,3,4,5,6] fv) [] [] [] (Code.at [1,1,0,1,0,0,1,1,0,0,0] (body Tryd.f181)) (gL x m th wr al on s row j) (gLK ++ [.tmp 10]) =
   some ([(0 : Int) ≤ (j : Int) ∧ (j : Int) < (List.length row : Int),0 + 1 ≤ 1],.normal,gL x m th wr al on s row j ++ [(.tmp 10,.d (.int .i64 (row.getD j 0)))]) := by kernel_rfl
theorem g_6_0 (x : FBook) (m : Mp) (th : List (List Int)) (wr : List Int) (al : List (List Int)) (on : W4) (row : List Int) (j : Nat) (z : Int) (ke no : Nat → Prop) (w1 : World) (fv : Nat → Value) :
  runK (MFF 39 ke no w1 [2,3,4,5,6] fv) [] [] [] (Code.at [1,1,0,1,0,0,1,1,0,0,1,0] (body Tryd.f181)) (gL x m th wr al on 0 row j ++ [(.tmp 10,.d (.int .i64 z))]) gLK =
   some ([(0 : Int) ≤ (0 : Int) ∧ (0 : Int) < (Nat.cast : Nat → Int) 4],.normal,gL x m th wr al (on.set 0 z) 0 row j) := by kernel_rfl
theorem g_6_1 (x : FBook) (m : Mp) (th : List (List Int)) (wr : List Int) (al : List (List Int)) (on : W4) (row : List Int) (j : Nat) (z : Int) (ke no : Nat → Prop) (w1 : World) (fv : Nat → Value) :
  runK (MFF 39 ke no w1 [2,3,4,5,6] fv) [] [] [] (Code.at [1,1,0,1,0,0,1,1,0,0,1,0] (body Tryd.f181)) (gL x m th wr al on 1 row j ++ [(.tmp 10,.d (.int .i64 z))]) gLK =
   some ([(0 : Int) ≤ (1 : Int) ∧ (1 : Int) < (Nat.cast : Nat → Int) 4],.normal,gL x m th wr al (on.set 1 z) 1 row j) := by kernel_rfl
theorem g_6_2 (x : FBook) (m : Mp) (th : List (List Int)) (wr : List Int) (al : List (List Int)) (on : W4) (row : List Int) (j : Nat) (z : Int) (ke no : Nat → Prop) (w1 : World) (fv : Nat → Value) :
  runK (MFF 39 ke no w1 [2,3,4,5,6] fv) [] [] [] (Code.at [1,1,0,1,0,0,1,1,0,0,1,0] (body Tryd.f181)) (gL x m th wr al on 2 row j ++ [(.tmp 10,.d (.int .i64 z))]) gLK =
   some ([(0 : Int) ≤ (2 : Int) ∧ (2 : Int) < (Nat.cast : Nat → Int) 4],.normal,gL x m th wr al (on.set 2 z) 2 row j) := by kernel_rfl
theorem g_6_3 (x : FBook) (m : Mp) (th : List (List Int)) (wr : List Int) (al : List (List Int)) (on : W4) (row : List Int) (j : Nat) (z : Int) (ke no : Nat → Prop) (w1 : World) (fv : Nat → Value) :
  runK (MFF 39 ke no w1 [2,3,4,5,6] fv) [] [] [] (Code.at [1,1,0,1,0,0,1,1,0,0,1,0] (body Tryd.f181)) (gL x m th wr al on 3 row j ++ [(.tmp 10,.d (.int .i64 z))]) gLK =
   some ([(0 : Int) ≤ (3 : Int) ∧ (3 : Int) < (Nat.cast : Nat → Int) 4],.normal,gL x m th wr al (on.set 3 z) 3 row j) := by kernel_rfl
theorem g_7a (x : FBook) (m : Mp) (th : List (List Int)) (wr : List Int) (al : List (List Int)) (on : W4) (s : Int) (row : List Int) (j : Nat) (ke no : Nat → Prop) (w1 : World) (fv : Nat → Value) :
  runLK (MFF 39 ke no w1 [2,3,4,5,6,32] fv) [] [] (rops (Code.at [1,1,0,1,0,0,1,1,0,0,1,1,0] (body Tryd.f181))) [(rops (Code.at [1,1,0,1,0,0,1,1,0,0,1,1,0] (body Tryd.f181)))[1],(rops (Code.at [1,1,0,1,0,0,1,1,0,0,1,1,0] (body Tryd.f181)))[2],(rops (Code.at [1,1,0,1,0,0,1,1,0,0,1,1,0] (body Tryd.f181)))[3]] (gL x m th wr al on s row j) (gLK ++ [.tmp 33,.tmp 35]) =
   some ([0 + 4 ≤ 4,inI64 (s + (1 : Int))],gL x m th wr al on s row j ++ [(.tmp 33,.d (setsD on)),(.tmp 35,.d (.int .i64 (s + 1)))]) := by kernel_rfl
theorem g_7b (x : FBook) (m : Mp) (th : List (List Int)) (wr : List Int) (al : List (List Int)) (on : W4) (s : Int) (row : List Int) (j : Nat) (ke no : Nat → Prop) (w1 : World) (fv : Nat → Value) :
  runLK (MFF 39 ke no w1 [2,3,4,5,6] fv) [] [] (rops (Code.at [1,1,0,1,0,0,1,1,0,0,1,1,0] (body Tryd.f181))) [(rops (Code.at [1,1,0,1,0,0,1,1,0,0,1,1,0] (body Tryd.f181)))[5]] ((.tmp 36,.d (.bool true)) :: (gL x m th wr al on s row j ++ [(.tmp 33,.d (setsD on)),(.tmp 35,.d (.int .i64 (s + 1)))])) (gLK ++ [.tmp 37]) =
   some ([],gL x m th wr al on s row j ++ [(.tmp 37,.d (.bool false))]) := by kernel_rfl
theorem g_9 (x : FBook) (m : Mp) (th : List (List Int)) (wr : List Int) (al : List (List Int)) (on : W4) (s : Int) (row : List Int) (j : Nat) (ke no : Nat → Prop) (w1 : World) (fv : Nat → Value) :
  runK (MFF 39 ke no w1 [2,3,4,5,6] fv) [] [] [] (Code.at [1,1,0,1,0,0,1,1,1] (body Tryd.f181)) (gL x m th wr al on s row j) gLK =
   some ([inI64 ((j : Int) + (1 : Int))],.normal,gL x m th wr al on s row (j + 1)) := by kernel_rfl
theorem g_10 (x : FBook) (m : Mp) (th : List (List Int)) (wr : List Int) (al : List (List Int)) (on : W4) (s : Int) (ke no : Nat → Prop) (w1 : World) (fv : Nat → Value) :
  runK (MFF 39 ke no w1 [2,3,4,5,6] fv) [] [] [] (Code.at [1,1,1,0] (body Tryd.f181)) (gS x m th wr al on s) (gK ++ [.tmp 8]) =
   some ([],.normal,gS x m th wr al on s ++ [(.tmp 8,.d (.bool true))]) := by kernel_rfl
theorem h_1 (x : FBook) (m : Mp) (th : List (List Int)) (wr : List Int) (ke no : Nat → Prop) (w1 : World) (fv : Nat → Value) :
  runK (MFF 24 ke no w1 [0,1,2] fv) [] [] [] (Code.at [1,0] (body Tryd.f179)) (hS x m th wr) hK1 =
   some ([],.normal,hS1 x m th wr .nil) := by kernel_rfl
theorem h_2 (x : FBook) (m : Mp) (th : List (List Int)) (wr : List Int) (ke no : Nat → Prop) (w1 : World) (fv : Nat → Value) :
  runK (MFF 24 ke no w1 [0,1,2,3] fv) [] [] [] (Code.at [1,1,0,0] (body Tryd.f179)) (hS1 x m th wr .nil) hLK =
   some ([],.normal,hL x m th wr 0 []) := by kernel_rfl
theorem h_on0 (x : FBook) (m : Mp) (th : List (List Int)) (wr : List Int) (i : Nat) (l : List Int) (ke no : Nat → Prop) (w1 : World) (fv : Nat → Value) :
  runK (MFF 24 ke no w1 [0,1,2,3] fv) [(11,true)] [(16,.sl false .int l)] [] (Code.at [1,1,0,1,0,0] (body Tryd.f179)) (hL x m th wr i []) hLK1 =
   some ([decide ((i : Int) < (List.length (FBook.feet x) : Int)) = true,CF 180 [fbkD x m th wr,D.int .i64 (i : Int)] (D.sl false E.int l),1 * (24 + 1) ≤ 140737488355328,1 = 1,inI64 ((i : Int) + (1 : Int))],.normal,hL x m th wr (i + 1) [l]) := by kernel_rfl
theorem h_on1 (x : FBook) (m : Mp) (th : List (List Int)) (wr : List Int) (i : Nat) (y : List Int) (r : List (List Int)) (l : List Int) (ke no : Nat → Prop) (w1 : World) (fv : Nat → Value) :
  runK (MFF 24 ke no w1 [0,1,2,3] fv) [(11,true)] [(16,.sl false .int l)] [] (Code.at [1,1,0,1,0,0] (body Tryd.f179)) (hL x m th wr i (y :: r)) hLK1 =
   some ([decide ((i : Int) < (List.length (FBook.feet x) : Int)) = true,CF 180 [fbkD x m th wr,D.int .i64 (i : Int)] (D.sl false E.int l),List.length (y :: r) = List.length ((y :: r)),List.length ((y :: r) ++ [l]) * (24 + 1) ≤ 140737488355328,List.length ((y :: r) ++ [l]) = List.length (((y :: r) ++ [l])),inI64 ((i : Int) + (1 : Int))],.normal,hL x m th wr (i + 1) (y :: r ++ [l])) := by kernel_rfl
theorem h_end (x : FBook) (m : Mp) (th : List (List Int)) (wr : List Int) (i : Nat) (y : List Int) (r : List (List Int)) (ke no : Nat → Prop) (w1 : World) (fv : Nat → Value) :
  runK (MFF 24 ke no w1 [0,1,2,3] fv) [(11,false)] [] [] (Code.at [1,1,0,1,0,0] (body Tryd.f179)) (hL x m th wr i (y :: r)) hLK1 =
   some ([decide ((i : Int) < (List.length (FBook.feet x) : Int)) = false],.exit 0,hL x m th wr i (y :: r)) := by kernel_rfl
theorem h_5 (x : FBook) (m : Mp) (th : List (List Int)) (wr : List Int) (al : List (List Int)) (ke no : Nat → Prop) (w1 : World) (fv : Nat → Value) :
  runK (MFF 24 ke no w1 [0,1,2,3] fv) [] [] [] (Code.at [1,1,1,0] (body Tryd.f179)) (hS1 x m th wr (.sl false (.list .int) al)) (hK1 ++ [.tmp 5,.box 5]) =
   some ([],.normal,hS1 x m th wr (.sl false (.list .int) al) ++ [(.tmp 5,.d (.ptr 5 0)),(.box 5,.bx (some ⟨false,[.nilfn]⟩))]) := by kernel_rfl
end Go.Di

namespace Go.Di
open Proofs
open Go.RowKit

/-! ### A region in any order,by hand -/
section
variable {P : Program} {Q : Exit → Act → World → Prop} {a : Act} {w w' : World} {K : Act → World → Prop} {ops : Array Oper}
theorem count_set : ∀ (l : List Bool) (i : Nat),l[i]? = some false → (l.set i true).count false + 1 = l.count false
 | [],i,h => by simp at h
 | b :: l,0,h => by
  simp only [List.getElem?_cons_zero,Option.some.injEq] at h
  subst h
  simp
 | b :: l,i + 1,h => by
  have ih := count_set l i (by simpa using h)
  simp only [List.set_cons_succ,List.count_cons]
  omega
/-- The operations that come before one for sure. -/
def edgesOf (ops : Array Oper) (i : Nat) : List Nat := match ops[i]? with
 | some o => (o.after.toList.filter fun e => Region.binds .any e).map (·.on)
 | none => []
theorem ready_iff {l : Array Bool} {i : Nat} : i ∈ Region.ready .any ops l ↔ i < ops.size ∧ l.getD i true = false ∧ ∀ j ∈ edgesOf ops i,l.getD j false = true := by
 rw [mem_ready]
 unfold edgesOf
 constructor
 ·rintro ⟨h1,o,h2,h3⟩
  refine ⟨(Array.getElem?_eq_some_iff.1 h2).1,h1,fun j hj => ?_⟩
  rw [h2] at hj
  obtain ⟨e,he,rfl⟩ := List.mem_map.1 hj
  rw [List.mem_filter] at he
  exact h3 e (by simpa using he.1) he.2
 ·rintro ⟨h1,h2,h3⟩
  refine ⟨h2,ops[i],Array.getElem?_eq_getElem h1,fun e he hb => h3 e.on ?_⟩
  rw [Array.getElem?_eq_getElem h1]
  exact List.mem_map.2 ⟨e,List.mem_filter.2 ⟨by simpa using he,hb⟩,rfl⟩
theorem wpAnyIn_inv {m : Nat} (Φ : Array Bool → Act → World → Prop) (hdone : ∀ l a w,Φ l a w → (∀ i,i < ops.size → (∀ j ∈ edgesOf ops i,l.getD j false = true) → l.getD i true = true) → Q .normal a w)
  (hstep : ∀ l a w i,Φ l a w → i < ops.size → l.getD i true = false → (∀ j ∈ edgesOf ops i,l.getD j false = true) → wpOpIn (FR none) m P ops Q i (Φ (l.setIfInBounds i true)) a w) :
  ∀ (fuel : Nat) (l : Array Bool) (a : Act) (w : World),Φ l a w → l.toList.count false ≤ fuel → wpAnyIn (FR none) m P .any ops Q fuel l a w := by
 have key : ∀ (l : Array Bool) (i : Nat),l.getD i true = false → l.toList[i]? = some false := by
  intro l i h
  rw [Array.getD_eq_getD_getElem?] at h
  rw [Array.getElem?_toList]
  cases hl : l[i]? with
  | none => rw [hl] at h; simp at h
  | some b => rw [hl] at h; simp only [Option.getD_some] at h; rw [h]
 have hd : ∀ l a w,Φ l a w → Region.ready .any ops l = [] → Q .normal a w := fun l a w h hr => hdone l a w h fun i h1 h2 => by
  cases hb : l.getD i true with
  | true => rfl
  | false =>
   have : i ∈ Region.ready .any ops l := ready_iff.2 ⟨h1,hb,h2⟩
   rw [hr] at this
   cases this
 intro fuel
 induction fuel with
 | zero =>
  intro l a w h hc
  have hr : Region.ready .any ops l = [] := by
   cases hr : Region.ready .any ops l with
   | nil => rfl
   | cons i r =>
    have hi : i ∈ Region.ready .any ops l := by rw [hr]; simp
    have := count_set l.toList i (key l i (ready_iff.1 hi).2.1)
    omega
  exact ⟨hr,hd l a w h hr⟩
 | succ fuel ih =>
  intro l a w h hc
  refine ⟨fun hr => hd l a w h hr,fun i hi => ?_⟩
  obtain ⟨h0,h1,h2⟩ := ready_iff.1 hi
  refine wpOpIn_mono (fun a' w' h' => ih _ a' w' h' ?_) (hstep l a w i h h0 h1 h2)
  have := count_set l.toList i (key l i h1)
  rw [Array.toList_setIfInBounds]
  omega
theorem getD_tf {l : Array Bool} {i : Nat} (h : i < l.size) : l.getD i true = l.getD i false := by
 rw [Array.getD_eq_getD_getElem?,Array.getD_eq_getD_getElem?,Array.getElem?_eq_getElem h]
 rfl
theorem getD_done {l : Array Bool} {i j : Nat} (h : (l.setIfInBounds i true).getD j false = true) : i = j ∨ l.getD j false = true := by
 rw [Array.getD_eq_getD_getElem?,Array.getElem?_setIfInBounds] at h
 rw [Array.getD_eq_getD_getElem?]
 by_cases hij : i = j
 ·exact .inl hij
 ·rw [if_neg hij] at h
  exact .inr h
theorem getD_keep {l : Array Bool} {i j : Nat} {b : Bool} (hij : i ≠ j) (h : l.getD j false = b) : (l.setIfInBounds i true).getD j false = b := by
 rw [Array.getD_eq_getD_getElem?] at h
 rw [Array.getD_eq_getD_getElem?,Array.getElem?_setIfInBounds,if_neg hij]
 exact h
theorem getD_now {l : Array Bool} {i : Nat} (h : i < l.size) : (l.setIfInBounds i true).getD i false = true := by
 rw [Array.getD_eq_getD_getElem?,Array.getElem?_setIfInBounds,if_pos rfl,if_pos h]
 rfl
theorem wpOpIn_of {i : Nat} {o : Oper} {m : Nat} (ho : ops[i]? = some o) (hg : o.guard = none) (h : o.wpIn (FR none) m P a w K Q) : wpOpIn (FR none) m P ops Q i K a w := by
 unfold wpOpIn
 rw [ho]
 have : Region.wanted o (yielded ops a.tmps) = true := by simp [Region.wanted,hg]
 simp only [this,if_true]
 exact h
theorem wpOpIn_hand {i : Nat} {o : Oper} {m : Nat} (ho : ops[i]? = some o) (hg : o.guard = none) (hd : ∀ c,o.op ≠ .defer c) {v : Value} (hrun : (execOp a.eval o).run P w = .ok (.value v) w') (hK : K (a.put o.dst v) w') : wpOpIn (FR none) m P ops Q i K a w :=
 wpOpIn_of ho hg (opIn hd (wp_value hrun hK))
theorem wpOpIn_callv {i : Nat} {o : Oper} {m : Nat} {f : FuncId} {vs caps : Array Value} {R : Ending → World → Prop} (ho : ops[i]? = some o) (hg : o.guard = none) {c : Call} (hc : o.op = .call c) {t : Operand} (hcal : c.callee = .value t) (hev : a.eval t = .func (.func f) #[] caps) (hargs : c.args.map a.eval = vs)
  {fn : Func} (h1 : P.funcs[f]? = some fn) (h2 : (fn.name == "runtime.NumGoroutine") = false) (h3 : fn.body.isNone = false) (hcl : Calls P f (vs ++ caps) w R) (hK : ∀ e w',R e w' → ∃ v,e = .returned v ∧ K (a.put o.dst v) w') : wpOpIn (FR none) m P ops Q i K a w := by
 refine wpOpIn_of ho hg (opIn (call_nd hc) ?_)
 obtain ⟨cb,hbody⟩ : ∃ cb,fn.body = some cb := by
  cases hb : fn.body with
  | none => rw [hb] at h3; cases h3
  | some cb => exact ⟨cb,rfl⟩
 have h2' : fn.name ≠ "runtime.NumGoroutine" := by simpa using h2
 have hrun : (execOp a.eval o).run P w = .ok (.enter f (vs ++ caps)) w := by
  simp [execOp,hc,resolve,hcal,hev,hargs,Deferred.ofValue,invoke,callFunc,h1,h2',hbody]
 unfold Oper.wp
 rw [hrun,Oper.upon_enter]
 refine hcl.mono fun e w' he => ?_
 obtain ⟨v,rfl,hk⟩ := hK e w' he
 exact hk
theorem wpOpIn_con {gl : Nat → Option (List D)} {i : Nat} {o : Oper} {m : Nat} {f : FuncId} {args : List D} {r : D} {vs : List Value} {R : Foot} (hcon : Contract P gl f args r) (ho : ops[i]? = some o) (hg : o.guard = none) {c : Call} (hc : o.op = .call c) (hcal : c.callee = .value (.func f)) (hargs : c.args.map a.eval = vs.toArray)
  (hs : ∀ b o,R b o → b < w.heap.size) (hgl : ∀ g cs,gl g = some cs → Rel R w (.ref cs 0) (.pointer (some ⟨g,0,none⟩))) (ha : All2 (Rel R w) args vs)
  (hK : ∀ v w' R',Below w.heap.size w w' → (∀ b o,R b o → R' b o) → (∀ b o,R' b o → b < w'.heap.size ∧ (R b o ∨ w.heap.size ≤ b)) → Rel R' w' r v → K (a.put o.dst v) w') : wpOpIn (FR none) m P ops Q i K a w := by
 obtain ⟨⟨fn,h1,h2,h3⟩,hcalls⟩ := hcon
 refine wpOpIn_callv ho hg hc hcal (f := f) (caps := #[]) rfl hargs h1 h2 h3 (by simpa using hcalls w R vs hs hgl ha) ?_
 rintro e w' ⟨v,rfl,hb,R',h4,h5,h6⟩
 exact ⟨v,rfl,hK v w' R' hb h4 h5 h6⟩
theorem wpOpIn_yield {i : Nat} {o : Oper} {m y : Nat} {vs : Array Value} {R : Ending → World → Prop} (ho : ops[i]? = some o) (hg : o.guard = none) {c : Call} (hc : o.op = .call c) {t : Operand} (hcal : c.callee = .value t) (hev : a.eval t = .func (.yield y) #[] #[]) (hargs : c.args.map a.eval = vs)
  (hy : YieldAt Fence.wide 0 P y vs w R) (hK : ∀ e w',R e w' → ∃ v,e = .returned v ∧ K (a.put o.dst v) w') : wpOpIn (FR none) m P ops Q i K a w := by
 refine wpOpIn_of ho hg ⟨fun _ _ => trivial,?_⟩
 obtain ⟨fn,tmps,assign,body,hrun,hr⟩ := hy
 rw [show (FR none).round = none from rfl,Oper.semAt_eq none a.eval o (fun c' hc' => by rw [hc] at hc'; cases hc')]
 have : (execOp a.eval o).run P w = .ok (.round y fn tmps assign body) w := by
  rw [← hrun]
  simp [execOp,hc,resolve,hcal,hev,hargs,Deferred.ofValue,invoke]
 rw [this,Oper.uponIn_round]
 refine ⟨fun x => by simp [FR,Fence.wide] at x,⟨trivial,fun c' cs hroom => ?_⟩⟩
 obtain ⟨e,w',hr1,hr2⟩ := hr.2 c' cs (room_wide _)
 obtain ⟨v,rfl,hk⟩ := hK e w' hr1
 refine ⟨.returned v,w',hk,?_⟩
 exact hr2
end

/-! ### What the iterator over plans yields -/
/-- A plan that is handed over: in memory that the loop knew,or of the iterator's own. -/
def ToldP (R : Foot) (T : Nat → Prop) (p : List Work) (vs : Array Value) (W : World) : Prop := ∃ v R',vs = #[v] ∧ (∀ b o,R' b o → R b o ∨ T b) ∧ Rel R' W (.sl false .work p) v
section
variable (x : FBook) (m : Mp) (th : List (List Int)) (wr : List Int) (al : List (List Int)) (R : Foot) (KE : Nat → Prop) (xs : List (List Work)) (y : Nat) (J : List (List Work) → (Nat → Prop) → World → Prop) (pA pY pB pC : Value)

def YieldP : Prop := ∀ pre q vs N T W,J pre N W → (∃ post,pre ++ q :: post = xs) → (∀ b,T b → N b) → ToldP R T q vs W → YieldAt Fence.wide 0 PRG y vs W fun e W' => e = .returned (.bool true) ∧ J (pre ++ [q]) (Less N T) W' ∧ Stays KE (Less N T) W W'

structure PCaps (N : Nat → Prop) (W : World) : Prop where
 b : Rel R W (.ref (cellsOf (fbkD x m th wr)) 0) pB
 glob : ∀ g cs,globF g = some cs → Rel R W (.ref cs 0) (.pointer (some ⟨g,0,none⟩))
 all : ∃ Ra : Foot,(∀ b o,Ra b o → KE b ∨ N b) ∧ Rel Ra W (.ref [.sl false (.list .int) al] 0) pA
 yld : ∃ b4,pY = .pointer (some ⟨b4,0,none⟩) ∧ N b4 ∧ W.cell? ⟨b4,0,none⟩ = some (.func (.yield y) #[] #[])
 chg : ∃ b5,pC = .pointer (some ⟨b5,0,none⟩) ∧ N b5 ∧ W.cell? ⟨b5,0,none⟩ = some (.func (.func 181) #[] #[pA,pY,pB,pC])
variable {x m th wr al R KE xs y J pA pY pB pC}
theorem keeps_of {R : Foot} {W W' : World} {X : Nat → Prop} (h1 : ∀ b o,R b o → X b) (hs : ∀ b,X b → W'.heap[b]? = W.heap[b]?) : Keeps R R W W' :=
 ⟨fun _ _ h => h,fun b o u hr hc => by rw [cell_same (hs b (h1 b o hr))]; exact hc,fun b es c hr hm => by rw [hs b (h1 b 0 hr)]; exact hm⟩
theorem PCaps.after {N N' : Nat → Prop} {W W' : World} (hR : ∀ b o,R b o → KE b) (h : PCaps x m th wr al R KE y pA pY pB pC N W) (hN : ∀ b,N b → N' b) (hs : ∀ b,KE b ∨ N b → W'.heap[b]? = W.heap[b]?) : PCaps x m th wr al R KE y pA pY pB pC N' W' := by
 obtain ⟨h1,h2,⟨Ra,h3,h4⟩,⟨b4,q1,q2,q3⟩,⟨b5,r1,r2,r3⟩⟩ := h
 have hk := keeps_of (R := R) hR (fun b hb => hs b (.inl hb))
 have hk2 := keeps_of (R := Ra) h3 hs
 exact ⟨Rel.keep hk _ _ h1,fun g cs hg => Rel.keep hk _ _ (h2 g cs hg),⟨Ra,fun b o hr => (h3 b o hr).imp id (hN b),Rel.keep hk2 _ _ h4⟩,⟨b4,q1,hN _ q2,by rw [cell_same (hs _ (.inr q2))]; exact q3⟩,⟨b5,r1,hN _ r2,by rw [cell_same (hs _ (.inr r2))]; exact r3⟩⟩
theorem run_loadAgg {t : TypeId} {ti : TI} (hti : lookN typesF t = some ti) (ha : ti.agg = true) {cs : List D} (hsz : cs.length = ti.sz) {R : Foot} {W : World} {v : Value} (h : Rel R W (.ref cs 0) v) : ∃ u,(Instr.loadAt t v).run PRG W = .ok u W ∧ Rel R W (.agg cs) u := by
 obtain ⟨b,o,rfl,hr⟩ := h
 obtain ⟨vs,h1,h2⟩ := ref_cells hr
 have hl : vs.length = ti.sz := by rw [← hsz]; exact (All2.length h1).symm
 have hrun := loadAt_run (P := PRG) (C := mkF PRG (lookN typesF) globF 0 (fun _ => False) (fun _ => False) W [] (fun _ => undef)) (w := W) (typesF_ok t ti hti) (b := b) (o' := o) (off := 0) vs (fun j u hu => (h2 j u hu).2) (by omega) (fun h => by rw [ha] at h; cases h)
 rw [ha] at hrun
 simp only [if_true,List.drop_zero] at hrun
 rw [List.take_of_length_le (by omega)] at hrun
 exact ⟨_,hrun,vs.toArray,rfl,h1⟩
end
end Go.Di

