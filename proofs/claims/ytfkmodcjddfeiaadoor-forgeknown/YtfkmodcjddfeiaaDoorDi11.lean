/- Part 11: an interpreter over plain data for this code, with the proof that it says what the model does, and the contracts of the functions. No condition. -/
import Derived.Test.YtfkmodcjddfeiaaDoorDi10
import Derived.RangeFuncKeeps
import Derived.RangeFuncFrom
import Derived.Maps.RangeRun
set_option linter.unusedVariables false
set_option linter.unusedSimpArgs false
namespace Go.Di
open Proofs

def ok0F (b : Book) : Bool := withinF b.secs.length 1 4 && withinF b.days 1 30 && withinF b.rule 0 200 && decide (b.turns.length ≤ 4) && decide (b.svs.length ≤ 8)
def secOkF (x : Sec) : Bool := isSpanF x.t 200 3 && isSpanF x.w 3 2
def mostF (l : List Sec) : Int := l.foldl (fun m x => mx m x.w.hi) 0
def ok1F (b : Book) (l : List Sec) : Bool := l.foldl (fun ok x => ok && secOkF x) (ok0F b)
def ok2F (b : Book) (l : List Sec) : Bool := l.foldl (fun ok x => ok && decide (x.t.lo ≥ mostF b.secs * b.days)) (ok1F b b.secs)
def turnF (days : Int) (p : Bool × Int) (t : Int) : Bool × Int := (p.1 && withinF t (p.2 + 1) days,t)
def ok3F (b : Book) (l : List Int) : Bool × Int := l.foldl (turnF b.days) (ok2F b b.secs,0)
def ok4F (b : Book) (l : List Sv) : Bool := l.foldl (fun ok x => ok && isSurveyF b x) (ok3F b b.turns).1
/-- Is it a book? -/
def validF (b : Book) : Bool := ok1F b b.secs && ok4F b b.svs
def checkF (b : Book) : Int := if validF b then 0 else 10

theorem foldl_and {α : Type} (f : α → Bool) : ∀ (l : List α) (b : Bool),l.foldl (fun ok x => ok && f x) b = (b && l.all f)
 | [],b => by simp
 | x :: l,b => by
  simp only [List.foldl_cons,List.all_cons]
  rw [foldl_and f l,Bool.and_assoc]

theorem join1 (b : Book) : LoopT PR glob 119 (Code.at [1,0] (body Tryd.f64)) (check_R1 b) .normal (check_RS1 b (ok0F b)) := by
 have h0 := within_con b.secs.length 1 4
 have h1' := within_con b.days 1 30
 have h2' := within_con b.rule 0 200
 unfold ok0F
 cases h1 : withinF b.secs.length 1 4 with
 | false =>
  refine joinT (check_R1_a b) ?_ rfl
  repeat (first | exact trivial | refine ⟨by first | exact h0 | assumption | omega,?_⟩)
 | true =>
  cases h2 : withinF b.days 1 30 with
  | false =>
   refine joinT (check_R1_b b) ?_ rfl
   repeat (first | exact trivial | refine ⟨by first | exact h0 | exact h1' | assumption | omega,?_⟩)
  | true =>
   cases h3 : withinF b.rule 0 200 with
   | false =>
    refine joinT (check_R1_c b) ?_ rfl
    repeat (first | exact trivial | refine ⟨by first | exact h0 | exact h1' | exact h2' | assumption | omega,?_⟩)
   | true =>
    by_cases h4 : b.turns.length ≤ 4
    ·have h4' : decide ((b.turns.length : Int) ≤ 4) = true := decide_eq_true (by omega)
     rw [show decide (b.turns.length ≤ 4) = true from decide_eq_true h4,show decide (b.svs.length ≤ 8) = decide ((b.svs.length : Int) ≤ 8) from by simp only [decide_eq_decide]; omega]
     refine joinT (check_R1_e b) ?_ rfl
     repeat (first | exact trivial | refine ⟨by first | exact h0 | exact h1' | exact h2' | assumption | omega,?_⟩)
    ·have h4' : decide ((b.turns.length : Int) ≤ 4) = false := decide_eq_false (by omega)
     rw [show decide (b.turns.length ≤ 4) = false from decide_eq_false h4]
     refine joinT (check_R1_d b) ?_ rfl
     repeat (first | exact trivial | refine ⟨by first | exact h0 | exact h1' | exact h2' | assumption | omega,?_⟩)

theorem join6 (b : Book) (ok : Bool) (most : Int) (i : Nat) : LoopT PR glob 119 (Code.at [1,1,1,0,1,0,0,1,1,0,0,1,0] (body Tryd.f64)) (check_R6 b ok most i) .normal (check_RS6 b ok most i (ok && secOkF (b.secs.getD i sec0))) := by
 have h0 := isSpan_con (b.secs.getD i sec0).t 200 3 (by omega)
 have h1' := isSpan_con (b.secs.getD i sec0).w 3 2 (by omega)
 unfold secOkF
 cases ok with
 | false =>
  refine joinT (check_R6_a b false most i) ?_ rfl
  repeat (first | exact trivial | refine ⟨by first | exact h0 | exact h1' | assumption | omega | rfl,?_⟩)
 | true =>
  cases h1 : isSpanF (b.secs.getD i sec0).t 200 3 with
  | false =>
   refine joinT (check_R6_b b true most i) ?_ rfl
   repeat (first | exact trivial | refine ⟨by first | exact h0 | exact h1' | assumption | omega | rfl,?_⟩)
  | true =>
   refine joinT (check_R6_c b true most i) ?_ rfl
   repeat (first | exact trivial | refine ⟨by first | exact h0 | exact h1' | assumption | omega | rfl,?_⟩)

theorem join14 (b : Book) (ok : Bool) (most : Int) (i : Nat) (hm : ok = true → inI64 (most * b.days)) : LoopT PR glob 119 (Code.at [1,1,1,1,1,0,1,0,0,1,1,0,0,1] (body Tryd.f64)) (check_R14 b ok most i) .normal (check_RS14 b ok most i (ok && decide ((b.secs.getD i sec0).t.lo ≥ most * b.days))) := by
 cases ok with
 | false =>
  refine joinT (check_R14_a b false most i) ?_ rfl
  repeat (first | exact trivial | refine ⟨by first | assumption | omega | rfl,?_⟩)
 | true =>
  have hm := hm rfl
  refine joinT (check_R14_b b true most i) ?_ rfl
  repeat (first | exact trivial | refine ⟨by first | exact hm | assumption | omega | rfl,?_⟩)

theorem join20 (b : Book) (ok : Bool) (last : Int) (i : Nat) (hm : ok = true → inI64 (last + 1)) : LoopT PR glob 119 (Code.at [1,1,1,1,1,1,1,0,1,0,0,1,1,0,0,1,0] (body Tryd.f64)) (check_R20 b ok last i) .normal (check_RS20 b ok last i (ok && withinF (b.turns.getD i 0) (last + 1) b.days)) := by
 have h0 := within_con (b.turns.getD i 0) (last + 1) b.days
 cases ok with
 | false =>
  refine joinT (check_R20_a b false last i) ?_ rfl
  repeat (first | exact trivial | refine ⟨by first | assumption | omega | rfl,?_⟩)
 | true =>
  have hm := hm rfl
  refine joinT (check_R20_b b true last i) ?_ rfl
  repeat (first | exact trivial | refine ⟨by first | exact hm | exact h0 | assumption | omega | rfl,?_⟩)

theorem join26 (b : Book) (ok : Bool) (i : Nat) (hl : b.secs.length ≤ 9223372036854775807) : LoopT PR glob 119 (Code.at [1,1,1,1,1,1,1,1,0,1,0,0,1,1,0,0,1] (body Tryd.f64)) (check_R26 b ok i) .normal (check_RS26 b ok i (ok && isSurveyF b (b.svs.getD i sv0))) := by
 have h0 := isSurvey_con b (b.svs.getD i sv0) hl
 cases ok with
 | false =>
  refine joinT (check_R26_a b false i) ?_ rfl
  repeat (first | exact trivial | refine ⟨by first | assumption | omega | rfl,?_⟩)
 | true =>
  refine joinT (check_R26_b b true i) ?_ rfl
  repeat (first | exact trivial | refine ⟨by first | exact h0 | assumption | omega | rfl,?_⟩)

theorem loop0 (b : Book) (hl : b.secs.length ≤ 9223372036854775807) : LoopT PR glob 119 (Code.at [1,1,1,0,1] (body Tryd.f64)) (check_S0 b (ok0F b) 0 0) .normal (check_S0 b (ok1F b b.secs) (mostF b.secs) b.secs.length) := by
 rw [show Code.at [1,1,1,0,1] (body Tryd.f64) = .block 0 (.loop (Code.at [1,1,1,0,1,0,0] (body Tryd.f64))) from by kernel_rfl]
 refine LoopT.rounds (tt := lookN types) (S := fun i : {i : Nat // i ≤ b.secs.length} => check_S0 b (ok1F b (b.secs.take i.1)) (mostF (b.secs.take i.1)) i.1) (fun i => b.secs.length - i.1) ?_ ⟨0,Nat.zero_le _⟩
 intro ⟨i,hi⟩
 by_cases hlt : i < b.secs.length
 ·have hf := take_foldl (fun ok x => ok && secOkF x) b.secs (ok0F b) i sec0 hlt
  have hf2 := take_foldl (fun m (x : Sec) => mx m x.w.hi) b.secs 0 i sec0 hlt
  refine WpL.path (G 119) (check_0_on b _ _ i (ok1F b (b.secs.take i) && secOkF (b.secs.getD i sec0))) ⟨decide_eq_true (by omega),by omega,by omega,join6 b _ _ i,by omega,by simp only [inI64]; omega,trivial⟩ ⟨⟨i + 1,hlt⟩,?_,by dsimp only; omega⟩
  unfold ok1F mostF at *
  simp only
  rw [hf,hf2]
  rfl
 ·have : i = b.secs.length := by omega
  subst this
  refine WpL.path (G 119) (check_0_end b _ _ _) ⟨decide_eq_false (Int.lt_irrefl _),trivial⟩ ⟨rfl,?_⟩
  rw [List.take_length]
  rfl
end Go.Di

namespace Go.Di
open Proofs

theorem within_iff {n lo hi : Int} : withinF n lo hi = true ↔ lo ≤ n ∧ n ≤ hi := by simp [withinF]
theorem isSpan_iff {s : Span} {hi wide : Int} : isSpanF s hi wide = true ↔ 0 ≤ s.lo ∧ s.lo ≤ s.hi ∧ s.hi ≤ hi ∧ s.hi - s.lo ≤ wide := by simp [isSpanF,and_assoc]

structure Ok0 (b : Book) : Prop where
 secs : 1 ≤ b.secs.length ∧ b.secs.length ≤ 4
 days : 1 ≤ b.days ∧ b.days ≤ 30
 rule : 0 ≤ b.rule ∧ b.rule ≤ 200
 turns : b.turns.length ≤ 4
 svs : b.svs.length ≤ 8
theorem ok0_iff {b : Book} : ok0F b = true ↔ Ok0 b := by
 simp only [ok0F,Bool.and_eq_true,within_iff,decide_eq_true_eq]
 constructor
 ·rintro ⟨⟨⟨⟨h1,h2⟩,h3⟩,h4⟩,h5⟩
  exact ⟨by omega,h2,h3,h4,h5⟩
 ·rintro ⟨h1,h2,h3,h4,h5⟩
  exact ⟨⟨⟨⟨by omega,h2⟩,h3⟩,h4⟩,h5⟩
structure SecOk (x : Sec) : Prop where
 t : 0 ≤ x.t.lo ∧ x.t.lo ≤ x.t.hi ∧ x.t.hi ≤ 200 ∧ x.t.hi - x.t.lo ≤ 3
 w : 0 ≤ x.w.lo ∧ x.w.lo ≤ x.w.hi ∧ x.w.hi ≤ 3 ∧ x.w.hi - x.w.lo ≤ 2
theorem secOk_iff {x : Sec} : secOkF x = true ↔ SecOk x := by
 simp only [secOkF,Bool.and_eq_true,isSpan_iff]
 exact ⟨fun h => ⟨h.1,h.2⟩,fun h => ⟨h.1,h.2⟩⟩
theorem ok1_eq (b : Book) (l : List Sec) : ok1F b l = (ok0F b && l.all secOkF) := foldl_and _ _ _
theorem ok1_iff {b : Book} : ok1F b b.secs = true ↔ Ok0 b ∧ ∀ x ∈ b.secs,SecOk x := by
 rw [ok1_eq,Bool.and_eq_true,ok0_iff,List.all_eq_true]
 simp only [secOk_iff]
theorem mx_le {a b c : Int} (h1 : a ≤ c) (h2 : b ≤ c) : mx a b ≤ c := by unfold mx; split <;> omega
theorem mx_ge {a b : Int} : a ≤ mx a b ∧ b ≤ mx a b := by unfold mx; split <;> omega
theorem most_in {l : List Sec} (h : ∀ x ∈ l,SecOk x) : 0 ≤ mostF l ∧ mostF l ≤ 3 := by
 unfold mostF
 suffices ∀ (m : Int),0 ≤ m ∧ m ≤ 3 → 0 ≤ l.foldl (fun m x => mx m x.w.hi) m ∧ l.foldl (fun m x => mx m x.w.hi) m ≤ 3 from this 0 (by omega)
 induction l with
 | nil => exact fun m h => h
 | cons x l ih =>
  intro m hm
  simp only [List.foldl_cons]
  have hx := (h x (by simp)).w
  refine ih (fun y hy => h y (by simp [hy])) _ ⟨?_,mx_le hm.2 hx.2.2.1⟩
  have := mx_ge (a := m) (b := x.w.hi)
  omega
theorem most_days {b : Book} (h : ok1F b b.secs = true) : inI64 (mostF b.secs * b.days) := by
 obtain ⟨h0,h1⟩ := ok1_iff.1 h
 have hm := most_in h1
 have hd := h0.days
 have : 0 ≤ mostF b.secs * b.days ∧ mostF b.secs * b.days ≤ 3 * 30 := ⟨Int.mul_nonneg hm.1 (by omega),Int.le_trans (Int.mul_le_mul_of_nonneg_right hm.2 (by omega)) (by omega)⟩
 simp only [inI64]
 omega
theorem ok2_eq (b : Book) (l : List Sec) : ok2F b l = (ok1F b b.secs && l.all fun x => decide (x.t.lo ≥ mostF b.secs * b.days)) := foldl_and _ _ _

theorem loop2 (b : Book) (hl : b.secs.length ≤ 9223372036854775807) : LoopT PR glob 119 (Code.at [1,1,1,1,1,0,1] (body Tryd.f64)) (check_S2 b (ok1F b b.secs) (mostF b.secs) 0) .normal (check_S2 b (ok2F b b.secs) (mostF b.secs) b.secs.length) := by
 rw [show Code.at [1,1,1,1,1,0,1] (body Tryd.f64) = .block 2 (.loop (Code.at [1,1,1,1,1,0,1,0,0] (body Tryd.f64))) from by kernel_rfl]
 refine LoopT.rounds (tt := lookN types) (S := fun i : {i : Nat // i ≤ b.secs.length} => check_S2 b (ok2F b (b.secs.take i.1)) (mostF b.secs) i.1) (fun i => b.secs.length - i.1) ?_ ⟨0,Nat.zero_le _⟩
 intro ⟨i,hi⟩
 by_cases hlt : i < b.secs.length
 ·have hf := take_foldl (fun ok (x : Sec) => ok && decide (x.t.lo ≥ mostF b.secs * b.days)) b.secs (ok1F b b.secs) i sec0 hlt
  have hj := join14 b (ok2F b (b.secs.take i)) (mostF b.secs) i (fun h => by
   rw [ok2_eq,Bool.and_eq_true] at h
   exact most_days h.1)
  refine WpL.path (G 119) (check_2_on b _ _ i (ok2F b (b.secs.take i) && decide ((b.secs.getD i sec0).t.lo ≥ mostF b.secs * b.days))) ⟨decide_eq_true (by omega),by omega,by omega,hj,by simp only [inI64]; omega,trivial⟩ ⟨⟨i + 1,hlt⟩,?_,by dsimp only; omega⟩
  unfold ok2F at *
  simp only
  rw [hf]
  rfl
 ·have : i = b.secs.length := by omega
  subst this
  refine WpL.path (G 119) (check_2_end b _ _ _) ⟨decide_eq_false (Int.lt_irrefl _),trivial⟩ ⟨rfl,?_⟩
  rw [List.take_length]
  rfl

theorem turn_in {days : Int} (hd : days ≤ 30) : ∀ (l : List Int) (p : Bool × Int),(p.1 = true → 0 ≤ p.2 ∧ p.2 ≤ 30) → (l.foldl (turnF days) p).1 = true → 0 ≤ (l.foldl (turnF days) p).2 ∧ (l.foldl (turnF days) p).2 ≤ 30
 | [],p,h,hp => h hp
 | t :: l,p,h,hp => by
  simp only [List.foldl_cons] at hp ⊢
  refine turn_in hd l _ (fun hq => ?_) hp
  simp only [turnF,Bool.and_eq_true,within_iff] at hq ⊢
  have := h hq.1
  omega

theorem ok3_one {days : Int} : ∀ (l : List Int) (p : Bool × Int),(l.foldl (turnF days) p).1 = true → p.1 = true
 | [],p,h => h
 | t :: l,p,h => by
  have := ok3_one l _ h
  simp only [turnF,Bool.and_eq_true] at this
  exact this.1

theorem last_in {b : Book} {l : List Int} (h : (ok3F b l).1 = true) : inI64 ((ok3F b l).2 + 1) := by
 have h2 := ok3_one l _ h
 simp only at h2
 rw [ok2_eq,Bool.and_eq_true] at h2
 have h0 := (ok1_iff.1 h2.1).1
 have := turn_in (days := b.days) (by have := h0.days; omega) l (ok2F b b.secs,0) (fun _ => by simp) h
 unfold ok3F
 simp only [inI64]
 omega

theorem loop4 (b : Book) (hl : b.turns.length ≤ 9223372036854775807) : LoopT PR glob 119 (Code.at [1,1,1,1,1,1,1,0,1] (body Tryd.f64)) (check_S4 b (ok2F b b.secs) 0 0) .normal (check_S4 b (ok3F b b.turns).1 (ok3F b b.turns).2 b.turns.length) := by
 rw [show Code.at [1,1,1,1,1,1,1,0,1] (body Tryd.f64) = .block 4 (.loop (Code.at [1,1,1,1,1,1,1,0,1,0,0] (body Tryd.f64))) from by kernel_rfl]
 refine LoopT.rounds (tt := lookN types) (S := fun i : {i : Nat // i ≤ b.turns.length} => check_S4 b (ok3F b (b.turns.take i.1)).1 (ok3F b (b.turns.take i.1)).2 i.1) (fun i => b.turns.length - i.1) ?_ ⟨0,Nat.zero_le _⟩
 intro ⟨i,hi⟩
 by_cases hlt : i < b.turns.length
 ·have hf := take_foldl (turnF b.days) b.turns (ok2F b b.secs,0) i 0 hlt
  have hj := join20 b (ok3F b (b.turns.take i)).1 (ok3F b (b.turns.take i)).2 i (fun h => last_in h)
  refine WpL.path (G 119) (check_4_on b _ _ i ((ok3F b (b.turns.take i)).1 && withinF (b.turns.getD i 0) ((ok3F b (b.turns.take i)).2 + 1) b.days)) ⟨decide_eq_true (by omega),by omega,by omega,hj,by simp only [inI64]; omega,trivial⟩ ⟨⟨i + 1,hlt⟩,?_,by dsimp only; omega⟩
  unfold ok3F at *
  simp only
  rw [hf]
  rfl
 ·have : i = b.turns.length := by omega
  subst this
  refine WpL.path (G 119) (check_4_end b _ _ _) ⟨decide_eq_false (Int.lt_irrefl _),trivial⟩ ⟨rfl,?_⟩
  rw [List.take_length]
  rfl

theorem loop6 (b : Book) (hl : b.secs.length ≤ 9223372036854775807) (hv : b.svs.length ≤ 9223372036854775807) : LoopT PR glob 119 (Code.at [1,1,1,1,1,1,1,1,0,1] (body Tryd.f64)) (check_S6 b (ok3F b b.turns).1 0) .normal (check_S6 b (ok4F b b.svs) b.svs.length) := by
 rw [show Code.at [1,1,1,1,1,1,1,1,0,1] (body Tryd.f64) = .block 6 (.loop (Code.at [1,1,1,1,1,1,1,1,0,1,0,0] (body Tryd.f64))) from by kernel_rfl]
 refine LoopT.rounds (tt := lookN types) (S := fun i : {i : Nat // i ≤ b.svs.length} => check_S6 b (ok4F b (b.svs.take i.1)) i.1) (fun i => b.svs.length - i.1) ?_ ⟨0,Nat.zero_le _⟩
 intro ⟨i,hi⟩
 by_cases hlt : i < b.svs.length
 ·have hf := take_foldl (fun ok x => ok && isSurveyF b x) b.svs (ok3F b b.turns).1 i sv0 hlt
  have hj := join26 b (ok4F b (b.svs.take i)) i hl
  refine WpL.path (G 119) (check_6_on b _ i (ok4F b (b.svs.take i) && isSurveyF b (b.svs.getD i sv0))) ⟨decide_eq_true (by omega),by omega,by omega,hj,by simp only [inI64]; omega,trivial⟩ ⟨⟨i + 1,hlt⟩,?_,by dsimp only; omega⟩
  unfold ok4F at *
  simp only
  rw [hf]
  rfl
 ·have : i = b.svs.length := by omega
  subst this
  refine WpL.path (G 119) (check_6_end b _ _) ⟨decide_eq_false (Int.lt_irrefl _),trivial⟩ ⟨rfl,?_⟩
  rw [List.take_length]
  rfl

theorem check_con (b : Book) (h1 : b.secs.length ≤ 9223372036854775807) (h2 : b.turns.length ≤ 9223372036854775807) (h3 : b.svs.length ≤ 9223372036854775807) : Contract PR glob 64 [bookD b] (.int .i64 (checkF b)) := by
 unfold checkF validF
 cases hk : ok1F b b.secs with
 | false =>
  refine contract_of_path (G 119) check_fn (check_bad1 b (ok0F b) (ok1F b b.secs) true true true (mostF b.secs) 0) ⟨join1 b,loop0 b h1,by rw [hk]; rfl,trivial⟩
 | true =>
  cases hv : ok4F b b.svs with
  | false =>
   refine contract_of_path (G 119) check_fn (check_bad2 b (ok0F b) (ok1F b b.secs) (ok2F b b.secs) (ok3F b b.turns).1 (ok4F b b.svs) (mostF b.secs) (ok3F b b.turns).2) ⟨join1 b,loop0 b h1,by rw [hk]; rfl,loop2 b h1,loop4 b h2,loop6 b h1 h3,by rw [hv]; rfl,trivial⟩
  | true =>
   refine contract_of_path (G 119) check_fn (check_good b (ok0F b) (ok1F b b.secs) (ok2F b b.secs) (ok3F b b.turns).1 (ok4F b b.svs) (mostF b.secs) (ok3F b b.turns).2) ⟨join1 b,loop0 b h1,by rw [hk]; rfl,loop2 b h1,loop4 b h2,loop6 b h1 h3,by rw [hv]; rfl,trivial⟩
end Go.Di

namespace Go.Di
open Proofs

/-- Numbers of a truth that are small. -/
structure TrOk (x : TrC) : Prop where
 w0 : 0 ≤ x.w0 ∧ x.w0 ≤ 1000
 w1 : 0 ≤ x.w1 ∧ x.w1 ≤ 1000
 w2 : 0 ≤ x.w2 ∧ x.w2 ≤ 1000
 w3 : 0 ≤ x.w3 ∧ x.w3 ≤ 1000
 f0 : -1000000 ≤ x.f0.lo ∧ x.f0.lo ≤ 1000000 ∧ -1000000 ≤ x.f0.hi ∧ x.f0.hi ≤ 1000000
 f1 : -1000000 ≤ x.f1.lo ∧ x.f1.lo ≤ 1000000 ∧ -1000000 ≤ x.f1.hi ∧ x.f1.hi ≤ 1000000
 f2 : -1000000 ≤ x.f2.lo ∧ x.f2.lo ≤ 1000000 ∧ -1000000 ≤ x.f2.hi ∧ x.f2.hi ≤ 1000000
 f3 : -1000000 ≤ x.f3.lo ∧ x.f3.lo ≤ 1000000 ∧ -1000000 ≤ x.f3.hi ∧ x.f3.hi ≤ 1000000

def firstF (x : TrC) (s : Int) : Span := [x.f0,x.f1,x.f2,x.f3].getD s.toNat ⟨0,0⟩
def wornT (b : Book) (turns : List Int) (s day : Int) (x : TrC) : Int := wornF b.secs.length x.w0 x.w1 x.w2 x.w3 turns s day.toNat
def thick1F (b : Book) (turns : List Int) (s day : Int) (x : TrC) : Span := ⟨(firstF x s).lo - wornT b turns s day x,(firstF x s).hi - wornT b turns s day x⟩
def thickF (b : Book) (ts : List TrC) (turns : List Int) (s day : Int) : Span := toldF (thick1F b turns s day) ts

theorem trGet (x : TrC) (s : Int) (hs : 0 ≤ s ∧ s < 4) :
  List.getD [TrC.w0 x,TrC.w1 x,TrC.w2 x,TrC.w3 x,Span.lo (TrC.f0 x),Span.hi (TrC.f0 x),Span.lo (TrC.f1 x),Span.hi (TrC.f1 x),Span.lo (TrC.f2 x),Span.hi (TrC.f2 x),Span.lo (TrC.f3 x),Span.hi (TrC.f3 x)] (0 + 4 + Int.toNat s * 2 + 0) (0 : Int) = (firstF x s).lo ∧
  List.getD [TrC.w0 x,TrC.w1 x,TrC.w2 x,TrC.w3 x,Span.lo (TrC.f0 x),Span.hi (TrC.f0 x),Span.lo (TrC.f1 x),Span.hi (TrC.f1 x),Span.lo (TrC.f2 x),Span.hi (TrC.f2 x),Span.lo (TrC.f3 x),Span.hi (TrC.f3 x)] (0 + 4 + Int.toNat s * 2 + 1) (0 : Int) = (firstF x s).hi ∧ 0 + 4 + Int.toNat s * 2 + 2 ≤ 12 := by
 obtain ⟨k,hk,h4⟩ : ∃ k : Nat,s.toNat = k ∧ k < 4 := ⟨s.toNat,rfl,by omega⟩
 unfold firstF
 rw [hk]
 match k,h4 with
 | 0,_ => exact ⟨rfl,rfl,by omega⟩
 | 1,_ => exact ⟨rfl,rfl,by omega⟩
 | 2,_ => exact ⟨rfl,rfl,by omega⟩
 | 3,_ => exact ⟨rfl,rfl,by omega⟩
theorem firstF_in {x : TrC} (hx : TrOk x) (s : Int) (hs : 0 ≤ s ∧ s < 4) : -1000000 ≤ (firstF x s).lo ∧ (firstF x s).lo ≤ 1000000 ∧ -1000000 ≤ (firstF x s).hi ∧ (firstF x s).hi ≤ 1000000 := by
 obtain ⟨k,hk,h4⟩ : ∃ k : Nat,s.toNat = k ∧ k < 4 := ⟨s.toNat,rfl,by omega⟩
 unfold firstF
 rw [hk]
 match k,h4 with
 | 0,_ => exact hx.f0
 | 1,_ => exact hx.f1
 | 2,_ => exact hx.f2
 | 3,_ => exact hx.f3

theorem thick1_con (b : Book) (m : Mp) (ts : List TrC) (s day : Int) (turns : List Int) (x : TrC) (hx : TrOk x) (hs : 0 ≤ s ∧ s < b.secs.length) (hn : b.secs.length ≤ 4) (ht : turns.length ≤ 1000) (hd : day ≤ 1000) :
  Contract PR glob 168 [trD x,.ref (cellsOf (bkD b m ts)) 0,.ref [.int .i64 s] 0,.ref [.int .i64 day] 0,.ref [.sl false .int turns] 0] (spD (thick1F b turns s day x)) := by
 have hw := worn_con b m ts x.w0 x.w1 x.w2 x.w3 s day turns hx.w0 hx.w1 hx.w2 hx.w3 hs hn ht hd
 have hb := wornF_in (n := b.secs.length) (s := s) (turns := turns) hx.w0 hx.w1 hx.w2 hx.w3 day.toNat
 have h := thick1_all b m ts s day turns x (wornT b turns s day x)
 obtain ⟨g1,g2,g3⟩ := trGet x s (by omega)
 rw [g1,g2] at h
 have hf := firstF_in hx s (by omega)
 have hw' : wornT b turns s day x = wornF b.secs.length x.w0 x.w1 x.w2 x.w3 turns s day.toNat := rfl
 rw [← hw'] at hb hw
 exact contract_of_path (G 29) thick1_fn h ⟨by omega,by omega,by omega,hw,by omega,by omega,g3,by omega,by simp only [inI64]; omega,by omega,by simp only [inI64]; omega,by omega,trivial⟩

theorem thick_con (b : Book) (m : Mp) (ts : List TrC) (s day : Int) (turns : List Int) (hts : ∀ x ∈ ts,TrOk x) (hne : ts ≠ []) (hl : ts.length ≤ 100000) (hs : 0 ≤ s ∧ s < b.secs.length) (hn : b.secs.length ≤ 4) (ht : turns.length ≤ 1000) (hd : day ≤ 1000) :
  Contract PR glob 123 [bkD b m ts,.int .i64 s,.int .i64 day,.sl false .int turns] (spD (thickF b ts turns s day)) := by
 have h := told_con b m ts 168 [] [cellsOf (bkD b m ts),[.int .i64 s],[.int .i64 day],[.sl false .int turns]] (thick1F b turns s day) (fun x hx => thick1_con b m ts s day turns x (hts x hx) hs hn ht hd) hne hl
 exact contract_of_path (G 12) thick_fn (thick_all b m ts s day turns (thickF b ts turns s day)) ⟨h,by omega,trivial⟩
end Go.Di

namespace Go.Di
open Proofs
theorem whole_fn : FnOk PR (mk PR (lookN types) glob 4) 167 (body Tryd.f167) [.tmp 2] := by refine ⟨Tryd.f167,?_,?_,?_,?_,?_⟩ <;> kernel_rfl
theorem whole_all (b : Book) (m : Mp) (ts : List TrC) :
  callF (mk PR (lookN types) glob 4) [] [] [] (body Tryd.f167) [.tmp 2] [bkD b m ts] =
   some ([],D.fn 192 [] [[D.sl false E.sec (Book.secs b),D.sl false E.int (Book.turns b),D.sl false E.sv (Book.svs b),D.int .i64 (Book.rule b),D.int .i64 (Book.days b),D.map m,D.sl false E.trc ts]]) := by kernel_rfl
end Go.Di

namespace Go.Di
open Proofs

/-! ### The soonest day of all sections -/
theorem whole_con (b : Book) (m : Mp) (ts : List TrC) : Contract PR glob 167 [bkD b m ts] (.fn 192 [] [cellsOf (bkD b m ts)]) := contract_of_path (G 4) whole_fn (whole_all b m ts) trivial
end Go.Di

namespace Go.Di
open Proofs
def zbookD : D := .agg [.nil,.nil,.nil,.int .i64 0,.int .i64 0,.nilmap,.nil]
end Go.Di

/-
 DI,part Q: a range over a function whose rounds never leave: the law,told of one list.
-/
namespace Go.Di
open Go.RowKit

section
variable {P : Program}

/-- A store into one block of cells. -/
structure Wrote (g : Nat) (W W' : World) : Prop where
 same : W'.os = W.os ∧ W'.tape = W.tape ∧ W'.output = W.output ∧ W'.heap.size = W.heap.size
 block : ∃ arr arr' el el',W.heap[g]? = some (.cells arr el (0,0)) ∧ W'.heap[g]? = some (.cells arr' el' (0,0))
 other : ∀ k,k ≠ g → W'.heap[k]? = W.heap[k]?

/-- What a round leaves as it was: the iterator's own blocks,and some that were there. -/
structure Stays (KE N : Nat → Prop) (W W' : World) : Prop where
 size : W.heap.size ≤ W'.heap.size
 own : ∀ b,N b → W'.heap[b]? = W.heap[b]?
 old : ∀ b,KE b → W'.heap[b]? = W.heap[b]?

structure Abides {α : Type} (J : List α → (Nat → Prop) → World → Prop) : Prop where
 new : ∀ pre N N' W W',J pre N W → Below W.heap.size W W' → (∀ b,N' b → N b ∨ (W.heap.size ≤ b ∧ b < W'.heap.size)) → J pre N' W'
 store : ∀ pre N W W' g,J pre N W → N g → Wrote g W W' → J pre N W'

/-- The blocks without those that are handed over. -/
abbrev Less (N T : Nat → Prop) : Nat → Prop := fun b => N b ∧ ¬ T b

/-- What an iterator does at one list: it yields its elements,one after the other,and returns. Of what it yields (Told) blocks of its own (T) may be handed over. -/
def SeqM (P : Program) (gf : Nat) (lb : Array Value) {α : Type} (Told : (Nat → Prop) → α → Array Value → World → Prop) (xs : List α) (KE : Nat → Prop) (W0 : World) : Prop :=
 ∀ (l : Nat) (J : List α → (Nat → Prop) → World → Prop),Abides J →
  (∀ pre x vs N T W,J pre N W → (∃ post,pre ++ x :: post = xs) → (∀ b,T b → N b) → Told T x vs W → YieldAt Fence.wide 0 P l vs W fun e W' => e = .returned (.bool true) ∧ J (pre ++ [x]) (Less N T) W' ∧ Stays KE (Less N T) W W') →
  ∀ W,Below W0.heap.size W0 W → J [] (fun _ => False) W → Calls P gf (#[.func (.yield l) #[] #[]] ++ lb) W fun e W' => (∃ v,e = .returned v) ∧ ∃ N,J xs N W'

theorem rangeM {g : Operand} {ps : Array Tmp} {assign body : Code} {Q : Exit → Act → World → Prop} {a : Act} {w : World} {n : Nat} (hn : 1 ≤ n) {gf : Nat} {lb : Array Value} (hg : a.eval g = .func (.func gf) #[] lb)
  (eg : ∀ args w,(callFunc gf args).run P w = .ok (.enter gf args) w) {α : Type} {Told : (Nat → Prop) → α → Array Value → World → Prop} {xs : List α} {KE : Nat → Prop} (hKE : ∀ b,KE b → b < w.heap.size) (hseq : SeqM P gf lb Told xs KE w) (hps : ∀ T x vs W,Told T x vs W → vs.size = ps.size)
  (J : List α → (Nat → Prop) → World → Prop) (hJ : Abides J)
  (hput : ∀ pre N W l o o',J pre N W → w.heap.size ≤ l → ¬ N l → W.heap[l]? = some o → o.isCells = false → o.isWalk = false → J pre N (W.putObj l o'))
  (h0 : J [] (fun _ => False) w)
  (hround : ∀ l D pre x vs N T W,J pre N W → (∃ post,pre ++ x :: post = xs) → (∀ b,T b → N b) → Told T x vs W → w.heap.size ≤ D → D < l → ¬ N l → ¬ N D → l < W.heap.size → (∃ o,W.heap[l]? = some o ∧ o.isCells = false ∧ o.isWalk = false) → (∃ o,W.heap[D]? = some o ∧ o.isCells = false ∧ o.isWalk = false) →
   assign.wpIn (FR (some l)) 0 P (Exit.then (fun a1 W1 => W1.heap[l]? = W.heap[l]? ∧ W1.heap[D]? = W.heap[D]? ∧ W.heap.size ≤ W1.heap.size ∧
    ∀ o',o'.isCells = false → o'.isWalk = false → body.wpIn (FR (some l)) 0 P (fun e a' W' => e = .normal ∧ W'.heap[l]? = some o' ∧ W'.heap[D]? = W.heap[D]? ∧ J (pre ++ [x]) (Less N T) W' ∧ Stays KE (Less N T) W W') a1 (W1.putObj l o')) (fun _ _ _ => False))
    { tmps := (ps.zip vs).foldl (fun t (p,v) => t.setIfInBounds p v) a.tmps,defers := [] } W)
  (hdone : ∀ D N W,J xs N W → w.heap.size ≤ D → W.heap[D]? = some (.deferred (some [])) → Q .normal { a with defers := { target := .collected D,args := #[] } :: a.defers } W) :
  (Code.rangeFunc g ps assign body).wpIn Fence.wide n P Q a w := by
 refine wpIn_rangeFunc ?_
 intro fn hfn
 rw [show Fence.wide.round = none from rfl]
 obtain ⟨rec,hrec⟩ : ∃ rec : LoopState → Option Code → Loop,rec = fun st pe => { state := st,pending := pe,fn,tmps := a.tmps,params := ps,assign,body,defers := w.heap.size } := ⟨_,rfl⟩
 obtain ⟨W1,hW1⟩ : ∃ W1,(w.alloc (.deferred (some []))).alloc (.loop (rec .ready none)) = W1 := ⟨_,rfl⟩
 have hb1 : Below w.heap.size w W1 := by
  rw [← hW1]; exact (((Below.refl _ w).alloc (Nat.le_refl _) _).alloc (by simp) _)
 have hs1 : W1.heap.size = w.heap.size + 2 := by rw [← hW1]; simp
 have hL1 : W1.heap[w.heap.size + 1]? = some (.loop (rec .ready none)) := by
  rw [← hW1]; have := World.alloc_heap_new (w.alloc (.deferred (some []))) (.loop (rec .ready none)); rwa [World.size_alloc] at this
 have hK1 : W1.heap[w.heap.size]? = some (.deferred (some [])) := by
  rw [← hW1]; exact (Below.heap_alloc _ _ _ (by simp)).trans (World.alloc_heap_new w _)
 have hJ0 : J [] (fun _ => False) W1 := hJ.new _ _ _ _ _ h0 hb1 (fun b hb => hb.elim)
 refine ⟨w.heap.size + 1,[{ target := .collected w.heap.size,args := #[] }],W1,{ target := .fn (.func gf) lb,args := #[.func (.yield (w.heap.size + 1)) #[] #[]] },W1,gf,
  #[.func (.yield (w.heap.size + 1)) #[] #[]] ++ lb,W1,?_,?_,?_,?_,fun _ => hn,?_⟩
 ·rw [← hW1,hrec]; exact run_enterLoop_outer _ _ _ _ _
 ·simp only [resolve,hg]
  simp [go_sem,Deferred.ofValue]
 ·intro f' hf'; trivial
 ·simp [invoke,eg]
 ·refine callsIn_wide.2 ?_
  have hab : Abides (fun (pre : List α) N W => J pre N W ∧ (∀ b,N b → W1.heap.size ≤ b) ∧ W1.heap.size ≤ W.heap.size ∧ W.heap[w.heap.size + 1]? = some (.loop (rec .ready none)) ∧ W.heap[w.heap.size]? = some (.deferred (some []))) := by
   refine ⟨fun pre N N' W W' h hb hN => ?_,fun pre N W W' g' h hN hw => ?_⟩
   ·obtain ⟨h1,h2,h3,h4,h5⟩ := h
    refine ⟨hJ.new _ _ _ _ _ h1 hb hN,fun b hb' => ?_,Nat.le_trans h3 hb.size,by rw [hb.block _ (by omega)]; exact h4,by rw [hb.block _ (by omega)]; exact h5⟩
    rcases hN b hb' with h | h
    ·exact h2 b h
    ·omega
   ·obtain ⟨h1,h2,h3,h4,h5⟩ := h
    have := h2 g' hN
    exact ⟨hJ.store _ _ _ _ _ h1 hN hw,h2,by rw [hw.same.2.2.2]; exact h3,by rw [hw.other _ (by omega)]; exact h4,by rw [hw.other _ (by omega)]; exact h5⟩
  refine (hseq (w.heap.size + 1) _ hab ?_ W1 hb1 ⟨hJ0,fun b hb => hb.elim,Nat.le_refl _,hL1,hK1⟩).mono ?_
  ·rintro pre x vs N T W ⟨hj,hN,hsz,hl,hk⟩ hx hT htold
   have hy := run_yield (P := P) (args := vs) hl (by rw [hrec]; exact hps T x vs W htold)
   rw [hrec] at hy
   refine ⟨fn,_,assign,body,hy,roundIn_of_wpIn (F := Fence.wide) trivial ?_⟩
   have hnl : ¬ N (w.heap.size + 1) := fun h => by have := hN _ h; omega
   have hnd : ¬ N w.heap.size := fun h => by have := hN _ h; omega
   have hr := hround (w.heap.size + 1) w.heap.size pre x vs N T W hj hx hT htold (Nat.le_refl _) (by omega) hnl hnd (by omega) ⟨_,hl,rfl,rfl⟩ ⟨_,hk,rfl,rfl⟩
   refine wpIn_mono hr fun e a1 Wa he => ?_
   cases e with
   | normal =>
    obtain ⟨e1,e2,e3,e4⟩ := he
    rw [hl] at e1
    refine ⟨_,run_beginRound e1 (by rw [hrec]),?_⟩
    refine wpIn_mono (e4 (.loop { rec .ready none with state := .busy }) rfl rfl) fun e a2 Wb hb => ?_
    obtain ⟨rfl,f1,f2,f3,f4⟩ := hb
    have hlt : w.heap.size + 1 < Wb.heap.size := (Array.getElem?_eq_some_iff.1 f1).1
    have hend := run_endRound (P := P) none f1
    have hrr : (Obj.loop { ({ rec .ready none with state := .busy } : Loop) with state := if (none : Option Code).isNone then .ready else .done,pending := none }) = .loop (rec .ready none) := by rw [hrec]; rfl
    rw [hrr] at hend
    refine ⟨.bool true,_,hend,rfl,⟨hput _ _ _ _ _ _ f3 (by omega) (fun h => hnl h.1) f1 rfl rfl,fun b hb => hN b hb.1,?_,World.putObj_heap_same hlt,?_⟩,⟨?_,fun b hb => ?_,fun b hb => ?_⟩⟩
    ·have := f4.size
     simp [World.putObj]
     omega
    ·rw [World.putObj_heap_other (by omega),f2,hk]
    ·simpa [World.putObj] using f4.size
    ·rw [World.putObj_heap_other (fun (e : b = w.heap.size + 1) => hnl (by rw [← e]; exact hb.1))]
     exact f4.own b hb
    ·have := hKE b hb
     rw [World.putObj_heap_other (by omega)]
     exact f4.old b hb
   | _ => exact he.elim
  ·rintro e W2 ⟨⟨v,rfl⟩,N,hj,hN,hsz,hl,hk⟩
   have hnl : ¬ N (w.heap.size + 1) := fun h => by have := hN _ h; omega
   exact ⟨none,_,by have := run_endLoop (P := P) hl (by rw [hrec]; simp); rw [hrec] at this; exact this,hdone w.heap.size N _ (hput _ _ _ _ _ _ hj (by omega) hnl hl rfl rfl) (Nat.le_refl _) ((World.putObj_heap_other (by omega)).trans hk)⟩
end
end Go.Di

/-
 DI,part R: the frame of a range over a function: what its invariant is between two rounds,and one round.
-/
namespace Go.Di
open Go.RowKit

section
variable {P : Program} {C C' : Cfg} {w0 w w' : World} {R0 R : Foot} {a : Act} {s : St} {β : Nat → Nat} {σ : Sig}

theorem Inv.turn (h : Inv C w0 R0 a w s β σ R) (hn : C'.nt = C.nt) (hg : C'.glob = C.glob) (hd : C'.dfs = C.dfs) (hx : ∀ i ∈ C'.fixed,a.tmps.getD i undef = C'.fv i) (hf : Far C' w0 w s β σ R) : Inv C' w0 R0 a w s β σ R :=
 ⟨h.below,by rw [hd]; exact h.defers,hx,by rw [hn]; exact h.nt,h.sub,h.dom,fun g cs hc => h.glob g cs (by rw [← hg]; exact hc),h.tmps,h.box,h.inj,h.obj,hf,h.mps⟩

theorem Inv.elsewhere (h : Inv C w0 R0 a w s β σ R) (hbel : Below w0.heap.size w0 w') (hsz : w'.heap.size = w.heap.size) {X : Nat → Prop} (hsame : ∀ b,¬ X b → w'.heap[b]? = w.heap[b]?)
  (hX : ∀ b,X b → (∀ o u,R b o → w.cell? ⟨b,o,none⟩ = some u → w'.cell? ⟨b,o,none⟩ = some u) ∧ (∀ es c,w.heap[b]? = some (.map es c) → w'.heap[b]? = some (.map es c)) ∧ (∀ i x,s.bx i = some x → β i ≠ b) ∧
   ∀ k o,s.ob k = some o → o.xs.length < (σ k).2 → ∀ ad,(σ k).1 = some ad → ad.block ≠ b) (hf : Far C w0 w' s β σ R) : Inv C w0 R0 a w' s β σ R := by
 have hk : Keeps R R w w' := by
  refine ⟨fun _ _ h => h,fun b o u hr hc => ?_,fun b es c hr hm => ?_⟩
  ·by_cases hx : X b
   ·exact (hX b hx).1 o u hr hc
   ·simp only [World.cell?] at hc ⊢
    rw [hsame b hx]; exact hc
  ·by_cases hx : X b
   ·exact (hX b hx).2.1 es c hm
   ·rw [hsame b hx]; exact hm
 refine ⟨hbel,h.defers,h.fix,h.nt,h.sub,fun b o hr => by rw [hsz]; exact h.dom b o hr,fun g cs hg => Rel.keep hk _ _ (h.glob g cs hg),fun i => RelT.world hk _ _ (h.tmps i),fun i b hb => ?_,h.inj,fun k o ho => ?_,hf,h.mps.step (fun _ _ h => h) (fun _ _ _ => rfl) (fun g ⟨es,c,hg⟩ _ => by
  by_cases hx : X g
  ·rw [(hX g hx).2.1 es c hg,hg]
  ·exact hsame g hx) (fun _ _ h => h) (fun _ _ _ h => h)⟩
 ·have hne : ¬ X (β i) := fun hx => (hX _ hx).2.2.1 i b hb rfl
  obtain ⟨p1,⟨arr,el,p2,p3,p4,p5⟩,p6⟩ := h.box i b hb
  exact ⟨p1,⟨arr,el,by rw [hsame _ hne]; exact p2,fun x => (p3 x).imp (RelC.keep hk),fun x => (p4 x).imp (RelTC.world hk),p5⟩,p6⟩
 ·obtain ⟨p1,p2⟩ := h.obj k o ho
  refine ⟨SlR.keep hk (fun x vs hx => RelE.keep hk _ x vs hx) p1,fun hl => ?_⟩
  obtain ⟨g,off,q1,q2,⟨arr,el,q3,q3'⟩,q4,q5,q6⟩ := p2 hl
  have hne : ¬ X g := fun hx => (hX _ hx).2.2.2 k o ho hl _ q1 rfl
  exact ⟨g,off,q1,q2,⟨arr,el,by rw [hsame _ hne]; exact q3,q3'⟩,q4,q5,q6⟩

/-- The configuration of the invariant between two rounds. -/
def CJ (C : Cfg) (KE N : Nat → Prop) (W : World) : Cfg := { C with ke := KE,no := N,w1 := W }
def JI (C : Cfg) (w0 : World) (R0 : Foot) (a0 : Act) {α : Type} (S : List α → List (Key × Val)) (KE : Nat → Prop) : List α → (Nat → Prop) → World → Prop :=
 fun pre N W => ∃ β σ R,Inv (CJ C KE N W) w0 R0 a0 W (ofL (S pre)) β σ R

theorem spare_lt (h : Inv C w0 R0 a w s β σ R) {k : Nat} {o : Ob} (ho : s.ob k = some o) (hl : o.xs.length < (σ k).2) {ad : Addr} (ha : (σ k).1 = some ad) : ad.block < w.heap.size ∧ ∃ arr el,w.heap[ad.block]? = some (.cells arr el (0,0)) := by
 obtain ⟨g,off,q1,q2,⟨arr,el,q3,q3'⟩,_⟩ := (h.obj k o ho).spare hl
 rw [q1] at ha
 cases ha
 exact ⟨(Array.getElem?_eq_some_iff.1 q3).1,arr,el,q3⟩

theorem ji_abides {α : Type} (S : List α → List (Key × Val)) (KE : Nat → Prop) (a0 : Act) : Abides (JI C w0 R0 a0 S KE) := by
 refine ⟨fun pre N N' W W' h hb hN => ?_,fun pre N W W' g h hg hw => ?_⟩
 ·obtain ⟨β,σ,R,hI⟩ := h
  have hI' := hI.later (w' := W') hb (fun _ _ h => h) (fun b o hr => ⟨Nat.lt_of_lt_of_le (hI.dom b o hr).1 hb.size,.inl hr⟩)
  have h0 := hI.below.size
  refine ⟨β,σ,R,hI'.turn rfl rfl rfl hI'.fix ⟨Nat.le_refl _,fun b hb' => ?_,fun b hb' => ?_⟩⟩
  ·obtain ⟨p1,p2,p3,p4⟩ := hI'.far.ke b hb'
   exact ⟨p1,rfl,p3,p4⟩
  ·rcases hN b hb' with h | ⟨h1,h2⟩
   ·obtain ⟨p1,p2,p3,p4,p5⟩ := hI'.far.no b h
    exact ⟨p1,p2,p3,p4,p5⟩
   ·refine ⟨by omega,h2,fun o hr => ?_,fun i x hi => ?_,fun k o ho hl ad ha => ?_⟩
    ·have := (hI.dom b o hr).1; omega
    ·have := hI.box_lt hi; omega
    ·have := (spare_lt hI ho hl ha).1; omega
 ·obtain ⟨β,σ,R,hI⟩ := h
  obtain ⟨n1,n2,n3,n4,n5⟩ := hI.far.no g hg
  have hbel : Below w0.heap.size w0 W' := hI.below.trans ⟨hw.same.1,hw.same.2.1,hw.same.2.2.1,by rw [hw.same.2.2.2]; exact Nat.le_refl _,fun k hk => hw.other k (by omega)⟩
  have hfar : Far (CJ C KE N W) w0 W' (ofL (S pre)) β σ R ∨ True := .inr trivial
  have := (hI.turn (C' := { CJ C KE N W' with ke := fun _ => False }) rfl rfl rfl hI.fix ⟨by show W'.heap.size ≤ W.heap.size; rw [hw.same.2.2.2]; exact Nat.le_refl _,fun b hb => hb.elim,hI.far.no⟩).elsewhere (w' := W') hbel hw.same.2.2.2 (X := fun b => b = g) (fun b hb => hw.other b hb)
   (fun b hb => by
    subst hb
    obtain ⟨arr,arr',el,el',q1,q2⟩ := hw.block
    exact ⟨fun o u hr => absurd hr (n3 o),fun es c hm => (by rw [q1] at hm; cases hm),n4,n5⟩)
   ⟨Nat.le_refl _,fun b hb => hb.elim,fun b hb => by
    obtain ⟨p1,p2,p3,p4,p5⟩ := hI.far.no b hb
    exact ⟨p1,by rw [hw.same.2.2.2]; exact p2,p3,p4,p5⟩⟩
  refine ⟨β,σ,R,this.turn rfl rfl rfl this.fix ⟨Nat.le_refl _,fun b hb => ?_,this.far.no⟩⟩
  obtain ⟨p1,p2,p3,p4⟩ := hI.far.ke b hb
  exact ⟨by rw [hw.same.2.2.2]; exact p1,rfl,p3,p4⟩

theorem Inv.put_obj (h : Inv C w0 R0 a w s β σ R) {l : Nat} {o : Obj} (o' : Obj) (hl : w.heap[l]? = some o) (hc : o.isCells = false) (hw : o.isWalk = false) (h0 : w0.heap.size ≤ l) (hk : ¬ C.ke l) (hn : ¬ C.no l) : Inv C w0 R0 a (w.putObj l o') s β σ R := by
 have hlt : l < w.heap.size := (Array.getElem?_eq_some_iff.1 hl).1
 have hsz : (w.putObj l o').heap.size = w.heap.size := by simp [World.putObj]
 have hoth : ∀ b,b ≠ l → (w.putObj l o').heap[b]? = w.heap[b]? := fun b hb => World.putObj_heap_other hb
 refine h.elsewhere (h.below.trans ⟨rfl,rfl,rfl,by rw [hsz]; exact Nat.le_refl _,fun k hk' => hoth k (by omega)⟩) hsz (X := fun b => b = l) (fun b hb => hoth b hb) (fun b hb => ?_) ⟨by rw [hsz]; exact h.far.sz,fun b hb => ?_,fun b hb => ?_⟩
 ·subst hb
  refine ⟨fun o'' u hr hcell => ?_,fun es c hm => ?_,fun i x hi e => ?_,fun k o'' ho hsp ad ha e => ?_⟩
  ·simp only [World.cell?,hl] at hcell
   cases o <;> simp_all [Obj.isCells]
  ·rw [hl] at hm
   cases hm
   cases hw
  ·obtain ⟨arr,el,hh,_⟩ := (h.box i x hi).cells
   rw [e,hl] at hh
   cases hh
   cases hc
  ·obtain ⟨_,arr,el,hh⟩ := spare_lt h ho hsp ha
   rw [e,hl] at hh
   cases hh
   cases hc
 ·obtain ⟨p1,p2,p3,p4⟩ := h.far.ke b hb
  exact ⟨by rw [hsz]; exact p1,by rw [hoth b (fun e => hk (e ▸ hb))]; exact p2,p3,p4⟩
 ·obtain ⟨p1,p2,p3,p4,p5⟩ := h.far.no b hb
  exact ⟨p1,by rw [hsz]; exact p2,p3,p4,p5⟩

theorem ji_put {α : Type} (S : List α → List (Key × Val)) (KE : Nat → Prop) (a0 : Act) {B : Nat} (hB : w0.heap.size ≤ B) (hKE : ∀ b,KE b → b < B) : ∀ (pre : List α) (N : Nat → Prop) (W : World) (l : Nat) (o o' : Obj),JI C w0 R0 a0 S KE pre N W → B ≤ l → ¬ N l → W.heap[l]? = some o → o.isCells = false → o.isWalk = false → JI C w0 R0 a0 S KE pre N (W.putObj l o') := by
 rintro pre N W l o o' ⟨β,σ,R,hI⟩ hl hN ho hc hw
 have hk : ¬ KE l := fun h => by have := hKE l h; omega
 have := hI.put_obj o' ho hc hw (by omega) hk hN
 refine ⟨β,σ,R,this.turn rfl rfl rfl this.fix ⟨Nat.le_refl _,fun b hb => ?_,this.far.no⟩⟩
 obtain ⟨p1,p2,p3,p4⟩ := this.far.ke b hb
 exact ⟨p1,rfl,p3,p4⟩

/-- The configuration of a round. -/
def mkR (P : Program) (tt : TypeId → Option TI) (glob : Nat → Option (List D)) (n : Nat) (ke no : Nat → Prop) (w1 : World) (fx : List Nat) (fv : Nat → Value) : Cfg :=
 { tt := tt,glob := glob,con := fun f args r => Contract P glob f args r,nt := n,lk := fun _ _ _ _ => False,inr := true,ke := ke,no := no,w1 := w1,fixed := fx,fv := fv }
theorem goodR {tt : TypeId → Option TI} {glob : Nat → Option (List D)} {n : Nat} {ke no : Nat → Prop} {w1 : World} {fx : List Nat} {fv : Nat → Value} (hm : P.follows .mixedOrders = true) (hT : TabOk P tt) : Good P (mkR P tt glob n ke no w1 fx fv) :=
 ⟨hm,hT,⟨fun _ _ _ h => h,fun _ _ _ _ h => h.elim⟩,fun _ _ _ _ h => h.elim⟩

theorem three_four {p q r t : Prop} (h : p ∨ q ∨ t) : p ∨ q ∨ r ∨ t := h.elim .inl fun h => h.elim (fun h => .inr (.inl h)) fun h => .inr (.inr (.inr h))

theorem Inv.learn (h : Inv C w0 R0 a w s β σ R) {R' : Foot} (h1 : ∀ b o,R' b o → b < w.heap.size ∧ w0.heap.size ≤ b) (h2 : ∀ b o,R' b o → ¬ C.no b) (h3 : ∀ b o,R' b o → ∀ i x,s.bx i = some x → β i ≠ b)
  (h4 : ∀ b o,R' b o → ∀ k ob,s.ob k = some ob → ob.xs.length < (σ k).2 → ∀ ad,(σ k).1 = some ad → ad.block ≠ b) (h5 : ∀ i,s.mp i = none) : Inv C w0 R0 a w s β σ (fun b o => R b o ∨ R' b o) := by
 have hk : Keeps R (fun b o => R b o ∨ R' b o) w w := ⟨fun _ _ h => .inl h,fun _ _ _ _ h => h,fun _ _ _ _ h => h⟩
 refine ⟨h.below,h.defers,h.fix,h.nt,fun b o hr => .inl (h.sub b o hr),fun b o hr => ?_,fun g cs hg => Rel.keep hk _ _ (h.glob g cs hg),fun i => RelT.world hk _ _ (h.tmps i),fun i b hb => ?_,h.inj,fun k o ho => ?_,⟨h.far.sz,h.far.ke,fun b hb => ?_⟩,.none h5⟩
 ·rcases hr with hr | hr
  ·exact h.dom b o hr
  ·exact ⟨(h1 b o hr).1,.inr (h1 b o hr).2⟩
 ·obtain ⟨p1,⟨arr,el,p2,p3,p4,p5⟩,p6⟩ := h.box i b hb
  refine ⟨p1,⟨arr,el,p2,fun x => (p3 x).imp (RelC.keep hk),fun x => (p4 x).imp (RelTC.world hk),fun x j hj => .inl (p5 x j hj)⟩,fun hf o hr => ?_⟩
  rcases hr with hr | hr
  ·exact p6 hf o hr
  ·exact h3 _ _ hr i b hb rfl
 ·obtain ⟨p1,p2⟩ := h.obj k o ho
  refine ⟨SlR.keep hk (fun x vs hx => RelE.keep hk _ x vs hx) p1,fun hl => ?_⟩
  obtain ⟨g,off,q1,q2,q3,q4,q5,q6⟩ := p2 hl
  refine ⟨g,off,q1,q2,q3,q4,q5,fun q hq hr => ?_⟩
  rcases hr with hr | hr
  ·exact q6 q hq hr
  ·exact h4 _ _ hr k o ho hl _ q1 rfl
 ·obtain ⟨p1,p2,p3,p4,p5⟩ := h.far.no b hb
  refine ⟨p1,p2,fun o hr => ?_,p4,p5⟩
  rcases hr with hr | hr
  ·exact p3 o hr
  ·exact h2 b o hr hb

theorem ji_round {tt : TypeId → Option TI} {glob : Nat → Option (List D)} {n : Nat} {α : Type} {S : List α → List (Key × Val)} {S1 : List α → α → List (Key × Val)} {fx : List Nat} {t : Nat} {dx : α → D} {Told : (Nat → Prop) → α → Array Value → World → Prop} {xs : List α} {KE : Nat → Prop} {a0 : Act}
  {assign body : Code} {B : Nat} (hB0 : w0.heap.size ≤ B) (hKE : ∀ b,KE b → b < B) (hv : ∀ T x vs W,Told T x vs W → ∃ v R',vs = #[v] ∧ (∀ b o,R' b o → R0 b o ∨ T b) ∧ Rel R' W (dx x) v) (ht : t < n) (htx : t ∉ fx) (hSt : ∀ pre i,i ∉ fx → (ofL (S pre)).tmp i = .undef) (hSm : ∀ pre i,(ofL (S pre)).mp i = none)
  (hA : ∀ pre x ke no w1 fv,(∃ post,pre ++ x :: post = xs) → WpL P (mkR P tt glob n ke no w1 fx fv) assign ((.tmp t,.d (dx x)) :: S pre) (fun e L' => e = .normal ∧ L' = S1 pre x))
  (hB : ∀ pre x ke no w1 fv,(∃ post,pre ++ x :: post = xs) → WpL P (mkR P tt glob n ke no w1 fx fv) body (S1 pre x) (fun e L' => e = .normal ∧ L' = S (pre ++ [x]))) :
  ∀ l D' pre x vs N T W,JI (mk0 glob n) w0 R0 a0 S KE pre N W → (∃ post,pre ++ x :: post = xs) → (∀ b,T b → N b) → Told T x vs W → B ≤ D' → D' < l → ¬ N l → ¬ N D' → l < W.heap.size → (∃ o,W.heap[l]? = some o ∧ o.isCells = false ∧ o.isWalk = false) → (∃ o,W.heap[D']? = some o ∧ o.isCells = false ∧ o.isWalk = false) →
   assign.wpIn (FR (some l)) 0 P (Exit.then (fun a1 W1 => W1.heap[l]? = W.heap[l]? ∧ W1.heap[D']? = W.heap[D']? ∧ W.heap.size ≤ W1.heap.size ∧
    ∀ o',o'.isCells = false → o'.isWalk = false → body.wpIn (FR (some l)) 0 P (fun e a' W' => e = .normal ∧ W'.heap[l]? = some o' ∧ W'.heap[D']? = W.heap[D']? ∧ JI (mk0 glob n) w0 R0 a0 S KE (pre ++ [x]) (Less N T) W' ∧ Stays KE (Less N T) W W') a1 (W1.putObj l o')) (fun _ _ _ => False))
    { tmps := ((#[t] : Array Nat).zip vs).foldl (fun t (p,v) => t.setIfInBounds p v) a0.tmps,defers := [] } W := by
 rintro l D' pre x vs N T W ⟨β,σ,R,hI⟩ hx hT htold hD hDl hnl hnd hlt ⟨ol,hol,hoc,how⟩ ⟨od,hod,hdc,hdw⟩
 obtain ⟨vx,R',rfl,hR',hvx⟩ := hv T x vs W htold
 have hdf : a0.defers = [] := hI.defers
 have hact : ({ tmps := ((#[t] : Array Nat).zip #[vx]).foldl (fun t (p,v) => t.setIfInBounds p v) a0.tmps,defers := [] } : Act) = a0.put (some t) vx := by
  rw [← hdf]
  simp [Act.put]
 rw [hact]
 have hna0 : t < a0.tmps.size := Nat.lt_of_lt_of_le ht hI.nt
 have hIt : Inv (CJ (mk0 glob n) KE (Less N T) W) w0 R0 a0 W (ofL (S pre)) β σ R := hI.turn rfl rfl rfl (fun i hi => by cases hi) ⟨Nat.le_refl _,hI.far.ke,fun b hb => hI.far.no b hb.1⟩
 have hIl := hIt.learn (R' := fun b o => R' b o ∧ T b) (fun b o hr => ⟨(hI.far.no b (hT b hr.2)).2.1,(hI.far.no b (hT b hr.2)).1⟩) (fun b o hr hb => hb.2 hr.2) (fun b o hr => (hI.far.no b (hT b hr.2)).2.2.2.1) (fun b o hr => (hI.far.no b (hT b hr.2)).2.2.2.2) (hSm pre)
 have hp := hIl.put t ht (by simp [CJ,mk0]) (x := dx x) (v := vx) (RelT.ofRel (Rel.keep (R := R') ⟨fun b o h => (hR' b o h).elim (fun h0 => .inl (hI.sub b o h0)) fun ht => .inr ⟨h,ht⟩,fun _ _ _ _ h => h,fun _ _ _ _ h => h⟩ _ _ hvx))
 have notcells : ∀ (k : Nat) (o : Obj),W.heap[k]? = some o → o.isCells = false → ∀ arr el f,W.heap[k]? ≠ some (.cells arr el f) := by
  intro k o h1 h2 arr el f h3
  rw [h1] at h3
  cases h3
  cases h2
 have hI1 : Inv (mkR P tt glob n (fun b => KE b ∨ Less N T b ∨ b = l ∨ b = D') (Less N T) W fx (fun i => a0.tmps.getD i undef)) w0 R0 (a0.put (some t) vx) W (ofL ((.tmp t,.d (dx x)) :: S pre)) β σ (fun b o => R b o ∨ (R' b o ∧ T b)) := by
  refine hp.turn rfl rfl rfl (fun i hi => ?_) ⟨Nat.le_refl _,fun b hb => ?_,fun b hb => hp.far.no b hb⟩
  ·rw [getD_put a0 t vx i hna0,if_neg (fun (e : t = i) => htx (by rw [e]; exact hi))]
   rfl
  ·rcases hb with hb | hb | rfl | rfl
   ·obtain ⟨p1,p2,p3,p4⟩ := hp.far.ke b hb
    exact ⟨p1,rfl,p3,p4⟩
   ·obtain ⟨p1,p2,p3,p4,p5⟩ := hp.far.no b hb
    exact ⟨p2,rfl,fun i x hi _ => p4 i x hi,p5⟩
   ·refine ⟨hlt,rfl,fun i x hi _ e => ?_,fun k o ho hl ad ha e => ?_⟩
    ·obtain ⟨arr,el,hh,_⟩ := (hp.box i x hi).cells
     rw [e] at hh
     exact notcells b ol hol hoc _ _ _ hh
    ·obtain ⟨_,arr,el,hh⟩ := spare_lt hp ho hl ha
     rw [e] at hh
     exact notcells b ol hol hoc _ _ _ hh
   ·refine ⟨by omega,rfl,fun i x hi _ e => ?_,fun k o ho hl ad ha e => ?_⟩
    ·obtain ⟨arr,el,hh,_⟩ := (hp.box i x hi).cells
     rw [e] at hh
     exact notcells b od hod hdc _ _ _ hh
    ·obtain ⟨_,arr,el,hh⟩ := spare_lt hp ho hl ha
     rw [e] at hh
     exact notcells b od hod hdc _ _ _ hh
 refine hA pre x _ _ _ _ hx w0 R0 _ W _ (some l) 0 (fun h => by cases h) ⟨_,_,_,hI1⟩ fun e L' a1 W1 hpost hH1 => ?_
 obtain ⟨rfl,rfl⟩ := hpost
 obtain ⟨β1,σ1,R1,hI2⟩ := hH1
 have hkl := hI2.far.ke l (.inr (.inr (.inl rfl)))
 have hkd := hI2.far.ke D' (.inr (.inr (.inr rfl)))
 have hl1 : W1.heap[l]? = W.heap[l]? := hkl.2.1
 have hd1 : W1.heap[D']? = W.heap[D']? := hkd.2.1
 have hsz1 : W.heap.size ≤ W1.heap.size := hI2.far.sz
 refine ⟨hl1,hd1,hsz1,fun o' hoc' how' => ?_⟩
 have hne : l ≠ D' := by omega
 have hkel : ¬ KE l := fun h => by have := hKE l h; omega
 -- the record turns
 have hI3 : Inv (mkR P tt glob n (fun b => KE b ∨ Less N T b ∨ b = D') (Less N T) W fx (fun i => a0.tmps.getD i undef)) w0 R0 a1 W1 (ofL (S1 pre x)) β1 σ1 R1 :=
  hI2.turn rfl rfl rfl hI2.fix ⟨hI2.far.sz,fun b hb => hI2.far.ke b (three_four hb),hI2.far.no⟩
 have hI4 := hI3.put_obj o' (by rw [hl1]; exact hol) hoc how (by omega) (fun h => h.elim hkel fun h => h.elim (fun h => hnl h.1) fun h => hne h) (fun h => hnl h.1)
 have hlt1 : l < W1.heap.size := by omega
 have hpl : (W1.putObj l o').heap[l]? = some o' := World.putObj_heap_same hlt1
 have notcells' : ∀ arr el f,(W1.putObj l o').heap[l]? ≠ some (.cells arr el f) := by
  intro arr el f h3
  rw [hpl] at h3
  cases h3
  cases hoc'
 have hI5 : Inv (mkR P tt glob n (fun b => KE b ∨ Less N T b ∨ b = l ∨ b = D') (Less N T) (W1.putObj l o') fx (fun i => a0.tmps.getD i undef)) w0 R0 a1 (W1.putObj l o') (ofL (S1 pre x)) β1 σ1 R1 := by
  refine hI4.turn rfl rfl rfl hI4.fix ⟨Nat.le_refl _,fun b hb => ?_,hI4.far.no⟩
  rcases hb with hb | hb | rfl | hb
  ·obtain ⟨p1,p2,p3,p4⟩ := hI4.far.ke b (.inl hb)
   exact ⟨p1,rfl,p3,p4⟩
  ·obtain ⟨p1,p2,p3,p4⟩ := hI4.far.ke b (.inr (.inl hb))
   exact ⟨p1,rfl,p3,p4⟩
  ·refine ⟨(Array.getElem?_eq_some_iff.1 hpl).1,rfl,fun i x hi _ e => ?_,fun k o ho hl ad ha e => ?_⟩
   ·obtain ⟨arr,el,hh,_⟩ := (hI4.box i x hi).cells
    rw [e] at hh
    exact notcells' _ _ _ hh
   ·obtain ⟨_,arr,el,hh⟩ := spare_lt hI4 ho hl ha
    rw [e] at hh
    exact notcells' _ _ _ hh
  ·obtain ⟨p1,p2,p3,p4⟩ := hI4.far.ke b (.inr (.inr hb))
   exact ⟨p1,rfl,p3,p4⟩
 refine hB pre x _ _ _ _ hx w0 R0 a1 _ _ (some l) 0 (fun h => by cases h) ⟨_,_,_,hI5⟩ fun e L' a' W' hpost hH2 => ?_
 obtain ⟨rfl,rfl⟩ := hpost
 obtain ⟨β2,σ2,R2,hI6⟩ := hH2
 have hszp : (W1.putObj l o').heap.size = W1.heap.size := by simp [World.putObj]
 have hsz2 := hI6.far.sz
 have hsz3 : W.heap.size ≤ W'.heap.size := Nat.le_trans hsz1 (by rw [← hszp]; exact hsz2)
 have keep2 : ∀ b,(KE b ∨ Less N T b ∨ b = D') → W'.heap[b]? = W.heap[b]? := by
  intro b hb
  have h1 := (hI6.far.ke b (three_four hb)).2.1
  have h2 := (hI2.far.ke b (three_four hb)).2.1
  have hbl : b ≠ l := by
   rintro rfl
   exact hb.elim hkel fun h => h.elim (fun h => hnl h.1) fun h => hne h
  exact h1.trans ((World.putObj_heap_other hbl).trans h2)
 refine ⟨rfl,(hI6.far.ke l (.inr (.inr (.inl rfl)))).2.1.trans hpl,keep2 D' (.inr (.inr rfl)),⟨β2,σ2,R2,?_⟩,⟨hsz3,fun b hb => keep2 b (.inr (.inl hb)),fun b hb => keep2 b (.inl hb)⟩⟩
 -- back to the loop's own frame
 refine ⟨hI6.below,hdf,fun i hi => (by cases hi),hI.nt,hI6.sub,hI6.dom,hI6.glob,fun i => ?_,hI6.box,hI6.inj,hI6.obj,⟨Nat.le_refl _,fun b hb => ?_,hI6.far.no⟩,hI6.mps⟩
 ·by_cases hi : i ∈ fx
  ·have h1 := hI6.fix i hi
   have h2 := hI6.tmps i
   rw [h1] at h2
   exact h2
  ·rw [hSt _ i hi]
   exact trivial
 ·obtain ⟨p1,p2,p3,p4⟩ := hI6.far.ke b (.inl hb)
  exact ⟨p1,rfl,p3,p4⟩
end
end Go.Di

/-
 DI,part S: single operations by hand,and the walk over a map.
-/
namespace Go.Di
open Go.RowKit

section
variable {P : Program} {C C' : Cfg} {w0 w w' : World} {R0 R : Foot} {a : Act} {s : St} {β : Nat → Nat} {σ : Sig} {Q : Exit → Act → World → Prop}

theorem wp_text {ops : Array Oper} {id : Nat} {ro : Option Nat} {n : Nat} (hnd : noDefer ops.toList = true) (h : wpOps P ops (noOut Q) (List.range' 0 ops.size) a w) : (Code.region id ops false).wpIn (FR ro) n P Q a w :=
 wpIn_mono (Q := noOut Q) (wpIn_region (opsIn hnd (noOut_out Q) _ _ _ (by rw [List.range_eq_range']; exact h))) fun e a w => noOut_mono

theorem wpOps_hand {ops : Array Oper} {i : Nat} {l : List Nat} {o : Oper} (ho : ops[i]? = some o) (hg : o.guard = none) {v : Value} (hrun : (execOp a.eval o).run P w = .ok (.value v) w') (hK : wpOps P ops Q l (a.put o.dst v) w') : wpOps P ops Q (i :: l) a w := by
 rw [wpOps_cons]
 unfold wpOp
 rw [ho]
 have : Region.wanted o (yielded ops a.tmps) = true := by simp [Region.wanted,hg]
 simp only [this,if_true]
 exact .inl (wp_value hrun hK)

theorem runL_then (hT : TabOk P C.tt) (hC : ConOk P C) {ops : Array Oper} {dec : List (Nat × Bool)} {orc : List (Nat × D)} {rest : List Nat} :
  ∀ (l : List Oper) (k : Nat) (s : St) (a : Act) (w : World) (es : List Eff) (s' : St),(∀ j o,l[j]? = some o → ops[k + j]? = some o) → runL C dec orc ops l s = some (es,s') → (∀ p ∈ psOf es,p) → Holds C w0 R0 a w s → (∀ a' w',Holds C w0 R0 a' w' s' → wpOps P ops Q rest a' w') →
   wpOps P ops Q (List.range' k l.length ++ rest) a w
 | [],k,s,a,w,es,s',_,h,_,hH,hQ => by
  cases h
  exact hQ _ _ hH
 | o :: l,k,s,a,w,es,s',hl,h,hp,hH,hQ => by
  simp only [runL] at h
  split at h
  ·rename_i e he
   split at h
   ·rename_i es' s1 hes
    cases h
    have ho : ops[k]? = some o := hl 0 o rfl
    rw [List.length_cons,List.range'_succ,List.cons_append,wpOps_cons]
    refine semG_ok hT hC ho hH (fun a' w' hH' => runL_then hT hC l (k + 1) _ a' w' es' _ (fun j o' hj => by
     rw [show k + 1 + j = k + (j + 1) by omega]
     exact hl (j + 1) o' hj) hes (fun p hpp => hp p (by simp [psOf,hpp])) hH' hQ) (M.exec_ok _ _ _ he fun p hpp => hp p (by simp [psOf,hpp]))
   ·cases h
  ·cases h

theorem Inv.keepNow (h : Inv C w0 R0 a w s β σ R) (hn : C'.nt = C.nt) (hg : C'.glob = C.glob) (hd : C'.dfs = C.dfs) (hx : ∀ i ∈ C'.fixed,a.tmps.getD i undef = C'.fv i) (hno : C'.no = C.no) (hw1 : C'.w1 = w)
  (hke : ∀ b,C'.ke b → ∃ o,w.heap[b]? = some o ∧ o.isCells = false) : Inv C' w0 R0 a w s β σ R := by
 refine h.turn hn hg hd hx ⟨by rw [hw1]; exact Nat.le_refl _,fun b hb => ?_,fun b hb => h.far.no b (by rw [← hno]; exact hb)⟩
 obtain ⟨o,ho,hoc⟩ := hke b hb
 refine ⟨(Array.getElem?_eq_some_iff.1 ho).1,by rw [hw1],fun i x hi _ e => ?_,fun k o' ho' hl ad ha e => ?_⟩
 ·obtain ⟨arr,el,hh,_⟩ := (h.box i x hi).cells
  rw [e,ho] at hh
  cases hh
  cases hoc
 ·obtain ⟨_,arr,el,hh⟩ := spare_lt h ho' hl ha
  rw [e,ho] at hh
  cases hh
  cases hoc

theorem Inv.put_walk (h : Inv C w0 R0 a w s β σ R) {l : Nat} {o : Obj} (o' : Obj) (hl : w.heap[l]? = some o) (hc : o.isCells = false) (hm : ∀ es c,o ≠ .map es c) (hsz : w'.heap.size = w.heap.size) (hsame : ∀ b,b ≠ l → w'.heap[b]? = w.heap[b]?) (hw : w'.os = w.os ∧ w'.tape = w.tape ∧ w'.output = w.output)
  (h0 : w0.heap.size ≤ l) (hk : ∀ b,¬ C.ke b) (hn : ∀ b,¬ C.no b) : Inv C w0 R0 a w' s β σ R := by
 refine h.elsewhere (h.below.trans ⟨hw.1,hw.2.1,hw.2.2,by rw [hsz]; exact Nat.le_refl _,fun k hk' => hsame k (by omega)⟩) hsz (X := fun b => b = l) (fun b hb => hsame b hb) (fun b hb => ?_) ⟨by rw [hsz]; exact h.far.sz,fun b hb => absurd hb (hk b),fun b hb => absurd hb (hn b)⟩
 subst hb
 refine ⟨fun o'' u hr hcell => ?_,fun es c hm' => ?_,fun i x hi e => ?_,fun k o'' ho hsp ad ha e => ?_⟩
 ·simp only [World.cell?,hl] at hcell
  cases o <;> simp_all [Obj.isCells]
 ·rw [hl] at hm'
  cases hm'
  exact absurd rfl (hm es c)
 ·obtain ⟨arr,el,hh,_⟩ := (h.box i x hi).cells
  rw [e,hl] at hh
  cases hh
  cases hc
 ·obtain ⟨_,arr,el,hh⟩ := spare_lt h ho hsp ha
  rw [e,hl] at hh
  cases hh
  cases hc

/-! ### The walk over a map: what is left -/
theorem left_nil (es : Array MapEntry) : (leftOf es #[]).toList = es.toList := by
 unfold leftOf
 simp
theorem left_push (es : Array MapEntry) (seen : Array Nat) (b : Nat) : (leftOf es (seen.push b)).toList = (leftOf es seen).toList.filter fun e => !(e.born == b) := by
 unfold leftOf
 rw [Array.toList_filter,Array.toList_filter,List.filter_filter]
 congr 1
 funext e
 simp only [Array.contains_push]
 cases h1 : seen.contains e.born <;> cases h2 : (e.born == b) <;> rfl
theorem filter_born {l : List MapEntry} {e : MapEntry} (he : e ∈ l) (hn : (l.map (·.born)).Nodup) : l.Perm (e :: l.filter fun x => !(x.born == e.born)) := by
 induction l with
 | nil => cases he
 | cons x l ih =>
  have hx : x.born ∉ l.map (·.born) ∧ (l.map (·.born)).Nodup := List.nodup_cons.1 hn
  rcases List.mem_cons.1 he with rfl | he
  ·rw [List.filter_cons]
   simp only [beq_self_eq_true,Bool.not_true,Bool.false_eq_true,if_false]
   rw [List.filter_eq_self.2 fun y hy => by
    have : y.born ≠ e.born := fun h => hx.1 (by rw [← h]; exact List.mem_map.2 ⟨y,hy,rfl⟩)
    simpa using this]
  ·have hne : x.born ≠ e.born := fun h => hx.1 (by rw [h]; exact List.mem_map.2 ⟨e,he,rfl⟩)
   rw [List.filter_cons]
   have : (!(x.born == e.born)) = true := by simpa using hne
   simp only [this,if_true]
   exact ((ih he hx.2).cons x).trans (List.Perm.swap e x _)
theorem left_nodup {es : Array MapEntry} (seen : Array Nat) (hn : (es.toList.map (·.born)).Nodup) : ((leftOf es seen).toList.map (·.born)).Nodup := by
 unfold leftOf
 rw [Array.toList_filter]
 exact hn.sublist (List.Sublist.map _ List.filter_sublist)
theorem left_step {es : Array MapEntry} {seen : Array Nat} {e : MapEntry} (hn : (es.toList.map (·.born)).Nodup) (he : e ∈ (leftOf es seen).toList) : (leftOf es seen).toList.Perm (e :: (leftOf es (seen.push e.born)).toList) := by
 rw [left_push]
 exact filter_born he (left_nodup seen hn)
theorem left_mem {es : Array MapEntry} {seen : Array Nat} {e : MapEntry} (he : e ∈ (leftOf es seen).toList) : e ∈ es.toList := by
 unfold leftOf at he
 rw [Array.toList_filter] at he
 exact (List.mem_filter.1 he).1
theorem born_nodup {es : Array MapEntry} (h : ∀ (i j : Nat) (x y : MapEntry),es[i]? = some x → es[j]? = some y → i < j → x.born < y.born) : (es.toList.map (·.born)).Nodup := by
 rw [List.nodup_iff_pairwise_ne,List.pairwise_map,List.pairwise_iff_getElem]
 intro i j hi hj hij
 have := h i j es.toList[i] es.toList[j] (by simp [Array.getElem?_eq_getElem (by simpa using hi)]) (by simp [Array.getElem?_eq_getElem (by simpa using hj)]) hij
 omega
end
end Go.Di

