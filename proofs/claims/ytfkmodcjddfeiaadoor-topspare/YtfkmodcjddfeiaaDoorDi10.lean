/- Part 10: an interpreter over plain data for this code, with the proof that it says what the model does, and the contracts of the functions. No condition. -/
import Derived.Test.YtfkmodcjddfeiaaDoorDi09
import Derived.RangeFuncKeeps
import Derived.RangeFuncFrom
set_option linter.unusedVariables false
set_option linter.unusedSimpArgs false
namespace Go.Di
open Proofs

def ok0F (b : Book) : Bool := withinF b.secs.length 1 4 && withinF b.days 1 30 && withinF b.rule 0 200 && decide (b.turns.length ≤ 4) && decide (b.svs.length ≤ 8)
def secOkF (x : Sec) : Bool := isSpanF x.t 200 3 && isSpanF x.w 3 2
def mostF (l : List Sec) : Int := l.foldl (fun m x => mx m x.w.hi) 0
def ok1F (b : Book) (l : List Sec) : Bool := l.foldl (fun ok x => ok && secOkF x) (ok0F b)
def ok2F (b : Book) (l : List Sec) : Bool := l.foldl (fun ok x => ok && decide (x.t.lo ≥ mostF b.secs * b.days)) (ok1F b b.secs)
def turnF (days : Int) (p : Bool × Int) (t : Int) : Bool × Int := (p.1 && withinF t (p.2 + 1) days,t)
def ok3F (b : Book) (l : List Int) : Bool × Int := l.foldl (turnF b.days) (ok2F b b.secs,0)
def ok4F (b : Book) (l : List Sv) : Bool := l.foldl (fun ok x => ok && isSurveyF b x) (ok3F b b.turns).1
/-- Is it a book? -/
def validF (b : Book) : Bool := ok1F b b.secs && ok4F b b.svs
def checkF (b : Book) : Int := if validF b then 0 else 10

theorem foldl_and {α : Type} (f : α → Bool) : ∀ (l : List α) (b : Bool),l.foldl (fun ok x => ok && f x) b = (b && l.all f)
 | [],b => by simp
 | x :: l,b => by
  simp only [List.foldl_cons,List.all_cons]
  rw [foldl_and f l,Bool.and_assoc]

theorem join1 (b : Book) : LoopT PR glob 119 (Code.at [1,0] (body Tryd.f64)) (check_R1 b) .normal (check_RS1 b (ok0F b)) := by
 have h0 := within_con b.secs.length 1 4
 have h1' := within_con b.days 1 30
 have h2' := within_con b.rule 0 200
 unfold ok0F
 cases h1 : withinF b.secs.length 1 4 with
 | false =>
  refine joinT (check_R1_a b) ?_ rfl
  repeat (first | exact trivial | refine ⟨by first | exact h0 | assumption | omega,?_⟩)
 | true =>
  cases h2 : withinF b.days 1 30 with
  | false =>
   refine joinT (check_R1_b b) ?_ rfl
   repeat (first | exact trivial | refine ⟨by first | exact h0 | exact h1' | assumption | omega,?_⟩)
  | true =>
   cases h3 : withinF b.rule 0 200 with
   | false =>
    refine joinT (check_R1_c b) ?_ rfl
    repeat (first | exact trivial | refine ⟨by first | exact h0 | exact h1' | exact h2' | assumption | omega,?_⟩)
   | true =>
    by_cases h4 : b.turns.length ≤ 4
    ·have h4' : decide ((b.turns.length : Int) ≤ 4) = true := decide_eq_true (by omega)
     rw [show decide (b.turns.length ≤ 4) = true from decide_eq_true h4,show decide (b.svs.length ≤ 8) = decide ((b.svs.length : Int) ≤ 8) from by simp only [decide_eq_decide]; omega]
     refine joinT (check_R1_e b) ?_ rfl
     repeat (first | exact trivial | refine ⟨by first | exact h0 | exact h1' | exact h2' | assumption | omega,?_⟩)
    ·have h4' : decide ((b.turns.length : Int) ≤ 4) = false := decide_eq_false (by omega)
     rw [show decide (b.turns.length ≤ 4) = false from decide_eq_false h4]
     refine joinT (check_R1_d b) ?_ rfl
     repeat (first | exact trivial | refine ⟨by first | exact h0 | exact h1' | exact h2' | assumption | omega,?_⟩)

theorem join6 (b : Book) (ok : Bool) (most : Int) (i : Nat) : LoopT PR glob 119 (Code.at [1,1,1,0,1,0,0,1,1,0,0,1,0] (body Tryd.f64)) (check_R6 b ok most i) .normal (check_RS6 b ok most i (ok && secOkF (b.secs.getD i sec0))) := by
 have h0 := isSpan_con (b.secs.getD i sec0).t 200 3 (by omega)
 have h1' := isSpan_con (b.secs.getD i sec0).w 3 2 (by omega)
 unfold secOkF
 cases ok with
 | false =>
  refine joinT (check_R6_a b false most i) ?_ rfl
  repeat (first | exact trivial | refine ⟨by first | exact h0 | exact h1' | assumption | omega | rfl,?_⟩)
 | true =>
  cases h1 : isSpanF (b.secs.getD i sec0).t 200 3 with
  | false =>
   refine joinT (check_R6_b b true most i) ?_ rfl
   repeat (first | exact trivial | refine ⟨by first | exact h0 | exact h1' | assumption | omega | rfl,?_⟩)
  | true =>
   refine joinT (check_R6_c b true most i) ?_ rfl
   repeat (first | exact trivial | refine ⟨by first | exact h0 | exact h1' | assumption | omega | rfl,?_⟩)

theorem join14 (b : Book) (ok : Bool) (most : Int) (i : Nat) (hm : ok = true → inI64 (most * b.days)) : LoopT PR glob 119 (Code.at [1,1,1,1,1,0,1,0,0,1,1,0,0,1] (body Tryd.f64)) (check_R14 b ok most i) .normal (check_RS14 b ok most i (ok && decide ((b.secs.getD i sec0).t.lo ≥ most * b.days))) := by
 cases ok with
 | false =>
  refine joinT (check_R14_a b false most i) ?_ rfl
  repeat (first | exact trivial | refine ⟨by first | assumption | omega | rfl,?_⟩)
 | true =>
  have hm := hm rfl
  refine joinT (check_R14_b b true most i) ?_ rfl
  repeat (first | exact trivial | refine ⟨by first | exact hm | assumption | omega | rfl,?_⟩)

theorem join20 (b : Book) (ok : Bool) (last : Int) (i : Nat) (hm : ok = true → inI64 (last + 1)) : LoopT PR glob 119 (Code.at [1,1,1,1,1,1,1,0,1,0,0,1,1,0,0,1,0] (body Tryd.f64)) (check_R20 b ok last i) .normal (check_RS20 b ok last i (ok && withinF (b.turns.getD i 0) (last + 1) b.days)) := by
 have h0 := within_con (b.turns.getD i 0) (last + 1) b.days
 cases ok with
 | false =>
  refine joinT (check_R20_a b false last i) ?_ rfl
  repeat (first | exact trivial | refine ⟨by first | assumption | omega | rfl,?_⟩)
 | true =>
  have hm := hm rfl
  refine joinT (check_R20_b b true last i) ?_ rfl
  repeat (first | exact trivial | refine ⟨by first | exact hm | exact h0 | assumption | omega | rfl,?_⟩)

theorem join26 (b : Book) (ok : Bool) (i : Nat) (hl : b.secs.length ≤ 9223372036854775807) : LoopT PR glob 119 (Code.at [1,1,1,1,1,1,1,1,0,1,0,0,1,1,0,0,1] (body Tryd.f64)) (check_R26 b ok i) .normal (check_RS26 b ok i (ok && isSurveyF b (b.svs.getD i sv0))) := by
 have h0 := isSurvey_con b (b.svs.getD i sv0) hl
 cases ok with
 | false =>
  refine joinT (check_R26_a b false i) ?_ rfl
  repeat (first | exact trivial | refine ⟨by first | assumption | omega | rfl,?_⟩)
 | true =>
  refine joinT (check_R26_b b true i) ?_ rfl
  repeat (first | exact trivial | refine ⟨by first | exact h0 | assumption | omega | rfl,?_⟩)

theorem loop0 (b : Book) (hl : b.secs.length ≤ 9223372036854775807) : LoopT PR glob 119 (Code.at [1,1,1,0,1] (body Tryd.f64)) (check_S0 b (ok0F b) 0 0) .normal (check_S0 b (ok1F b b.secs) (mostF b.secs) b.secs.length) := by
 rw [show Code.at [1,1,1,0,1] (body Tryd.f64) = .block 0 (.loop (Code.at [1,1,1,0,1,0,0] (body Tryd.f64))) from by kernel_rfl]
 refine LoopT.rounds (tt := lookN types) (S := fun i : {i : Nat // i ≤ b.secs.length} => check_S0 b (ok1F b (b.secs.take i.1)) (mostF (b.secs.take i.1)) i.1) (fun i => b.secs.length - i.1) ?_ ⟨0,Nat.zero_le _⟩
 intro ⟨i,hi⟩
 by_cases hlt : i < b.secs.length
 ·have hf := take_foldl (fun ok x => ok && secOkF x) b.secs (ok0F b) i sec0 hlt
  have hf2 := take_foldl (fun m (x : Sec) => mx m x.w.hi) b.secs 0 i sec0 hlt
  refine WpL.path (G 119) (check_0_on b _ _ i (ok1F b (b.secs.take i) && secOkF (b.secs.getD i sec0))) ⟨decide_eq_true (by omega),by omega,by omega,join6 b _ _ i,by omega,by simp only [inI64]; omega,trivial⟩ ⟨⟨i + 1,hlt⟩,?_,by dsimp only; omega⟩
  unfold ok1F mostF at *
  simp only
  rw [hf,hf2]
  rfl
 ·have : i = b.secs.length := by omega
  subst this
  refine WpL.path (G 119) (check_0_end b _ _ _) ⟨decide_eq_false (Int.lt_irrefl _),trivial⟩ ⟨rfl,?_⟩
  rw [List.take_length]
  rfl
end Go.Di

namespace Go.Di
open Proofs

theorem within_iff {n lo hi : Int} : withinF n lo hi = true ↔ lo ≤ n ∧ n ≤ hi := by simp [withinF]
theorem isSpan_iff {s : Span} {hi wide : Int} : isSpanF s hi wide = true ↔ 0 ≤ s.lo ∧ s.lo ≤ s.hi ∧ s.hi ≤ hi ∧ s.hi - s.lo ≤ wide := by simp [isSpanF,and_assoc]

structure Ok0 (b : Book) : Prop where
 secs : 1 ≤ b.secs.length ∧ b.secs.length ≤ 4
 days : 1 ≤ b.days ∧ b.days ≤ 30
 rule : 0 ≤ b.rule ∧ b.rule ≤ 200
 turns : b.turns.length ≤ 4
 svs : b.svs.length ≤ 8
theorem ok0_iff {b : Book} : ok0F b = true ↔ Ok0 b := by
 simp only [ok0F,Bool.and_eq_true,within_iff,decide_eq_true_eq]
 constructor
 ·rintro ⟨⟨⟨⟨h1,h2⟩,h3⟩,h4⟩,h5⟩
  exact ⟨by omega,h2,h3,h4,h5⟩
 ·rintro ⟨h1,h2,h3,h4,h5⟩
  exact ⟨⟨⟨⟨by omega,h2⟩,h3⟩,h4⟩,h5⟩
structure SecOk (x : Sec) : Prop where
 t : 0 ≤ x.t.lo ∧ x.t.lo ≤ x.t.hi ∧ x.t.hi ≤ 200 ∧ x.t.hi - x.t.lo ≤ 3
 w : 0 ≤ x.w.lo ∧ x.w.lo ≤ x.w.hi ∧ x.w.hi ≤ 3 ∧ x.w.hi - x.w.lo ≤ 2
theorem secOk_iff {x : Sec} : secOkF x = true ↔ SecOk x := by
 simp only [secOkF,Bool.and_eq_true,isSpan_iff]
 exact ⟨fun h => ⟨h.1,h.2⟩,fun h => ⟨h.1,h.2⟩⟩
theorem ok1_eq (b : Book) (l : List Sec) : ok1F b l = (ok0F b && l.all secOkF) := foldl_and _ _ _
theorem ok1_iff {b : Book} : ok1F b b.secs = true ↔ Ok0 b ∧ ∀ x ∈ b.secs,SecOk x := by
 rw [ok1_eq,Bool.and_eq_true,ok0_iff,List.all_eq_true]
 simp only [secOk_iff]
theorem mx_le {a b c : Int} (h1 : a ≤ c) (h2 : b ≤ c) : mx a b ≤ c := by unfold mx; split <;> omega
theorem mx_ge {a b : Int} : a ≤ mx a b ∧ b ≤ mx a b := by unfold mx; split <;> omega
theorem most_in {l : List Sec} (h : ∀ x ∈ l,SecOk x) : 0 ≤ mostF l ∧ mostF l ≤ 3 := by
 unfold mostF
 suffices ∀ (m : Int),0 ≤ m ∧ m ≤ 3 → 0 ≤ l.foldl (fun m x => mx m x.w.hi) m ∧ l.foldl (fun m x => mx m x.w.hi) m ≤ 3 from this 0 (by omega)
 induction l with
 | nil => exact fun m h => h
 | cons x l ih =>
  intro m hm
  simp only [List.foldl_cons]
  have hx := (h x (by simp)).w
  refine ih (fun y hy => h y (by simp [hy])) _ ⟨?_,mx_le hm.2 hx.2.2.1⟩
  have := mx_ge (a := m) (b := x.w.hi)
  omega
theorem most_days {b : Book} (h : ok1F b b.secs = true) : inI64 (mostF b.secs * b.days) := by
 obtain ⟨h0,h1⟩ := ok1_iff.1 h
 have hm := most_in h1
 have hd := h0.days
 have : 0 ≤ mostF b.secs * b.days ∧ mostF b.secs * b.days ≤ 3 * 30 := ⟨Int.mul_nonneg hm.1 (by omega),Int.le_trans (Int.mul_le_mul_of_nonneg_right hm.2 (by omega)) (by omega)⟩
 simp only [inI64]
 omega
theorem ok2_eq (b : Book) (l : List Sec) : ok2F b l = (ok1F b b.secs && l.all fun x => decide (x.t.lo ≥ mostF b.secs * b.days)) := foldl_and _ _ _

theorem loop2 (b : Book) (hl : b.secs.length ≤ 9223372036854775807) : LoopT PR glob 119 (Code.at [1,1,1,1,1,0,1] (body Tryd.f64)) (check_S2 b (ok1F b b.secs) (mostF b.secs) 0) .normal (check_S2 b (ok2F b b.secs) (mostF b.secs) b.secs.length) := by
 rw [show Code.at [1,1,1,1,1,0,1] (body Tryd.f64) = .block 2 (.loop (Code.at [1,1,1,1,1,0,1,0,0] (body Tryd.f64))) from by kernel_rfl]
 refine LoopT.rounds (tt := lookN types) (S := fun i : {i : Nat // i ≤ b.secs.length} => check_S2 b (ok2F b (b.secs.take i.1)) (mostF b.secs) i.1) (fun i => b.secs.length - i.1) ?_ ⟨0,Nat.zero_le _⟩
 intro ⟨i,hi⟩
 by_cases hlt : i < b.secs.length
 ·have hf := take_foldl (fun ok (x : Sec) => ok && decide (x.t.lo ≥ mostF b.secs * b.days)) b.secs (ok1F b b.secs) i sec0 hlt
  have hj := join14 b (ok2F b (b.secs.take i)) (mostF b.secs) i (fun h => by
   rw [ok2_eq,Bool.and_eq_true] at h
   exact most_days h.1)
  refine WpL.path (G 119) (check_2_on b _ _ i (ok2F b (b.secs.take i) && decide ((b.secs.getD i sec0).t.lo ≥ mostF b.secs * b.days))) ⟨decide_eq_true (by omega),by omega,by omega,hj,by simp only [inI64]; omega,trivial⟩ ⟨⟨i + 1,hlt⟩,?_,by dsimp only; omega⟩
  unfold ok2F at *
  simp only
  rw [hf]
  rfl
 ·have : i = b.secs.length := by omega
  subst this
  refine WpL.path (G 119) (check_2_end b _ _ _) ⟨decide_eq_false (Int.lt_irrefl _),trivial⟩ ⟨rfl,?_⟩
  rw [List.take_length]
  rfl

theorem turn_in {days : Int} (hd : days ≤ 30) : ∀ (l : List Int) (p : Bool × Int),(p.1 = true → 0 ≤ p.2 ∧ p.2 ≤ 30) → (l.foldl (turnF days) p).1 = true → 0 ≤ (l.foldl (turnF days) p).2 ∧ (l.foldl (turnF days) p).2 ≤ 30
 | [],p,h,hp => h hp
 | t :: l,p,h,hp => by
  simp only [List.foldl_cons] at hp ⊢
  refine turn_in hd l _ (fun hq => ?_) hp
  simp only [turnF,Bool.and_eq_true,within_iff] at hq ⊢
  have := h hq.1
  omega

theorem ok3_one {days : Int} : ∀ (l : List Int) (p : Bool × Int),(l.foldl (turnF days) p).1 = true → p.1 = true
 | [],p,h => h
 | t :: l,p,h => by
  have := ok3_one l _ h
  simp only [turnF,Bool.and_eq_true] at this
  exact this.1

theorem last_in {b : Book} {l : List Int} (h : (ok3F b l).1 = true) : inI64 ((ok3F b l).2 + 1) := by
 have h2 := ok3_one l _ h
 simp only at h2
 rw [ok2_eq,Bool.and_eq_true] at h2
 have h0 := (ok1_iff.1 h2.1).1
 have := turn_in (days := b.days) (by have := h0.days; omega) l (ok2F b b.secs,0) (fun _ => by simp) h
 unfold ok3F
 simp only [inI64]
 omega

theorem loop4 (b : Book) (hl : b.turns.length ≤ 9223372036854775807) : LoopT PR glob 119 (Code.at [1,1,1,1,1,1,1,0,1] (body Tryd.f64)) (check_S4 b (ok2F b b.secs) 0 0) .normal (check_S4 b (ok3F b b.turns).1 (ok3F b b.turns).2 b.turns.length) := by
 rw [show Code.at [1,1,1,1,1,1,1,0,1] (body Tryd.f64) = .block 4 (.loop (Code.at [1,1,1,1,1,1,1,0,1,0,0] (body Tryd.f64))) from by kernel_rfl]
 refine LoopT.rounds (tt := lookN types) (S := fun i : {i : Nat // i ≤ b.turns.length} => check_S4 b (ok3F b (b.turns.take i.1)).1 (ok3F b (b.turns.take i.1)).2 i.1) (fun i => b.turns.length - i.1) ?_ ⟨0,Nat.zero_le _⟩
 intro ⟨i,hi⟩
 by_cases hlt : i < b.turns.length
 ·have hf := take_foldl (turnF b.days) b.turns (ok2F b b.secs,0) i 0 hlt
  have hj := join20 b (ok3F b (b.turns.take i)).1 (ok3F b (b.turns.take i)).2 i (fun h => last_in h)
  refine WpL.path (G 119) (check_4_on b _ _ i ((ok3F b (b.turns.take i)).1 && withinF (b.turns.getD i 0) ((ok3F b (b.turns.take i)).2 + 1) b.days)) ⟨decide_eq_true (by omega),by omega,by omega,hj,by simp only [inI64]; omega,trivial⟩ ⟨⟨i + 1,hlt⟩,?_,by dsimp only; omega⟩
  unfold ok3F at *
  simp only
  rw [hf]
  rfl
 ·have : i = b.turns.length := by omega
  subst this
  refine WpL.path (G 119) (check_4_end b _ _ _) ⟨decide_eq_false (Int.lt_irrefl _),trivial⟩ ⟨rfl,?_⟩
  rw [List.take_length]
  rfl

theorem loop6 (b : Book) (hl : b.secs.length ≤ 9223372036854775807) (hv : b.svs.length ≤ 9223372036854775807) : LoopT PR glob 119 (Code.at [1,1,1,1,1,1,1,1,0,1] (body Tryd.f64)) (check_S6 b (ok3F b b.turns).1 0) .normal (check_S6 b (ok4F b b.svs) b.svs.length) := by
 rw [show Code.at [1,1,1,1,1,1,1,1,0,1] (body Tryd.f64) = .block 6 (.loop (Code.at [1,1,1,1,1,1,1,1,0,1,0,0] (body Tryd.f64))) from by kernel_rfl]
 refine LoopT.rounds (tt := lookN types) (S := fun i : {i : Nat // i ≤ b.svs.length} => check_S6 b (ok4F b (b.svs.take i.1)) i.1) (fun i => b.svs.length - i.1) ?_ ⟨0,Nat.zero_le _⟩
 intro ⟨i,hi⟩
 by_cases hlt : i < b.svs.length
 ·have hf := take_foldl (fun ok x => ok && isSurveyF b x) b.svs (ok3F b b.turns).1 i sv0 hlt
  have hj := join26 b (ok4F b (b.svs.take i)) i hl
  refine WpL.path (G 119) (check_6_on b _ i (ok4F b (b.svs.take i) && isSurveyF b (b.svs.getD i sv0))) ⟨decide_eq_true (by omega),by omega,by omega,hj,by simp only [inI64]; omega,trivial⟩ ⟨⟨i + 1,hlt⟩,?_,by dsimp only; omega⟩
  unfold ok4F at *
  simp only
  rw [hf]
  rfl
 ·have : i = b.svs.length := by omega
  subst this
  refine WpL.path (G 119) (check_6_end b _ _) ⟨decide_eq_false (Int.lt_irrefl _),trivial⟩ ⟨rfl,?_⟩
  rw [List.take_length]
  rfl

theorem check_con (b : Book) (h1 : b.secs.length ≤ 9223372036854775807) (h2 : b.turns.length ≤ 9223372036854775807) (h3 : b.svs.length ≤ 9223372036854775807) : Contract PR glob 64 [bookD b] (.int .i64 (checkF b)) := by
 unfold checkF validF
 cases hk : ok1F b b.secs with
 | false =>
  refine contract_of_path (G 119) check_fn (check_bad1 b (ok0F b) (ok1F b b.secs) true true true (mostF b.secs) 0) ⟨join1 b,loop0 b h1,by rw [hk]; rfl,trivial⟩
 | true =>
  cases hv : ok4F b b.svs with
  | false =>
   refine contract_of_path (G 119) check_fn (check_bad2 b (ok0F b) (ok1F b b.secs) (ok2F b b.secs) (ok3F b b.turns).1 (ok4F b b.svs) (mostF b.secs) (ok3F b b.turns).2) ⟨join1 b,loop0 b h1,by rw [hk]; rfl,loop2 b h1,loop4 b h2,loop6 b h1 h3,by rw [hv]; rfl,trivial⟩
  | true =>
   refine contract_of_path (G 119) check_fn (check_good b (ok0F b) (ok1F b b.secs) (ok2F b b.secs) (ok3F b b.turns).1 (ok4F b b.svs) (mostF b.secs) (ok3F b b.turns).2) ⟨join1 b,loop0 b h1,by rw [hk]; rfl,loop2 b h1,loop4 b h2,loop6 b h1 h3,by rw [hv]; rfl,trivial⟩
end Go.Di

namespace Go.Di
open Proofs

/-- Numbers of a truth that are small. -/
structure TrOk (x : TrC) : Prop where
 w0 : 0 ≤ x.w0 ∧ x.w0 ≤ 1000
 w1 : 0 ≤ x.w1 ∧ x.w1 ≤ 1000
 w2 : 0 ≤ x.w2 ∧ x.w2 ≤ 1000
 w3 : 0 ≤ x.w3 ∧ x.w3 ≤ 1000
 f0 : -1000000 ≤ x.f0.lo ∧ x.f0.lo ≤ 1000000 ∧ -1000000 ≤ x.f0.hi ∧ x.f0.hi ≤ 1000000
 f1 : -1000000 ≤ x.f1.lo ∧ x.f1.lo ≤ 1000000 ∧ -1000000 ≤ x.f1.hi ∧ x.f1.hi ≤ 1000000
 f2 : -1000000 ≤ x.f2.lo ∧ x.f2.lo ≤ 1000000 ∧ -1000000 ≤ x.f2.hi ∧ x.f2.hi ≤ 1000000
 f3 : -1000000 ≤ x.f3.lo ∧ x.f3.lo ≤ 1000000 ∧ -1000000 ≤ x.f3.hi ∧ x.f3.hi ≤ 1000000

def firstF (x : TrC) (s : Int) : Span := [x.f0,x.f1,x.f2,x.f3].getD s.toNat ⟨0,0⟩
def wornT (b : Book) (turns : List Int) (s day : Int) (x : TrC) : Int := wornF b.secs.length x.w0 x.w1 x.w2 x.w3 turns s day.toNat
def thick1F (b : Book) (turns : List Int) (s day : Int) (x : TrC) : Span := ⟨(firstF x s).lo - wornT b turns s day x,(firstF x s).hi - wornT b turns s day x⟩
def thickF (b : Book) (ts : List TrC) (turns : List Int) (s day : Int) : Span := toldF (thick1F b turns s day) ts

theorem trGet (x : TrC) (s : Int) (hs : 0 ≤ s ∧ s < 4) :
  List.getD [TrC.w0 x,TrC.w1 x,TrC.w2 x,TrC.w3 x,Span.lo (TrC.f0 x),Span.hi (TrC.f0 x),Span.lo (TrC.f1 x),Span.hi (TrC.f1 x),Span.lo (TrC.f2 x),Span.hi (TrC.f2 x),Span.lo (TrC.f3 x),Span.hi (TrC.f3 x)] (0 + 4 + Int.toNat s * 2 + 0) (0 : Int) = (firstF x s).lo ∧
  List.getD [TrC.w0 x,TrC.w1 x,TrC.w2 x,TrC.w3 x,Span.lo (TrC.f0 x),Span.hi (TrC.f0 x),Span.lo (TrC.f1 x),Span.hi (TrC.f1 x),Span.lo (TrC.f2 x),Span.hi (TrC.f2 x),Span.lo (TrC.f3 x),Span.hi (TrC.f3 x)] (0 + 4 + Int.toNat s * 2 + 1) (0 : Int) = (firstF x s).hi ∧ 0 + 4 + Int.toNat s * 2 + 2 ≤ 12 := by
 obtain ⟨k,hk,h4⟩ : ∃ k : Nat,s.toNat = k ∧ k < 4 := ⟨s.toNat,rfl,by omega⟩
 unfold firstF
 rw [hk]
 match k,h4 with
 | 0,_ => exact ⟨rfl,rfl,by omega⟩
 | 1,_ => exact ⟨rfl,rfl,by omega⟩
 | 2,_ => exact ⟨rfl,rfl,by omega⟩
 | 3,_ => exact ⟨rfl,rfl,by omega⟩
theorem firstF_in {x : TrC} (hx : TrOk x) (s : Int) (hs : 0 ≤ s ∧ s < 4) : -1000000 ≤ (firstF x s).lo ∧ (firstF x s).lo ≤ 1000000 ∧ -1000000 ≤ (firstF x s).hi ∧ (firstF x s).hi ≤ 1000000 := by
 obtain ⟨k,hk,h4⟩ : ∃ k : Nat,s.toNat = k ∧ k < 4 := ⟨s.toNat,rfl,by omega⟩
 unfold firstF
 rw [hk]
 match k,h4 with
 | 0,_ => exact hx.f0
 | 1,_ => exact hx.f1
 | 2,_ => exact hx.f2
 | 3,_ => exact hx.f3

theorem thick1_con (b : Book) (m : Mp) (ts : List TrC) (s day : Int) (turns : List Int) (x : TrC) (hx : TrOk x) (hs : 0 ≤ s ∧ s < b.secs.length) (hn : b.secs.length ≤ 4) (ht : turns.length ≤ 1000) (hd : day ≤ 1000) :
  Contract PR glob 168 [trD x,.ref (cellsOf (bkD b m ts)) 0,.ref [.int .i64 s] 0,.ref [.int .i64 day] 0,.ref [.sl false .int turns] 0] (spD (thick1F b turns s day x)) := by
 have hw := worn_con b m ts x.w0 x.w1 x.w2 x.w3 s day turns hx.w0 hx.w1 hx.w2 hx.w3 hs hn ht hd
 have hb := wornF_in (n := b.secs.length) (s := s) (turns := turns) hx.w0 hx.w1 hx.w2 hx.w3 day.toNat
 have h := thick1_all b m ts s day turns x (wornT b turns s day x)
 obtain ⟨g1,g2,g3⟩ := trGet x s (by omega)
 rw [g1,g2] at h
 have hf := firstF_in hx s (by omega)
 have hw' : wornT b turns s day x = wornF b.secs.length x.w0 x.w1 x.w2 x.w3 turns s day.toNat := rfl
 rw [← hw'] at hb hw
 exact contract_of_path (G 29) thick1_fn h ⟨by omega,by omega,by omega,hw,by omega,by omega,g3,by omega,by simp only [inI64]; omega,by omega,by simp only [inI64]; omega,by omega,trivial⟩

theorem thick_con (b : Book) (m : Mp) (ts : List TrC) (s day : Int) (turns : List Int) (hts : ∀ x ∈ ts,TrOk x) (hne : ts ≠ []) (hl : ts.length ≤ 100000) (hs : 0 ≤ s ∧ s < b.secs.length) (hn : b.secs.length ≤ 4) (ht : turns.length ≤ 1000) (hd : day ≤ 1000) :
  Contract PR glob 123 [bkD b m ts,.int .i64 s,.int .i64 day,.sl false .int turns] (spD (thickF b ts turns s day)) := by
 have h := told_con b m ts 168 [] [cellsOf (bkD b m ts),[.int .i64 s],[.int .i64 day],[.sl false .int turns]] (thick1F b turns s day) (fun x hx => thick1_con b m ts s day turns x (hts x hx) hs hn ht hd) hne hl
 exact contract_of_path (G 12) thick_fn (thick_all b m ts s day turns (thickF b ts turns s day)) ⟨h,by omega,trivial⟩
end Go.Di

namespace Go.Di
open Proofs
theorem may_fn : FnOk PR (mk PR (lookN types) glob 9) 223 (body Tryd.f223) [.tmp 4] := by refine ⟨Tryd.f223,?_,?_,?_,?_,?_⟩ <;> kernel_rfl
theorem first0_fn : FnOk PR (mk PR (lookN types) glob 35) 171 (body Tryd.f171) [.tmp 8] := by refine ⟨Tryd.f171,?_,?_,?_,?_,?_⟩ <;> kernel_rfl
theorem whole_fn : FnOk PR (mk PR (lookN types) glob 4) 167 (body Tryd.f167) [.tmp 2] := by refine ⟨Tryd.f167,?_,?_,?_,?_,?_⟩ <;> kernel_rfl
def first0_S0 (b : Book) (m : Mp) (ts : List TrC) (s : Int) (turns : List Int) (i : Nat) : List (Key × Val) :=
 [(.tmp 1,.d (D.int .i64 s)),
  (.tmp 2,.d (D.int .i64 0)),
  (.tmp 3,.d (D.sl false E.int turns)),
  (.tmp 4,.d (D.ptr 4 0)),
  (.tmp 13,.d (D.int .i64 (Book.days b + (1 : Int)))),
  (.tmp 14,.d (.int .i64 i)),
  (.box 4,.bx (some (Box.mk false [D.sl false E.sec (Book.secs b),D.sl false E.int (Book.turns b),D.sl false E.sv (Book.svs b),D.int .i64 (Book.rule b),D.int .i64 (Book.days b),D.map m,D.sl false E.trc ts])))]
def first0_K0 : List Key := [.tmp 1,.tmp 2,.tmp 3,.tmp 4,.tmp 13,.tmp 14,.box 4]
theorem first0_0_on (b : Book) (m : Mp) (ts : List TrC) (s : Int) (turns : List Int) (i : Nat) (o : Span) (t : Bool) :
  runK (mk PR (lookN types) glob 35) [(15,true),(28,false)] [(24,spD o),(28,.bool t)] [] (Code.at [1,0,1,0,0] (body Tryd.f171)) (first0_S0 b m ts s turns i) first0_K0 =
   some ([decide ((i : Int) < Book.days b + (1 : Int)) = true,(0 : Int) ≤ (0 : Int) ∧ (0 : Int) < (Nat.cast : Nat → Int) 2,Contract PR glob 123 [D.agg [D.sl false E.sec (Book.secs b),D.sl false E.int (Book.turns b),D.sl false E.sv (Book.svs b),D.int .i64 (Book.rule b),D.int .i64 (Book.days b),D.map m,D.sl false E.trc ts],D.int .i64 s,D.int .i64 ((i : Int)),D.sl false E.int turns] (D.agg [D.int .i64 (Span.lo o),D.int .i64 (Span.hi o)]),Contract PR glob 223 [D.agg [D.int .i64 (Span.lo o),D.int .i64 (Span.hi o)],D.int .i64 (Book.rule b)] (D.bool t),t = false,inI64 ((i : Int) + (1 : Int))],Ex.normal,[(.tmp 1,.d (D.int .i64 s)),(.tmp 2,.d (D.int .i64 0)),(.tmp 3,.d (D.sl false E.int turns)),(.tmp 4,.d (D.ptr 4 0)),(.tmp 13,.d (D.int .i64 (Book.days b + (1 : Int)))),(.tmp 14,.d (D.int .i64 ((i : Int) + (1 : Int)))),(.box 4,.bx (some (Box.mk false [D.sl false E.sec (Book.secs b),D.sl false E.int (Book.turns b),D.sl false E.sv (Book.svs b),D.int .i64 (Book.rule b),D.int .i64 (Book.days b),D.map m,D.sl false E.trc ts])))]) := by kernel_rfl
theorem first0_0_hit (b : Book) (m : Mp) (ts : List TrC) (s : Int) (turns : List Int) (i : Nat) (o : Span) (t : Bool) :
  runK (mk PR (lookN types) glob 35) [(15,true),(28,true)] [(24,spD o),(28,.bool t)] [] (Code.at [1,0,1,0,0] (body Tryd.f171)) (first0_S0 b m ts s turns i) [.tmp 1,.tmp 2,.tmp 3,.tmp 4,.tmp 13,.tmp 14,.box 4,.tmp 8] =
   some ([decide ((i : Int) < Book.days b + (1 : Int)) = true,(0 : Int) ≤ (0 : Int) ∧ (0 : Int) < (Nat.cast : Nat → Int) 2,Contract PR glob 123 [D.agg [D.sl false E.sec (Book.secs b),D.sl false E.int (Book.turns b),D.sl false E.sv (Book.svs b),D.int .i64 (Book.rule b),D.int .i64 (Book.days b),D.map m,D.sl false E.trc ts],D.int .i64 s,D.int .i64 ((i : Int)),D.sl false E.int turns] (D.agg [D.int .i64 (Span.lo o),D.int .i64 (Span.hi o)]),Contract PR glob 223 [D.agg [D.int .i64 (Span.lo o),D.int .i64 (Span.hi o)],D.int .i64 (Book.rule b)] (D.bool t),t = true],Ex.ret,[(.tmp 1,.d (D.int .i64 s)),(.tmp 2,.d (D.int .i64 0)),(.tmp 3,.d (D.sl false E.int turns)),(.tmp 4,.d (D.ptr 4 0)),(.tmp 13,.d (D.int .i64 (Book.days b + (1 : Int)))),(.tmp 14,.d (D.int .i64 ((i : Int)))),(.box 4,.bx (some (Box.mk false [D.sl false E.sec (Book.secs b),D.sl false E.int (Book.turns b),D.sl false E.sv (Book.svs b),D.int .i64 (Book.rule b),D.int .i64 (Book.days b),D.map m,D.sl false E.trc ts]))),(.tmp 8,.d (D.int .i64 ((i : Int))))]) := by kernel_rfl
theorem first0_0_end (b : Book) (m : Mp) (ts : List TrC) (s : Int) (turns : List Int) (i : Nat) :
  runK (mk PR (lookN types) glob 35) [(15,false)] [] [] (Code.at [1,0,1,0,0] (body Tryd.f171)) (first0_S0 b m ts s turns i) first0_K0 =
   some ([decide ((i : Int) < Book.days b + (1 : Int)) = false],Ex.exit 0,[(.tmp 1,.d (D.int .i64 s)),(.tmp 2,.d (D.int .i64 0)),(.tmp 3,.d (D.sl false E.int turns)),(.tmp 4,.d (D.ptr 4 0)),(.tmp 13,.d (D.int .i64 (Book.days b + (1 : Int)))),(.tmp 14,.d (D.int .i64 ((i : Int)))),(.box 4,.bx (some (Box.mk false [D.sl false E.sec (Book.secs b),D.sl false E.int (Book.turns b),D.sl false E.sv (Book.svs b),D.int .i64 (Book.rule b),D.int .i64 (Book.days b),D.map m,D.sl false E.trc ts])))]) := by kernel_rfl
def first0_T0_hit (b : Book) (m : Mp) (ts : List TrC) (s : Int) (turns : List Int) (i : Nat) (o : Span) (t : Bool) : List (Key × Val) :=
 [(.tmp 1,.d (D.int .i64 s)),(.tmp 2,.d (D.int .i64 0)),(.tmp 3,.d (D.sl false E.int turns)),(.tmp 4,.d (D.ptr 4 0)),(.tmp 13,.d (D.int .i64 (Book.days b + (1 : Int)))),(.tmp 14,.d (D.int .i64 ((i : Int)))),(.box 4,.bx (some (Box.mk false [D.sl false E.sec (Book.secs b),D.sl false E.int (Book.turns b),D.sl false E.sv (Book.svs b),D.int .i64 (Book.rule b),D.int .i64 (Book.days b),D.map m,D.sl false E.trc ts]))),(.tmp 8,.d (D.int .i64 ((i : Int))))]
theorem may_all (s : Span) (rule : Int) :
  callF (mk PR (lookN types) glob 9) [] [] [] (body Tryd.f223) [.tmp 4] [spD s,.int .i64 rule] =
   some ([0 + 0 + 1 ≤ 2],D.bool (decide (Span.lo s < rule))) := by kernel_rfl
theorem first0_hit (b : Book) (m : Mp) (ts : List TrC) (s : Int) (turns : List Int) (i : Nat) (o : Span) (t : Bool) :
  callF (mk PR (lookN types) glob 35) [] [] [(0,(first0_K0,(.ret,first0_T0_hit b m ts s turns i o t)))] (body Tryd.f171) [.tmp 8] [bkD b m ts,.int .i64 s,.int .i64 0,.sl false .int turns] =
   some ([inI64 (Book.days b + (1 : Int)),LoopT PR glob 35 (Code.at [1,0,1] (body Tryd.f171)) [(.tmp 1,.d (D.int .i64 s)),(.tmp 2,.d (D.int .i64 0)),(.tmp 3,.d (D.sl false E.int turns)),(.tmp 4,.d (D.ptr 4 0)),(.tmp 13,.d (D.int .i64 (Book.days b + (1 : Int)))),(.tmp 14,.d (D.int .i64 0)),(.box 4,.bx (some (Box.mk false [D.sl false E.sec (Book.secs b),D.sl false E.int (Book.turns b),D.sl false E.sv (Book.svs b),D.int .i64 (Book.rule b),D.int .i64 (Book.days b),D.map m,D.sl false E.trc ts])))] Ex.ret (first0_T0_hit b m ts s turns i o t)],D.int .i64 ((i : Int))) := by kernel_rfl
theorem first0_end (b : Book) (m : Mp) (ts : List TrC) (s : Int) (turns : List Int) (i : Nat) :
  callF (mk PR (lookN types) glob 35) [] [] [(0,(first0_K0,(.normal,first0_S0 b m ts s turns i)))] (body Tryd.f171) [.tmp 8] [bkD b m ts,.int .i64 s,.int .i64 0,.sl false .int turns] =
   some ([inI64 (Book.days b + (1 : Int)),LoopT PR glob 35 (Code.at [1,0,1] (body Tryd.f171)) [(.tmp 1,.d (D.int .i64 s)),(.tmp 2,.d (D.int .i64 0)),(.tmp 3,.d (D.sl false E.int turns)),(.tmp 4,.d (D.ptr 4 0)),(.tmp 13,.d (D.int .i64 (Book.days b + (1 : Int)))),(.tmp 14,.d (D.int .i64 0)),(.box 4,.bx (some (Box.mk false [D.sl false E.sec (Book.secs b),D.sl false E.int (Book.turns b),D.sl false E.sv (Book.svs b),D.int .i64 (Book.rule b),D.int .i64 (Book.days b),D.map m,D.sl false E.trc ts])))] Ex.normal (first0_S0 b m ts s turns i),inI64 (Book.days b + (1 : Int))],D.int .i64 (Book.days b + (1 : Int))) := by kernel_rfl
theorem whole_all (b : Book) (m : Mp) (ts : List TrC) :
  callF (mk PR (lookN types) glob 4) [] [] [] (body Tryd.f167) [.tmp 2] [bkD b m ts] =
   some ([],D.fn 192 [] [[D.sl false E.sec (Book.secs b),D.sl false E.int (Book.turns b),D.sl false E.sv (Book.svs b),D.int .i64 (Book.rule b),D.int .i64 (Book.days b),D.map m,D.sl false E.trc ts]]) := by kernel_rfl
end Go.Di

namespace Go.Di
open Proofs

theorem may_con (s : Span) (rule : Int) : Contract PR glob 223 [spD s,.int .i64 rule] (.bool (decide (s.lo < rule))) := by
 refine contract_of_path (G 9) may_fn (may_all s rule) ?_
 repeat (first | exact trivial | refine ⟨by first | omega,?_⟩)
/-- The first number from d on,of k,at which p holds; behind the last: none. -/
def findF (p : Nat → Bool) : Nat → Nat → Nat
 | 0,d => d
 | k + 1,d => if p d = true then d else findF p k (d + 1)

theorem findF_spec (p : Nat → Bool) : ∀ (k d : Nat),d ≤ findF p k d ∧ findF p k d ≤ d + k ∧ (∀ j,d ≤ j → j < findF p k d → p j = false) ∧ (findF p k d < d + k → p (findF p k d) = true)
 | 0,d => ⟨Nat.le_refl _,Nat.le_refl _,fun j h1 h2 => by simp only [findF] at h2; omega,fun h => by simp only [findF] at h; omega⟩
 | k + 1,d => by
  simp only [findF]
  by_cases h : p d = true
  ·rw [if_pos h]
   exact ⟨Nat.le_refl _,by omega,fun j h1 h2 => by omega,fun _ => h⟩
  ·rw [if_neg h]
   obtain ⟨h1,h2,h3,h4⟩ := findF_spec p k (d + 1)
   refine ⟨by omega,by omega,fun j hj1 hj2 => ?_,fun hl => h4 (by omega)⟩
   by_cases e : j = d
   ·subst e; simpa using h
   ·exact h3 j (by omega) hj2

def mayF (b : Book) (ts : List TrC) (turns : List Int) (s : Int) (d : Nat) : Bool := decide ((thickF b ts turns s d).lo < b.rule)
def thinF (b : Book) (ts : List TrC) (turns : List Int) (s : Int) : Int := findF (mayF b ts turns s) (b.days + 1).toNat 0
theorem first0_con (b : Book) (m : Mp) (ts : List TrC) (s : Int) (turns : List Int) (hts : ∀ x ∈ ts,TrOk x) (hne : ts ≠ []) (hl : ts.length ≤ 100000) (hs : 0 ≤ s ∧ s < b.secs.length) (hn : b.secs.length ≤ 4) (ht : turns.length ≤ 1000) (hd : 0 ≤ b.days ∧ b.days ≤ 900) :
  Contract PR glob 171 [bkD b m ts,.int .i64 s,.int .i64 0,.sl false .int turns] (.int .i64 (thinF b ts turns s)) := by
 obtain ⟨h1,h2,h3,h4⟩ := findF_spec (mayF b ts turns s) (b.days + 1).toNat 0
 generalize hr : findF (mayF b ts turns s) (b.days + 1).toNat 0 = r at h1 h2 h3 h4
 unfold thinF
 rw [hr]
 have hth := fun (i : Nat) (hi : (i : Int) ≤ 1000) => thick_con b m ts s i turns hts hne hl hs hn ht hi
 have hmay := fun (i : Nat) => may_con (thickF b ts turns s i) b.rule
 have hcode : Code.at [1,0,1] (body Tryd.f171) = .block 0 (.loop (Code.at [1,0,1,0,0] (body Tryd.f171))) := by kernel_rfl
 have hon : ∀ i : Nat,i < r → i < (b.days + 1).toNat → WpL PR (mk PR (lookN types) glob 35) (Code.at [1,0,1,0,0] (body Tryd.f171)) (first0_S0 b m ts s turns i) (fun e L' => e = .normal ∧ L' = first0_S0 b m ts s turns (i + 1)) := by
  intro i hi hi2
  have hp := h3 i (by omega) hi
  exact WpL.path (G 35) (first0_0_on b m ts s turns i (thickF b ts turns s i) (mayF b ts turns s i)) ⟨decide_eq_true (by omega),by omega,hth i (by omega),hmay i,hp,by simp only [inI64]; omega,trivial⟩ ⟨rfl,rfl⟩
 by_cases hlt : r < (b.days + 1).toNat
 ·refine contract_of_path (G 35) first0_fn (first0_hit b m ts s turns r (thickF b ts turns s r) (mayF b ts turns s r)) ⟨by simp only [inI64]; omega,?_,trivial⟩
  rw [hcode]
  refine LoopT.rounds (tt := lookN types) (S := fun i : {i : Nat // i ≤ r} => first0_S0 b m ts s turns i.1) (fun i => r - i.1) ?_ ⟨0,Nat.zero_le _⟩
  intro ⟨i,hi⟩
  by_cases hir : i < r
  ·refine (hon i hir (by omega)).mono fun e L he => ?_
   obtain ⟨rfl,rfl⟩ := he
   exact ⟨⟨i + 1,hir⟩,rfl,by dsimp only; omega⟩
  ·have : i = r := by omega
   subst this
   exact WpL.path (G 35) (first0_0_hit b m ts s turns i (thickF b ts turns s i) (mayF b ts turns s i)) ⟨decide_eq_true (by omega),by omega,hth i (by omega),hmay i,h4 (by omega),trivial⟩ ⟨rfl,rfl⟩
 ·have hre : (r : Int) = b.days + 1 := by omega
  have hq := first0_end b m ts s turns r
  rw [hre]
  refine contract_of_path (G 35) first0_fn hq ?_
  refine ⟨by simp only [inI64]; omega,?_,by simp only [inI64]; omega,trivial⟩
  rw [hcode]
  refine LoopT.rounds (tt := lookN types) (S := fun i : {i : Nat // i ≤ r} => first0_S0 b m ts s turns i.1) (fun i => r - i.1) ?_ ⟨0,Nat.zero_le _⟩
  intro ⟨i,hi⟩
  by_cases hir : i < r
  ·refine (hon i hir (by omega)).mono fun e L he => ?_
   obtain ⟨rfl,rfl⟩ := he
   exact ⟨⟨i + 1,hir⟩,rfl,by dsimp only; omega⟩
  ·have : i = r := by omega
   subst this
   exact WpL.path (G 35) (first0_0_end b m ts s turns i) ⟨decide_eq_false (by omega),trivial⟩ ⟨rfl,rfl⟩
/-! ### The soonest day of all sections -/
theorem whole_con (b : Book) (m : Mp) (ts : List TrC) : Contract PR glob 167 [bkD b m ts] (.fn 192 [] [cellsOf (bkD b m ts)]) := contract_of_path (G 4) whole_fn (whole_all b m ts) trivial
end Go.Di

namespace Go.Di
open Proofs
def zbookD : D := .agg [.nil,.nil,.nil,.int .i64 0,.int .i64 0,.nilmap,.nil]
end Go.Di

/-
 DI,part Q: a range over a function whose rounds never leave: the law,told of one list.
-/
namespace Go.Di
open Go.RowKit

section
variable {P : Program}

/-- A store into one block of cells. -/
structure Wrote (g : Nat) (W W' : World) : Prop where
 same : W'.os = W.os ∧ W'.tape = W.tape ∧ W'.output = W.output ∧ W'.heap.size = W.heap.size
 block : ∃ arr arr' el el',W.heap[g]? = some (.cells arr el (0,0)) ∧ W'.heap[g]? = some (.cells arr' el' (0,0))
 other : ∀ k,k ≠ g → W'.heap[k]? = W.heap[k]?

/-- What a round leaves as it was: the iterator's own blocks,and some that were there. -/
structure Stays (KE N : Nat → Prop) (W W' : World) : Prop where
 size : W.heap.size ≤ W'.heap.size
 own : ∀ b,N b → W'.heap[b]? = W.heap[b]?
 old : ∀ b,KE b → W'.heap[b]? = W.heap[b]?

structure Abides {α : Type} (J : List α → (Nat → Prop) → World → Prop) : Prop where
 new : ∀ pre N N' W W',J pre N W → Below W.heap.size W W' → (∀ b,N' b → N b ∨ (W.heap.size ≤ b ∧ b < W'.heap.size)) → J pre N' W'
 store : ∀ pre N W W' g,J pre N W → N g → Wrote g W W' → J pre N W'

/-- The blocks without those that are handed over. -/
abbrev Less (N T : Nat → Prop) : Nat → Prop := fun b => N b ∧ ¬ T b

/-- What an iterator does at one list: it yields its elements,one after the other,and returns. Of what it yields (Told) blocks of its own (T) may be handed over. -/
def SeqM (P : Program) (gf : Nat) (lb : Array Value) {α : Type} (Told : (Nat → Prop) → α → Array Value → World → Prop) (xs : List α) (KE : Nat → Prop) (W0 : World) : Prop :=
 ∀ (l : Nat) (J : List α → (Nat → Prop) → World → Prop),Abides J →
  (∀ pre x vs N T W,J pre N W → (∃ post,pre ++ x :: post = xs) → (∀ b,T b → N b) → Told T x vs W → YieldAt Fence.wide 0 P l vs W fun e W' => e = .returned (.bool true) ∧ J (pre ++ [x]) (Less N T) W' ∧ Stays KE (Less N T) W W') →
  ∀ W,Below W0.heap.size W0 W → J [] (fun _ => False) W → Calls P gf (#[.func (.yield l) #[] #[]] ++ lb) W fun e W' => (∃ v,e = .returned v) ∧ ∃ N,J xs N W'

theorem rangeM {g : Operand} {ps : Array Tmp} {assign body : Code} {Q : Exit → Act → World → Prop} {a : Act} {w : World} {n : Nat} (hn : 1 ≤ n) {gf : Nat} {lb : Array Value} (hg : a.eval g = .func (.func gf) #[] lb)
  (eg : ∀ args w,(callFunc gf args).run P w = .ok (.enter gf args) w) {α : Type} {Told : (Nat → Prop) → α → Array Value → World → Prop} {xs : List α} {KE : Nat → Prop} (hKE : ∀ b,KE b → b < w.heap.size) (hseq : SeqM P gf lb Told xs KE w) (hps : ∀ T x vs W,Told T x vs W → vs.size = ps.size)
  (J : List α → (Nat → Prop) → World → Prop) (hJ : Abides J)
  (hput : ∀ pre N W l o o',J pre N W → w.heap.size ≤ l → ¬ N l → W.heap[l]? = some o → o.isCells = false → o.isWalk = false → J pre N (W.putObj l o'))
  (h0 : J [] (fun _ => False) w)
  (hround : ∀ l D pre x vs N T W,J pre N W → (∃ post,pre ++ x :: post = xs) → (∀ b,T b → N b) → Told T x vs W → w.heap.size ≤ D → D < l → ¬ N l → ¬ N D → l < W.heap.size → (∃ o,W.heap[l]? = some o ∧ o.isCells = false ∧ o.isWalk = false) → (∃ o,W.heap[D]? = some o ∧ o.isCells = false ∧ o.isWalk = false) →
   assign.wpIn (FR (some l)) 0 P (Exit.then (fun a1 W1 => W1.heap[l]? = W.heap[l]? ∧ W1.heap[D]? = W.heap[D]? ∧ W.heap.size ≤ W1.heap.size ∧
    ∀ o',o'.isCells = false → o'.isWalk = false → body.wpIn (FR (some l)) 0 P (fun e a' W' => e = .normal ∧ W'.heap[l]? = some o' ∧ W'.heap[D]? = W.heap[D]? ∧ J (pre ++ [x]) (Less N T) W' ∧ Stays KE (Less N T) W W') a1 (W1.putObj l o')) (fun _ _ _ => False))
    { tmps := (ps.zip vs).foldl (fun t (p,v) => t.setIfInBounds p v) a.tmps,defers := [] } W)
  (hdone : ∀ D N W,J xs N W → w.heap.size ≤ D → W.heap[D]? = some (.deferred (some [])) → Q .normal { a with defers := { target := .collected D,args := #[] } :: a.defers } W) :
  (Code.rangeFunc g ps assign body).wpIn Fence.wide n P Q a w := by
 refine wpIn_rangeFunc ?_
 intro fn hfn
 rw [show Fence.wide.round = none from rfl]
 obtain ⟨rec,hrec⟩ : ∃ rec : LoopState → Option Code → Loop,rec = fun st pe => { state := st,pending := pe,fn,tmps := a.tmps,params := ps,assign,body,defers := w.heap.size } := ⟨_,rfl⟩
 obtain ⟨W1,hW1⟩ : ∃ W1,(w.alloc (.deferred (some []))).alloc (.loop (rec .ready none)) = W1 := ⟨_,rfl⟩
 have hb1 : Below w.heap.size w W1 := by
  rw [← hW1]; exact (((Below.refl _ w).alloc (Nat.le_refl _) _).alloc (by simp) _)
 have hs1 : W1.heap.size = w.heap.size + 2 := by rw [← hW1]; simp
 have hL1 : W1.heap[w.heap.size + 1]? = some (.loop (rec .ready none)) := by
  rw [← hW1]; have := World.alloc_heap_new (w.alloc (.deferred (some []))) (.loop (rec .ready none)); rwa [World.size_alloc] at this
 have hK1 : W1.heap[w.heap.size]? = some (.deferred (some [])) := by
  rw [← hW1]; exact (Below.heap_alloc _ _ _ (by simp)).trans (World.alloc_heap_new w _)
 have hJ0 : J [] (fun _ => False) W1 := hJ.new _ _ _ _ _ h0 hb1 (fun b hb => hb.elim)
 refine ⟨w.heap.size + 1,[{ target := .collected w.heap.size,args := #[] }],W1,{ target := .fn (.func gf) lb,args := #[.func (.yield (w.heap.size + 1)) #[] #[]] },W1,gf,
  #[.func (.yield (w.heap.size + 1)) #[] #[]] ++ lb,W1,?_,?_,?_,?_,fun _ => hn,?_⟩
 ·rw [← hW1,hrec]; exact run_enterLoop_outer _ _ _ _ _
 ·simp only [resolve,hg]
  simp [go_sem,Deferred.ofValue]
 ·intro f' hf'; trivial
 ·simp [invoke,eg]
 ·refine callsIn_wide.2 ?_
  have hab : Abides (fun (pre : List α) N W => J pre N W ∧ (∀ b,N b → W1.heap.size ≤ b) ∧ W1.heap.size ≤ W.heap.size ∧ W.heap[w.heap.size + 1]? = some (.loop (rec .ready none)) ∧ W.heap[w.heap.size]? = some (.deferred (some []))) := by
   refine ⟨fun pre N N' W W' h hb hN => ?_,fun pre N W W' g' h hN hw => ?_⟩
   ·obtain ⟨h1,h2,h3,h4,h5⟩ := h
    refine ⟨hJ.new _ _ _ _ _ h1 hb hN,fun b hb' => ?_,Nat.le_trans h3 hb.size,by rw [hb.block _ (by omega)]; exact h4,by rw [hb.block _ (by omega)]; exact h5⟩
    rcases hN b hb' with h | h
    ·exact h2 b h
    ·omega
   ·obtain ⟨h1,h2,h3,h4,h5⟩ := h
    have := h2 g' hN
    exact ⟨hJ.store _ _ _ _ _ h1 hN hw,h2,by rw [hw.same.2.2.2]; exact h3,by rw [hw.other _ (by omega)]; exact h4,by rw [hw.other _ (by omega)]; exact h5⟩
  refine (hseq (w.heap.size + 1) _ hab ?_ W1 hb1 ⟨hJ0,fun b hb => hb.elim,Nat.le_refl _,hL1,hK1⟩).mono ?_
  ·rintro pre x vs N T W ⟨hj,hN,hsz,hl,hk⟩ hx hT htold
   have hy := run_yield (P := P) (args := vs) hl (by rw [hrec]; exact hps T x vs W htold)
   rw [hrec] at hy
   refine ⟨fn,_,assign,body,hy,roundIn_of_wpIn (F := Fence.wide) trivial ?_⟩
   have hnl : ¬ N (w.heap.size + 1) := fun h => by have := hN _ h; omega
   have hnd : ¬ N w.heap.size := fun h => by have := hN _ h; omega
   have hr := hround (w.heap.size + 1) w.heap.size pre x vs N T W hj hx hT htold (Nat.le_refl _) (by omega) hnl hnd (by omega) ⟨_,hl,rfl,rfl⟩ ⟨_,hk,rfl,rfl⟩
   refine wpIn_mono hr fun e a1 Wa he => ?_
   cases e with
   | normal =>
    obtain ⟨e1,e2,e3,e4⟩ := he
    rw [hl] at e1
    refine ⟨_,run_beginRound e1 (by rw [hrec]),?_⟩
    refine wpIn_mono (e4 (.loop { rec .ready none with state := .busy }) rfl rfl) fun e a2 Wb hb => ?_
    obtain ⟨rfl,f1,f2,f3,f4⟩ := hb
    have hlt : w.heap.size + 1 < Wb.heap.size := (Array.getElem?_eq_some_iff.1 f1).1
    have hend := run_endRound (P := P) none f1
    have hrr : (Obj.loop { ({ rec .ready none with state := .busy } : Loop) with state := if (none : Option Code).isNone then .ready else .done,pending := none }) = .loop (rec .ready none) := by rw [hrec]; rfl
    rw [hrr] at hend
    refine ⟨.bool true,_,hend,rfl,⟨hput _ _ _ _ _ _ f3 (by omega) (fun h => hnl h.1) f1 rfl rfl,fun b hb => hN b hb.1,?_,World.putObj_heap_same hlt,?_⟩,⟨?_,fun b hb => ?_,fun b hb => ?_⟩⟩
    ·have := f4.size
     simp [World.putObj]
     omega
    ·rw [World.putObj_heap_other (by omega),f2,hk]
    ·simpa [World.putObj] using f4.size
    ·rw [World.putObj_heap_other (fun (e : b = w.heap.size + 1) => hnl (by rw [← e]; exact hb.1))]
     exact f4.own b hb
    ·have := hKE b hb
     rw [World.putObj_heap_other (by omega)]
     exact f4.old b hb
   | _ => exact he.elim
  ·rintro e W2 ⟨⟨v,rfl⟩,N,hj,hN,hsz,hl,hk⟩
   have hnl : ¬ N (w.heap.size + 1) := fun h => by have := hN _ h; omega
   exact ⟨none,_,by have := run_endLoop (P := P) hl (by rw [hrec]; simp); rw [hrec] at this; exact this,hdone w.heap.size N _ (hput _ _ _ _ _ _ hj (by omega) hnl hl rfl rfl) (Nat.le_refl _) ((World.putObj_heap_other (by omega)).trans hk)⟩
end
end Go.Di

