/- Part 23: an interpreter over plain data for this code, with the proof that it says what the model does, and the contracts of the functions. No condition. -/
import Derived.Test.YtfkmodcjddfeiaaDoorDi22
import Derived.SizedLaws
set_option linter.unusedVariables false
set_option linter.unusedSimpArgs false
set_option maxRecDepth 100000
namespace Go.Di

/-! ### The reference's Check -/
/-- A loop that stops where something is not good. -/
theorem stop_loop {nt id : Nat} {cb c : Code} (hb : cb = .block id (.loop c)) {St : Bool → Nat → List (Key × Val)} (good : Nat → Bool) (N : Nat)
  (hon : ∀ i, i < N → (∀ j < i, good j = true) → WpL PR (mk PR (lookN types) glob nt) c (St true i) fun e1 L1 => e1 = .normal ∧ L1 = St (good i) (i + 1))
  (hno : ∀ i, WpL PR (mk PR (lookN types) glob nt) c (St false i) fun e1 L1 => e1 = .exit id ∧ L1 = St false i)
  (hend : WpL PR (mk PR (lookN types) glob nt) c (St true N) fun e1 L1 => e1 = .exit id ∧ L1 = St true N) :
  ∃ i, LoopT PR glob nt cb (St true 0) .normal (St ((List.range N).all good) i) ∧ ((List.range N).all good = true → i = N) := by
 rcases find_first (fun i => !good i) N with ⟨m, hm, hbad, hg⟩ | hg
 ·have hbad : good m = false := by simpa using hbad
  have hall : (List.range N).all good = false := by
   rw [Bool.eq_false_iff]
   intro h
   rw [List.all_eq_true] at h
   have := h m (List.mem_range.2 hm)
   rw [hbad] at this
   cases this
  rw [hall]
  refine ⟨m + 1, ?_, fun h => by cases h⟩
  have h := LoopT.count (P := PR) (tt := lookN types) (glob := glob) (n := nt) hb (m + 1) (fun i => St (decide (i ≤ m)) i) (e := .normal) (L' := St false (m + 1)) (fun i hi => ?_) ?_
  ·rw [show decide (0 ≤ m) = true from decide_eq_true (by omega)] at h
   exact h
  ·rw [show decide (i ≤ m) = true from decide_eq_true (by omega)]
   refine (hon i (by omega) (fun j hj => by have := hg j (by omega); simpa using this)).mono fun e1 L1 h => ⟨h.1, ?_⟩
   rw [h.2]
   by_cases e : i = m
   ·subst e
    rw [hbad, show decide (i + 1 ≤ i) = false from decide_eq_false (by omega)]
   ·have hgi : good i = true := by have := hg i (by omega); simpa using this
    rw [hgi, show decide (i + 1 ≤ m) = true from decide_eq_true (by omega)]
  ·show WpL _ _ _ (St (decide (m + 1 ≤ m)) (m + 1)) _
   rw [show decide (m + 1 ≤ m) = false from decide_eq_false (by omega)]
   exact (hno _).mono fun e1 L1 h => ⟨.inl ⟨h.1, rfl⟩, h.2⟩
 ·have hg : ∀ i < N, good i = true := fun i hi => by have := hg i hi; simpa using this
  have hall : (List.range N).all good = true := List.all_eq_true.2 fun i hi => hg i (List.mem_range.1 hi)
  rw [hall]
  refine ⟨N, LoopT.count (tt := lookN types) hb N (fun i => St true i) (fun i hi => ?_) (hend.mono fun e1 L1 h => ⟨.inl ⟨h.1, rfl⟩, h.2⟩), fun _ => rfl⟩
  refine (hon i hi (fun j hj => hg j (by omega))).mono fun e1 L1 h => ⟨h.1, ?_⟩
  rw [h.2, hg i hi]
theorem no_loop {nt id : Nat} {cb c : Code} (hb : cb = .block id (.loop c)) {L : List (Key × Val)} (hno : WpL PR (mk PR (lookN types) glob nt) c L fun e1 L1 => e1 = .exit id ∧ L1 = L) : LoopT PR glob nt cb L .normal L :=
 LoopT.count (tt := lookN types) hb 0 (fun _ => L) (fun i hi => absurd hi (by omega)) (hno.mono fun e1 L1 h => ⟨.inl ⟨h.1, rfl⟩, h.2⟩)
theorem range_all {α : Type} (l : List α) (d : α) (f : α → Bool) : (List.range l.length).all (fun i => f (l.getD i d)) = l.all f := by
 rw [Bool.eq_iff_iff, List.all_eq_true, List.all_eq_true]
 constructor
 ·intro h x hx
  obtain ⟨i, hi, rfl⟩ := List.getElem_of_mem hx
  have := h i (List.mem_range.2 hi)
  rwa [List.getD_eq_getElem?_getD, List.getElem?_eq_getElem hi, Option.getD_some] at this
 ·intro h i hi
  exact h _ (getD_mem l i d (List.mem_range.1 hi))
def secB (x : Sec) : Bool := validSF x.t 0 200 && decide (x.t.hi - x.t.lo ≤ 3) && validSF x.w 0 3 && decide (x.w.hi - x.w.lo ≤ 2)
theorem secB_eq (x : Sec) : secB x = secOkF x := by
 rw [Bool.eq_iff_iff]
 simp only [secB, validSF, secOkF, isSpanF, Bool.and_eq_true, decide_eq_true_eq]
 omega
theorem rc_join1 (b : Book) : LoopT PR glob 161 (Code.at [1, 0] (body Proofs.Tryd.f105)) (rCheck_R1 b) .normal (rCheck_RS1 b (ok0F b)) := by
 have h0 := inside_con' b.secs.length 1 4
 have h1' := inside_con' b.days 1 30
 have h2' := inside_con' b.rule 0 200
 unfold ok0F
 cases h1 : withinF b.secs.length 1 4 with
 | false =>
  refine joinT (rCheck_R1_a b) ?_ rfl
  repeat (first | exact trivial | refine ⟨by first | exact h0 | assumption | omega, ?_⟩)
 | true =>
  cases h2 : withinF b.days 1 30 with
  | false =>
   refine joinT (rCheck_R1_b b) ?_ rfl
   repeat (first | exact trivial | refine ⟨by first | exact h0 | exact h1' | assumption | omega, ?_⟩)
  | true =>
   cases h3 : withinF b.rule 0 200 with
   | false =>
    refine joinT (rCheck_R1_c b) ?_ rfl
    repeat (first | exact trivial | refine ⟨by first | exact h0 | exact h1' | exact h2' | assumption | omega, ?_⟩)
   | true =>
    by_cases h4 : b.turns.length ≤ 4
    ·have h4' : decide ((b.turns.length : Int) ≤ 4) = true := decide_eq_true (by omega)
     rw [show decide (b.turns.length ≤ 4) = true from decide_eq_true h4, show decide (b.svs.length ≤ 8) = decide ((b.svs.length : Int) ≤ 8) from by simp only [decide_eq_decide]; omega]
     refine joinT (rCheck_R1_e b) ?_ rfl
     repeat (first | exact trivial | refine ⟨by first | exact h0 | exact h1' | exact h2' | assumption | omega, ?_⟩)
    ·have h4' : decide ((b.turns.length : Int) ≤ 4) = false := decide_eq_false (by omega)
     rw [show decide (b.turns.length ≤ 4) = false from decide_eq_false h4]
     refine joinT (rCheck_R1_d b) ?_ rfl
     repeat (first | exact trivial | refine ⟨by first | exact h0 | exact h1' | exact h2' | assumption | omega, ?_⟩)
theorem rc_join7 (b : Book) (ok : Bool) (most : Int) (i : Nat) : LoopT PR glob 161 (Code.at [1, 1, 1, 0, 1, 0, 0, 1, 0, 0, 1, 0] (body Proofs.Tryd.f105)) (rCheck_R7 b ok most i) .normal (rCheck_RS7 b ok most i (secB (b.secs.getD i sec0))) := by
 have c1 := validB_con (b.secs.getD i sec0).t 0 200
 have c2 := validB_con (b.secs.getD i sec0).w 0 3
 unfold secB
 cases h1 : validSF (b.secs.getD i sec0).t 0 200 with
 | false =>
  refine joinT (rCheck_R7_a b ok most i) ?_ rfl
  repeat (first | exact trivial | refine ⟨by first | exact c1 | exact h1 | omega, ?_⟩)
 | true =>
  have v1 := h1
  simp only [validSF, Bool.and_eq_true, decide_eq_true_eq] at v1
  have j1 : inI64 ((b.secs.getD i sec0).t.hi - (b.secs.getD i sec0).t.lo) := by simp only [inI64]; omega
  by_cases h2 : (b.secs.getD i sec0).t.hi - (b.secs.getD i sec0).t.lo ≤ 3
  ·have d2 : decide ((b.secs.getD i sec0).t.hi - (b.secs.getD i sec0).t.lo ≤ 3) = true := decide_eq_true h2
   rw [d2]
   cases h3 : validSF (b.secs.getD i sec0).w 0 3 with
   | false =>
    refine joinT (rCheck_R7_c b ok most i) ?_ rfl
    repeat (first | exact trivial | refine ⟨by first | exact c1 | exact h1 | exact j1 | exact d2 | exact c2 | exact h3 | omega, ?_⟩)
   | true =>
    have v3 := h3
    simp only [validSF, Bool.and_eq_true, decide_eq_true_eq] at v3
    have j2 : inI64 ((b.secs.getD i sec0).w.hi - (b.secs.getD i sec0).w.lo) := by simp only [inI64]; omega
    refine joinT (rCheck_R7_e b ok most i) ?_ rfl
    repeat (first | exact trivial | refine ⟨by first | exact c1 | exact h1 | exact j1 | exact d2 | exact c2 | exact h3 | exact j2 | omega, ?_⟩)
  ·have d2 : decide ((b.secs.getD i sec0).t.hi - (b.secs.getD i sec0).t.lo ≤ 3) = false := decide_eq_false h2
   rw [d2]
   refine joinT (rCheck_R7_b b ok most i) ?_ rfl
   repeat (first | exact trivial | refine ⟨by first | exact c1 | exact h1 | exact j1 | exact d2 | omega, ?_⟩)
theorem rc_loop0 (b : Book) (hl : b.secs.length ≤ 9223372036854775807) (ok : Bool) : ∃ i m, LoopT PR glob 161 (Code.at [1, 1, 1, 0, 1] (body Proofs.Tryd.f105)) (rCheck_S0 b ok 0 0) .normal (rCheck_S0 b (ok && b.secs.all secOkF) m i) ∧ ((ok && b.secs.all secOkF) = true → m = mostF b.secs) := by
 have hno : ∀ m i, WpL PR (mk PR (lookN types) glob 161) (Code.at [1, 1, 1, 0, 1, 0, 0] (body Proofs.Tryd.f105)) (rCheck_S0 b false m i) fun e1 L1 => e1 = .exit 0 ∧ L1 = rCheck_S0 b false m i := fun m i => by
  refine WpL.path (G 161) (rCheck_0_no b false m i) ?_ ⟨rfl, rfl⟩
  repeat (first | exact trivial | refine ⟨by first | rfl | omega, ?_⟩)
 cases ok with
 | false => exact ⟨0, 0, no_loop (id := 0) (c := Code.at [1, 1, 1, 0, 1, 0, 0] (body Proofs.Tryd.f105)) (by kernel_rfl) (hno 0 0), fun h => by cases h⟩
 | true =>
  obtain ⟨i, h1, h2⟩ := stop_loop (nt := 161) (id := 0) (cb := Code.at [1, 1, 1, 0, 1] (body Proofs.Tryd.f105)) (c := Code.at [1, 1, 1, 0, 1, 0, 0] (body Proofs.Tryd.f105)) (by kernel_rfl) (St := fun ok i => rCheck_S0 b ok (mostF (b.secs.take i)) i) (fun i => secB (b.secs.getD i sec0)) b.secs.length (fun i hi hg => by
   have hlt : decide ((i : Int) < b.secs.length) = true := decide_eq_true (by omega)
   have hix : (0 : Int) ≤ i ∧ (i : Int) < b.secs.length := by omega
   have hi64 : inI64 ((i : Int) + 1) := by simp only [inI64]; omega
   have hj := rc_join7 b true (mostF (b.secs.take i)) i
   have hm : mostF (b.secs.take (i + 1)) = mx (mostF (b.secs.take i)) (b.secs.getD i sec0).w.hi := take_foldl (fun m (x : Sec) => mx m x.w.hi) b.secs 0 i sec0 hi
   refine WpL.path (G 161) (rCheck_0_on b true (mostF (b.secs.take i)) i (secB (b.secs.getD i sec0))) ?_ ⟨rfl, by rw [hm]; rfl⟩
   repeat (first | exact trivial | refine ⟨by first | exact hlt | exact hix | exact hj | exact hi64 | rfl | omega, ?_⟩)) (fun i => hno _ i) (by
   have hlt : decide ((b.secs.length : Int) < b.secs.length) = false := decide_eq_false (by omega)
   refine WpL.path (G 161) (rCheck_0_end b true _ b.secs.length) ?_ ⟨rfl, rfl⟩
   repeat (first | exact trivial | refine ⟨by first | exact hlt | rfl | omega, ?_⟩))
  have e : ((List.range b.secs.length).all fun i => secB (b.secs.getD i sec0)) = (true && b.secs.all secOkF) := by
   rw [range_all b.secs sec0 secB, Bool.true_and]
   congr 1
   exact funext secB_eq
  rw [e] at h1 h2
  refine ⟨i, mostF (b.secs.take i), h1, fun h => ?_⟩
  rw [h2 h, List.take_length]
theorem rc_loop2 (b : Book) (hl : b.secs.length ≤ 9223372036854775807) (ok : Bool) (m : Int) (hm : ok = true → inI64 (b.days * m)) : ∃ i, LoopT PR glob 161 (Code.at [1, 1, 1, 1, 0, 1] (body Proofs.Tryd.f105)) (rCheck_S2 b ok m 0) .normal (rCheck_S2 b (ok && b.secs.all fun x => decide (x.t.lo ≥ b.days * m)) m i) := by
 have hno : ∀ i, WpL PR (mk PR (lookN types) glob 161) (Code.at [1, 1, 1, 1, 0, 1, 0, 0] (body Proofs.Tryd.f105)) (rCheck_S2 b false m i) fun e1 L1 => e1 = .exit 2 ∧ L1 = rCheck_S2 b false m i := fun i => by
  refine WpL.path (G 161) (rCheck_2_no b false m i) ?_ ⟨rfl, rfl⟩
  repeat (first | exact trivial | refine ⟨by first | rfl | omega, ?_⟩)
 cases ok with
 | false => exact ⟨0, no_loop (id := 2) (c := Code.at [1, 1, 1, 1, 0, 1, 0, 0] (body Proofs.Tryd.f105)) (by kernel_rfl) (hno 0)⟩
 | true =>
  have hm := hm rfl
  obtain ⟨i, h1, h2⟩ := stop_loop (nt := 161) (id := 2) (cb := Code.at [1, 1, 1, 1, 0, 1] (body Proofs.Tryd.f105)) (c := Code.at [1, 1, 1, 1, 0, 1, 0, 0] (body Proofs.Tryd.f105)) (by kernel_rfl) (St := fun ok i => rCheck_S2 b ok m i) (fun i => decide ((b.secs.getD i sec0).t.lo ≥ b.days * m)) b.secs.length (fun i hi hg => by
   have hlt : decide ((i : Int) < b.secs.length) = true := decide_eq_true (by omega)
   have hix : (0 : Int) ≤ i ∧ (i : Int) < b.secs.length := by omega
   have hi64 : inI64 ((i : Int) + 1) := by simp only [inI64]; omega
   refine WpL.path (G 161) (rCheck_2_on b true m i) ?_ ⟨rfl, rfl⟩
   repeat (first | exact trivial | refine ⟨by first | exact hlt | exact hix | exact hm | exact hi64 | rfl | omega, ?_⟩)) (fun i => hno i) (by
   have hlt : decide ((b.secs.length : Int) < b.secs.length) = false := decide_eq_false (by omega)
   refine WpL.path (G 161) (rCheck_2_end b true m b.secs.length) ?_ ⟨rfl, rfl⟩
   repeat (first | exact trivial | refine ⟨by first | exact hlt | rfl | omega, ?_⟩))
  rw [range_all b.secs sec0 fun x => decide (x.t.lo ≥ b.days * m)] at h1
  exact ⟨i, h1⟩
def turnB (b : Book) (i : Nat) : Bool := withinF (b.turns.getD i 0) 1 b.days && (decide (i = 0) || decide (b.turns.getD i 0 > b.turns.getD (i - 1) 0))
theorem turnB_fold (b : Book) : ∀ i, i ≤ b.turns.length → (b.turns.take i).foldl (turnF b.days) (true, 0) = ((List.range i).all (turnB b), if i = 0 then 0 else b.turns.getD (i - 1) 0)
 | 0, _ => rfl
 | i + 1, hi => by
  have h := take_foldl (turnF b.days) b.turns (true, 0) i 0 (by omega)
  rw [h, turnB_fold b i (by omega), List.range_succ, List.all_append]
  simp only [turnF, List.all_cons, List.all_nil, Bool.and_true]
  rw [show (if i + 1 = 0 then (0 : Int) else b.turns.getD (i + 1 - 1) 0) = b.turns.getD i 0 from if_neg (by omega)]
  congr 1
  cases ha : (List.range i).all (turnB b) with
  | false => rfl
  | true =>
   rw [Bool.true_and, Bool.true_and]
   unfold turnB
   rw [Bool.eq_iff_iff]
   simp only [Bool.and_eq_true, Bool.or_eq_true, within_iff, decide_eq_true_eq]
   by_cases e : i = 0
   ·rw [if_pos e]
    omega
   ·rw [if_neg e]
    rw [List.all_eq_true] at ha
    have hp := ha (i - 1) (List.mem_range.2 (by omega))
    unfold turnB at hp
    rw [Bool.and_eq_true, within_iff] at hp
    have hp := hp.1
    generalize b.turns.getD (i - 1) 0 = q at hp
    generalize b.turns.getD i 0 = p
    omega
theorem rc_loop4 (b : Book) (hl : b.turns.length ≤ 9223372036854775807) (ok : Bool) : ∃ i, LoopT PR glob 161 (Code.at [1, 1, 1, 1, 1, 0, 1] (body Proofs.Tryd.f105)) (rCheck_S4 b ok 0) .normal (rCheck_S4 b (ok && risesF b.days b.turns) i) := by
 have hno : ∀ i, WpL PR (mk PR (lookN types) glob 161) (Code.at [1, 1, 1, 1, 1, 0, 1, 0, 0] (body Proofs.Tryd.f105)) (rCheck_S4 b false i) fun e1 L1 => e1 = .exit 4 ∧ L1 = rCheck_S4 b false i := fun i => by
  refine WpL.path (G 161) (rCheck_4_no b false i) ?_ ⟨rfl, rfl⟩
  repeat (first | exact trivial | refine ⟨by first | rfl | omega, ?_⟩)
 cases ok with
 | false => exact ⟨0, no_loop (id := 4) (c := Code.at [1, 1, 1, 1, 1, 0, 1, 0, 0] (body Proofs.Tryd.f105)) (by kernel_rfl) (hno 0)⟩
 | true =>
  obtain ⟨i, h1, h2⟩ := stop_loop (nt := 161) (id := 4) (cb := Code.at [1, 1, 1, 1, 1, 0, 1] (body Proofs.Tryd.f105)) (c := Code.at [1, 1, 1, 1, 1, 0, 1, 0, 0] (body Proofs.Tryd.f105)) (by kernel_rfl) (St := fun ok i => rCheck_S4 b ok i) (turnB b) b.turns.length (fun i hi hg => by
   have hlt : decide ((i : Int) < b.turns.length) = true := decide_eq_true (by omega)
   have hix : (0 : Int) ≤ i ∧ (i : Int) < b.turns.length := by omega
   have hi64 : inI64 ((i : Int) + 1) := by simp only [inI64]; omega
   have c := inside_con' (b.turns.getD i 0) 1 b.days
   unfold turnB
   cases hw : withinF (b.turns.getD i 0) 1 b.days with
   | false =>
    refine WpL.path (G 161) (rCheck_4_a b true i) ?_ ⟨rfl, rfl⟩
    repeat (first | exact trivial | refine ⟨by first | exact hlt | exact hix | exact c | exact hw | exact hi64 | rfl | omega, ?_⟩)
   | true =>
    by_cases h0 : i = 0
    ·have d0 : ((i : Int) == 0) = true := by rw [beq_iff_eq]; omega
     rw [decide_eq_true h0]
     refine WpL.path (G 161) (rCheck_4_b b true i) ?_ ⟨rfl, rfl⟩
     repeat (first | exact trivial | refine ⟨by first | exact hlt | exact hix | exact c | exact hw | exact d0 | exact hi64 | rfl | omega, ?_⟩)
    ·have d0 : ((i : Int) == 0) = false := by rw [beq_eq_false_iff_ne]; omega
     have hj : inI64 ((i : Int) - 1) := by simp only [inI64]; omega
     have hjx : (0 : Int) ≤ (i : Int) - 1 ∧ (i : Int) - 1 < b.turns.length := by omega
     have e : ((i : Int) - 1).toNat = i - 1 := by omega
     rw [decide_eq_false h0, Bool.false_or, Bool.true_and, ← e]
     refine WpL.path (G 161) (rCheck_4_c b true i) ?_ ⟨rfl, rfl⟩
     repeat (first | exact trivial | refine ⟨by first | exact hlt | exact hix | exact c | exact hw | exact d0 | exact hj | exact hjx | exact hi64 | rfl | omega, ?_⟩)) (fun i => hno i) (by
   have hlt : decide ((b.turns.length : Int) < b.turns.length) = false := decide_eq_false (by omega)
   refine WpL.path (G 161) (rCheck_4_end b true b.turns.length) ?_ ⟨rfl, rfl⟩
   repeat (first | exact trivial | refine ⟨by first | exact hlt | rfl | omega, ?_⟩))
  have e : (List.range b.turns.length).all (turnB b) = risesF b.days b.turns := by
   have := turnB_fold b b.turns.length (Nat.le_refl _)
   rw [List.take_length] at this
   unfold risesF
   rw [this]
  rw [e] at h1
  exact ⟨i, h1⟩
theorem rc_loop6 (b : Book) (hs : b.secs.length ≤ 9223372036854775807) (hl : b.svs.length ≤ 9223372036854775807) (ok : Bool) : ∃ i, LoopT PR glob 161 (Code.at [1, 1, 1, 1, 1, 1, 0, 1] (body Proofs.Tryd.f105)) (rCheck_S6 b ok 0) .normal (rCheck_S6 b (ok && b.svs.all fun y => isSurveyF b y) i) := by
 have hno : ∀ i, WpL PR (mk PR (lookN types) glob 161) (Code.at [1, 1, 1, 1, 1, 1, 0, 1, 0, 0] (body Proofs.Tryd.f105)) (rCheck_S6 b false i) fun e1 L1 => e1 = .exit 6 ∧ L1 = rCheck_S6 b false i := fun i => by
  refine WpL.path (G 161) (rCheck_6_no b false i) ?_ ⟨rfl, rfl⟩
  repeat (first | exact trivial | refine ⟨by first | rfl | omega, ?_⟩)
 cases ok with
 | false => exact ⟨0, no_loop (id := 6) (c := Code.at [1, 1, 1, 1, 1, 1, 0, 1, 0, 0] (body Proofs.Tryd.f105)) (by kernel_rfl) (hno 0)⟩
 | true =>
  obtain ⟨i, h1, h2⟩ := stop_loop (nt := 161) (id := 6) (cb := Code.at [1, 1, 1, 1, 1, 1, 0, 1] (body Proofs.Tryd.f105)) (c := Code.at [1, 1, 1, 1, 1, 1, 0, 1, 0, 0] (body Proofs.Tryd.f105)) (by kernel_rfl) (St := fun ok i => rCheck_S6 b ok i) (fun i => isSurveyF b (b.svs.getD i sv0)) b.svs.length (fun i hi hg => by
   have hlt : decide ((i : Int) < b.svs.length) = true := decide_eq_true (by omega)
   have hix : (0 : Int) ≤ i ∧ (i : Int) < b.svs.length := by omega
   have hi64 : inI64 ((i : Int) + 1) := by simp only [inI64]; omega
   have c := rSurvey_con b (b.svs.getD i sv0) hs
   refine WpL.path (G 161) (rCheck_6_on b true i (isSurveyF b (b.svs.getD i sv0))) ?_ ⟨rfl, rfl⟩
   repeat (first | exact trivial | refine ⟨by first | exact hlt | exact hix | exact c | exact hi64 | rfl | omega, ?_⟩)) (fun i => hno i) (by
   have hlt : decide ((b.svs.length : Int) < b.svs.length) = false := decide_eq_false (by omega)
   refine WpL.path (G 161) (rCheck_6_end b true b.svs.length) ?_ ⟨rfl, rfl⟩
   repeat (first | exact trivial | refine ⟨by first | exact hlt | rfl | omega, ?_⟩))
  rw [range_all b.svs sv0 fun y => isSurveyF b y] at h1
  exact ⟨i, h1⟩
theorem rCheck_con {b : Book} (hs : Small b) : Contract PR glob 105 [bookD b] (.int .i64 (checkF b)) := by
 have hj := rc_join1 b
 obtain ⟨i1, m, h1, hm⟩ := rc_loop0 b hs.secs (ok0F b)
 have hday : (ok0F b && b.secs.all secOkF) = true → inI64 (b.days * m) := fun h => by
  rw [hm h, Int.mul_comm]
  exact most_days (by rw [ok1_eq]; exact h)
 obtain ⟨i2, h2⟩ := rc_loop2 b hs.secs _ m hday
 obtain ⟨i3, h3⟩ := rc_loop4 b hs.turns ((ok0F b && b.secs.all secOkF) && b.secs.all fun x => decide (x.t.lo ≥ b.days * m))
 obtain ⟨i4, h4⟩ := rc_loop6 b hs.secs hs.svs (((ok0F b && b.secs.all secOkF) && b.secs.all fun x => decide (x.t.lo ≥ b.days * m)) && risesF b.days b.turns)
 have he : (((((ok0F b && b.secs.all secOkF) && b.secs.all fun x => decide (x.t.lo ≥ b.days * m)) && risesF b.days b.turns) && b.svs.all fun y => isSurveyF b y)) = validF b := by
  have q4 : ok4F b b.svs = ((ok3F b b.turns).1 && b.svs.all fun x => isSurveyF b x) := foldl_and _ _ _
  have q3 : (ok3F b b.turns).1 = (ok2F b b.secs && risesF b.days b.turns) := turns_and _ _ _
  unfold validF
  rw [q4, q3, ok2_eq, ok1_eq]
  cases ha : (ok0F b && b.secs.all secOkF) with
  | false => rfl
  | true =>
   rw [hm ha, Int.mul_comm]
   simp only [Bool.true_and]
 rw [he] at h4
 generalize (((ok0F b && b.secs.all secOkF) && b.secs.all fun x => decide (x.t.lo ≥ b.days * m)) && risesF b.days b.turns) = k3 at h3 h4
 generalize ((ok0F b && b.secs.all secOkF) && b.secs.all fun x => decide (x.t.lo ≥ b.days * m)) = k2 at h2 h3
 generalize (ok0F b && b.secs.all secOkF) = k1 at h1 h2
 unfold checkF
 cases hv : validF b with
 | true =>
  rw [hv] at h4
  refine contract_of_path (G 161) rCheck_fn (rCheck_good b (ok0F b) k1 k2 k3 true m i1 i2 i3 i4) ?_
  repeat (first | exact trivial | refine ⟨by first | exact hj | exact h1 | exact h2 | exact h3 | exact h4 | rfl | omega, ?_⟩)
 | false =>
  rw [hv] at h4
  refine contract_of_path (G 161) rCheck_fn (rCheck_bad b (ok0F b) k1 k2 k3 false m i1 i2 i3 i4) ?_
  repeat (first | exact trivial | refine ⟨by first | exact hj | exact h1 | exact h2 | exact h3 | exact h4 | rfl | omega, ?_⟩)
end Go.Di

namespace Go.Di

/-! ### What can be, by the reference -/
theorem can_false_of {b : Book} (h : ¬ truthsF b [] ≠ []) : canF b = false := by
 have : truthsF b [] = [] := Classical.byContradiction h
 unfold canF
 rw [this]
 rfl
theorem rCan_con {b : Book} (hV : Val9 b) : Contract PR glob 154 [bookD b] (.bool (canF b)) := by
 have h4 := hV.secs
 have hon : ∀ i, i < b.secs.length → truths1 b i ≠ [] → WpL PR (mk PR (lookN types) glob 16) (Code.at [1, 0, 1, 0, 0] (body Proofs.Tryd.f154)) (rCan_S0 b i) fun e1 L1 => e1 = .normal ∧ L1 = rCan_S0 b (i + 1) := fun i hi hne => by
  have hlt : decide ((i : Int) < b.secs.length) = true := decide_eq_true (by omega)
  have hi64 : inI64 ((i : Int) + 1) := by simp only [inI64]; omega
  have c := tr_con hV hi
  have hz : (((truths1 b i).length : Int) == 0) = false := by
   rw [beq_eq_false_iff_ne]
   have := List.length_pos_iff.2 hne
   omega
  refine WpL.path (G 16) (rCan_0_on b i (truths1 b i)) ?_ ⟨rfl, rfl⟩
  repeat (first | exact trivial | refine ⟨by first | exact hlt | exact c | exact hz | exact hi64 | rfl | omega, ?_⟩)
 rcases find_first (fun i => (truths1 b i).isEmpty) b.secs.length with ⟨m, hm, hbad, hg⟩ | hg
 ·have hbad : truths1 b m = [] := List.isEmpty_iff.1 hbad
  rw [can_false_of (fun h => (can_pairs hV).1 h m hm hbad)]
  have hlt : decide ((m : Int) < b.secs.length) = true := decide_eq_true (by omega)
  have c := tr_con hV hm
  have hz : (((truths1 b m).length : Int) == 0) = true := by rw [hbad]; rfl
  have hloop : LoopT PR glob 16 (Code.at [1, 0, 1] (body Proofs.Tryd.f154)) (rCan_S0 b 0) .ret (rCan_T0_bad b m (truths1 b m)) := by
   refine LoopT.count (tt := lookN types) (id := 0) (c := Code.at [1, 0, 1, 0, 0] (body Proofs.Tryd.f154)) (by kernel_rfl) m (fun i => rCan_S0 b i) (fun i hi => hon i (by omega) (fun h => by
    have := hg i hi
    rw [h] at this
    cases this)) (WpL.path (G 16) (rCan_0_bad b m (truths1 b m)) ?_ ⟨.inr ⟨rfl, rfl⟩, rfl⟩)
   repeat (first | exact trivial | refine ⟨by first | exact hlt | exact c | exact hz | rfl | omega, ?_⟩)
  refine contract_of_path (G 16) rCan_fn (rCan_no b m (truths1 b m)) ?_
  repeat (first | exact trivial | refine ⟨by first | exact hloop | rfl | omega, ?_⟩)
 ·have hall : ∀ i, i < b.secs.length → truths1 b i ≠ [] := fun i hi h => by
   have := hg i hi
   rw [h] at this
   cases this
  rw [can_true ((can_pairs hV).2 hall)]
  have hloop : LoopT PR glob 16 (Code.at [1, 0, 1] (body Proofs.Tryd.f154)) (rCan_S0 b 0) .normal (rCan_S0 b b.secs.length) :=
   LoopT.count (tt := lookN types) (id := 0) (c := Code.at [1, 0, 1, 0, 0] (body Proofs.Tryd.f154)) (by kernel_rfl) b.secs.length (fun i => rCan_S0 b i) (fun i hi => hon i hi (hall i hi)) (WpL.path (G 16) (rCan_0_end b _) ⟨decide_eq_false (Int.lt_irrefl _), trivial⟩ ⟨.inl ⟨rfl, rfl⟩, rfl⟩)
  refine contract_of_path (G 16) rCan_fn (rCan_yes b b.secs.length) ?_
  repeat (first | exact trivial | refine ⟨by first | exact hloop | rfl | omega, ?_⟩)
theorem rAsked_con {b : Book} (hs : Small b) (is : Bool) : Contract PR glob 156 [bookD b, .bool is] (.int .i64 (errF b is)) := by
 have c1 := rCheck_con hs
 unfold checkF at c1
 unfold errF
 cases hv : validF b with
 | false =>
  rw [hv] at c1
  refine contract_of_path (G 16) rAsked_fn (rAsked_bad b is) ?_
  repeat (first | exact trivial | refine ⟨by first | exact c1 | rfl | omega, ?_⟩)
 | true =>
  rw [hv] at c1
  have c2 := rCan_con (valid_iff.1 hv).v9
  cases is with
  | false =>
   refine contract_of_path (G 16) rAsked_fn (rAsked_ask b false) ?_
   repeat (first | exact trivial | refine ⟨by first | exact c1 | rfl | omega, ?_⟩)
  | true =>
   cases hc : canF b with
   | false =>
    rw [hc] at c2
    refine contract_of_path (G 16) rAsked_fn (rAsked_false b true) ?_
    repeat (first | exact trivial | refine ⟨by first | exact c1 | exact c2 | rfl | omega, ?_⟩)
   | true =>
    rw [hc] at c2
    refine contract_of_path (G 16) rAsked_fn (rAsked_ok b true) ?_
    repeat (first | exact trivial | refine ⟨by first | exact c1 | exact c2 | rfl | omega, ?_⟩)
theorem err_zero {b : Book} {is : Bool} (h : errF b is = 0) : Valid b ∧ is = true ∧ truthsF b [] ≠ [] := by
 unfold errF at h
 cases hv : validF b with
 | false => rw [hv] at h; cases h
 | true =>
  rw [hv] at h
  cases is with
  | false => cases h
  | true =>
   cases hc : canF b with
   | false => rw [hc] at h; cases h
   | true =>
    refine ⟨valid_iff.1 hv, rfl, fun e => ?_⟩
    unfold canF at hc
    rw [e] at hc
    cases hc
theorem rHull_con (s u : Span) : Contract PR glob 161 [spD s, spD u] (spD (hullF s u)) := by
 have c := rangeB_con (mn s.lo u.lo) (mx s.hi u.hi)
 refine contract_of_path (G 16) rHull_fn (rHull_all s u) ?_
 repeat (first | exact trivial | refine ⟨by first | exact c | rfl | omega, ?_⟩)
theorem getD_tr1 {ts : List Tr1} {i : Nat} (h : i < ts.length) : ts.getD i tr10 ∈ ts := getD_mem ts i tr10 h
theorem rSpan_con {b : Book} (hT : b.turns.length ≤ 1000) {ts : List Tr1} (hn : ts ≠ []) (hl : ts.length ≤ 100000) (ht : ∀ u ∈ ts, Tame u) {d : Int} (hd : 0 ≤ d ∧ d ≤ 1000) : Contract PR glob 159 [bookD b, .sl false .tr1 ts, .int .i64 d] (spD (toldAll (fun u => th1 b.turns u.t0 u.w0 u.w1 d.toNat) ts)) := by
 have hpos := List.length_pos_iff.2 hn
 have hc : ∀ i, i < ts.length → Contract PR glob 188 [bookD b, tr1D (ts.getD i tr10), .int .i64 0, .int .i64 d] (.int .i64 (th1 b.turns (ts.getD i tr10).t0 (ts.getD i tr10).w0 (ts.getD i tr10).w1 d.toNat)) := fun i hi => by
  have := ht _ (getD_tr1 hi)
  have a := this.t0
  have a1 := this.w0
  have a2 := this.w1
  exact rThk0_con hT (by omega) (by omega) (by omega) hd
 unfold toldAll
 have hloop : LoopT PR glob 33 (Code.at [1, 1, 0, 1] (body Proofs.Tryd.f159)) (rSpan_S0 b ts d (told1 (fun u => th1 b.turns u.t0 u.w0 u.w1 d.toNat) ts tr10 0) 0) .normal (rSpan_S0 b ts d (told1 (fun u => th1 b.turns u.t0 u.w0 u.w1 d.toNat) ts tr10 ts.length) ts.length) := by
  refine LoopT.count (tt := lookN types) (id := 0) (c := Code.at [1, 1, 0, 1, 0, 0] (body Proofs.Tryd.f159)) (by kernel_rfl) ts.length (fun i => rSpan_S0 b ts d (told1 (fun u => th1 b.turns u.t0 u.w0 u.w1 d.toNat) ts tr10 i) i) (fun i hi => ?_) (WpL.path (G 33) (rSpan_0_end b ts d _ _) ⟨decide_eq_false (Int.lt_irrefl _), trivial⟩ ⟨.inl ⟨rfl, rfl⟩, rfl⟩)
  have hlt : decide ((i : Int) < ts.length) = true := decide_eq_true (by omega)
  have hix : (0 : Int) ≤ i ∧ (i : Int) < ts.length := by omega
  have hi64 : inI64 ((i : Int) + 1) := by simp only [inI64]; omega
  have c1 := hc i hi
  have c2 := point_con (th1 b.turns (ts.getD i tr10).t0 (ts.getD i tr10).w0 (ts.getD i tr10).w1 d.toNat)
  have c3 := rHull_con (told1 (fun u => th1 b.turns u.t0 u.w0 u.w1 d.toNat) ts tr10 i) ⟨th1 b.turns (ts.getD i tr10).t0 (ts.getD i tr10).w0 (ts.getD i tr10).w1 d.toNat, th1 b.turns (ts.getD i tr10).t0 (ts.getD i tr10).w0 (ts.getD i tr10).w1 d.toNat⟩
  refine WpL.path (G 33) (rSpan_0_on b ts d _ i (th1 b.turns (ts.getD i tr10).t0 (ts.getD i tr10).w0 (ts.getD i tr10).w1 d.toNat) (told1 (fun u => th1 b.turns u.t0 u.w0 u.w1 d.toNat) ts tr10 (i + 1))) ?_ ⟨rfl, rfl⟩
  repeat (first | exact trivial | refine ⟨by first | exact hlt | exact hix | exact c1 | exact c2 | exact c3 | exact hi64 | rfl | omega, ?_⟩)
 have c0 := hc 0 hpos
 have c2 := point_con (th1 b.turns (ts.getD 0 tr10).t0 (ts.getD 0 tr10).w0 (ts.getD 0 tr10).w1 d.toNat)
 have h0 : (0 : Int) ≤ 0 ∧ (0 : Int) < ts.length := by omega
 refine contract_of_path (G 33) rSpan_fn (rSpan_all b ts d (th1 b.turns (ts.getD 0 tr10).t0 (ts.getD 0 tr10).w0 (ts.getD 0 tr10).w1 d.toNat) (told1 (fun u => th1 b.turns u.t0 u.w0 u.w1 d.toNat) ts tr10 ts.length) ts.length) ?_
 repeat (first | exact trivial | refine ⟨by first | exact h0 | exact c0 | exact c2 | exact hloop | rfl | omega, ?_⟩)
theorem truths1_tame {b : Book} (hV : Val9 b) {k : Nat} (hk : k < b.secs.length) {u : Tr1} (hu : u ∈ truths1 b k) : Tame u :=
 have h := mem_truths1.1 hu
 tame_of hV hk (oth_lt hk) h.t0 h.t1 h.w0 h.w1
theorem truths1_len {b : Book} (hV : Val9 b) {k : Nat} (hk : k < b.secs.length) : (truths1 b k).length ≤ 144 := by
 have hs := (secw hV hk).t
 have := lp_len (lo := (b.secs.getD k sec0).t.lo) (fun n => g1_len hV hk n) (sp1 (b.secs.getD k sec0).t)
 have h3 : sp1 (b.secs.getD k sec0).t ≤ 4 := by unfold sp1; omega
 unfold truths1 g0
 omega
theorem ne_bne {e : Int} (h : e ≠ 0) : (e != 0) = true := by simp [h]
/-! ### The law ChainThicks -/
theorem bne_self' (e : Int) : (e != e) = false := by simp
end Go.Di

namespace Go.Di
open Go.RowKit Go.ChangeShapes Go.WideShapes Go.Deep Go.ChangeAt Go.Proofs
open Go.Proofs.YtfkmodcjddfeiaaDoor

/-! ### What is read has room to be copied -/
section
variable {H : Type} {enc : TypeId × Value → H} {w : World} {sp : Nat → Bool} {hd : Bool}
theorem slice_room {t et : TypeId} {e : E} {xs : List e.α} {fuel : Nat} {v : Value} {x : DataW H × List MemPlace} {B : Nat} (ht : Tryd.prog.underlying t = some (.slice et)) (hB : Tryd.prog.bytesOf et = B) (h : DataW.trod enc Tryd.prog w 0 sp hd fuel t [v] = some x)
  (hr : RelC (Old w) w (.sl false e xs) v) (hw : ∀ m ∈ x.1.weights Tryd.prog t, m ≤ reachBytes) : xs.length * B ≤ 140737488355328 := by
 obtain ⟨A, c, hv, _⟩ := hr
 rcases open_slice ht h with ⟨h1, _⟩ | ⟨a, len, cap, m, n, D, Pl, h1, hb, hlc, hmx, hm, hx, hel⟩
 ·have h1 : v = .slice none 0 0 := by simpa using h1
  rw [hv] at h1
  injection h1 with _ e2 _
  rw [e2]
  simp
 ·have h1 : v = .slice (some a) len cap := by simpa using h1
  rw [hv] at h1
  injection h1 with _ e2 _
  rw [e2]
  have := hw ((len + (m - len)) * B) (by rw [hx]; simp [DataW.weights, ht, hB])
  have h2 : len * B ≤ (len + (m - len)) * B := Nat.mul_le_mul_right _ (by omega)
  have h3 := reachBytes_lt
  omega
theorem room26 {v : Value} {d : DataW H} {ps : List MemPlace} (h : DataW.Trod enc Tryd.prog w 0 sp hd 26 v d ps) {b : Book} (hr : Rel (Old w) w (bookD b) v) (hw : ∀ m ∈ d.weights Tryd.prog 26, m ≤ reachBytes) : Room b := by
 have hu : Tryd.prog.underlying 26 = some (.struct #[fld 26 0, fld 26 1, fld 26 2, fld 26 3, fld 26 4]) := by kernel_rfl
 obtain ⟨cs, rfl, hc⟩ := hr
 obtain ⟨fuel, h⟩ := h
 obtain ⟨xs, k, _, hx, hl, hlen, hf⟩ := DataW.trod_struct hu h
 have hcs : (Value.agg cs).cells.toList = cs.toList := rfl
 rw [hcs] at hf
 match xs, hlen, hq : cs.toList, hc with
 | [y0, y1, y2, y3, y4], _, [v0, v1, v2, v3, v4], ⟨q0, q1, q2, _⟩ =>
  rw [hq] at hf
  have g0 := hf 0 (fld 26 0) rfl
  have g1 := hf 1 (fld 26 1) rfl
  have g2 := hf 2 (fld 26 2) rfl
  have o0 : (fld 26 0).offset = 0 := by kernel_rfl
  have o1 : (fld 26 1).offset = 1 := by kernel_rfl
  have o2 : (fld 26 2).offset = 2 := by kernel_rfl
  have c0 : Tryd.prog.cellsOf (fld 26 0).type = 1 := by kernel_rfl
  have c1 : Tryd.prog.cellsOf (fld 26 1).type = 1 := by kernel_rfl
  have c2 : Tryd.prog.cellsOf (fld 26 2).type = 1 := by kernel_rfl
  simp [o0, o1, o2, c0, c1, c2] at g0 g1 g2
  have hd : d = .agg [y0.1, y1.1, y2.1, y3.1, y4.1] := congrArg Prod.fst hx
  have hmem : ∀ (j : Nat) (t : TypeId) (y : DataW H), [(fld 26 0).type, (fld 26 1).type, (fld 26 2).type, (fld 26 3).type, (fld 26 4).type][j]? = some t → [y0.1, y1.1, y2.1, y3.1, y4.1][j]? = some y → ∀ m ∈ y.weights Tryd.prog t, m ≤ reachBytes := fun j t y h1 h2 m hm => by
   refine hw m ?_
   rw [hd]
   simp only [DataW.weights, hu]
   exact DataW.weights_mem_each h1 h2 m hm
  exact ⟨slice_room (e := .sec) (et := 76) (by kernel_rfl) (by kernel_rfl) g0 q0 (hmem 0 _ _ rfl rfl), slice_room (e := .int) (et := 3) (by kernel_rfl) (by kernel_rfl) g1 q1 (hmem 1 _ _ rfl rfl), slice_room (e := .sv) (et := 34) (by kernel_rfl) (by kernel_rfl) g2 q2 (hmem 2 _ _ rfl rfl)⟩
end
end Go.Di

namespace Go.Di
theorem rMay_fn : FnOk PR (mk PR (lookN types) glob 42) 191 (body Proofs.Tryd.f191) [.tmp 6] := ⟨Proofs.Tryd.f191, by kernel_rfl, by kernel_rfl, by kernel_rfl, by kernel_rfl, by kernel_rfl⟩
def rMay_S0 (b : Book) (ts : List Tr1) (i : Nat) : List (Key × Val) :=
 [(.tmp 1, .d (D.sl false E.tr1 ts)),
  (.tmp 2, .d (D.bool false)),
  (.tmp 3, .d (D.ptr 3 0)),
  (.tmp 7, .d (.int .i64 i)),
  (.box 3, .bx (some (Box.mk false (cellsOf (bookD b)))))]
def rMay_K0 : List Key := [.tmp 1, .tmp 2, .tmp 3, .tmp 7, .box 3]
theorem rMay_0_on (b : Book) (ts : List Tr1) (i : Nat) (s : Span) :
  runK (mk PR (lookN types) glob 42) [(12, true), (28, false), (37, false)] [(18, spD s)] [] (Code.at [1, 0, 1, 0, 0] (body Proofs.Tryd.f191)) (rMay_S0 b ts i) rMay_K0 =
   some ([decide ((i : Int) ≤ Book.days b) = true, Contract PR glob 159 [bookD b, D.sl false E.tr1 ts, D.int .i64 ((i : Int))] (D.agg [D.int .i64 (Span.lo s), D.int .i64 (Span.hi s)]), 0 + 0 + 1 ≤ 2, decide (Span.lo s < Book.rule b) = false, decide (Span.lo s < Book.rule b) = false, decide (Span.lo s < Book.rule b) = false, decide (Span.lo s < Book.rule b) = false, false = false, inI64 ((i : Int) + (1 : Int))], Ex.normal, [(.tmp 1, .d (D.sl false E.tr1 ts)), (.tmp 2, .d (D.bool false)), (.tmp 3, .d (D.ptr 3 0)), (.tmp 7, .d (D.int .i64 ((i : Int) + (1 : Int)))), (.box 3, .bx (some (Box.mk false (cellsOf (bookD b)))))]) := by kernel_rfl
theorem rMay_0_hit (b : Book) (ts : List Tr1) (i : Nat) (s : Span) :
  runK (mk PR (lookN types) glob 42) [(12, true), (28, true)] [(18, spD s)] [] (Code.at [1, 0, 1, 0, 0] (body Proofs.Tryd.f191)) (rMay_S0 b ts i) [.tmp 1, .tmp 2, .tmp 3, .tmp 7, .box 3, .tmp 6] =
   some ([decide ((i : Int) ≤ Book.days b) = true, Contract PR glob 159 [bookD b, D.sl false E.tr1 ts, D.int .i64 ((i : Int))] (D.agg [D.int .i64 (Span.lo s), D.int .i64 (Span.hi s)]), 0 + 0 + 1 ≤ 2, decide (Span.lo s < Book.rule b) = true, decide (Span.lo s < Book.rule b) = true, decide (Span.lo s < Book.rule b) = true, decide (Span.lo s < Book.rule b) = true], Ex.ret, [(.tmp 1, .d (D.sl false E.tr1 ts)), (.tmp 2, .d (D.bool false)), (.tmp 3, .d (D.ptr 3 0)), (.tmp 7, .d (D.int .i64 ((i : Int)))), (.box 3, .bx (some (Box.mk false (cellsOf (bookD b))))), (.tmp 6, .d (D.int .i64 ((i : Int))))]) := by kernel_rfl
theorem rMay_0_end (b : Book) (ts : List Tr1) (i : Nat) :
  runK (mk PR (lookN types) glob 42) [(12, false)] [] [] (Code.at [1, 0, 1, 0, 0] (body Proofs.Tryd.f191)) (rMay_S0 b ts i) rMay_K0 =
   some ([decide ((i : Int) ≤ Book.days b) = false], Ex.exit 0, [(.tmp 1, .d (D.sl false E.tr1 ts)), (.tmp 2, .d (D.bool false)), (.tmp 3, .d (D.ptr 3 0)), (.tmp 7, .d (D.int .i64 ((i : Int)))), (.box 3, .bx (some (Box.mk false (cellsOf (bookD b)))))]) := by kernel_rfl
def rMay_T0_hit (b : Book) (ts : List Tr1) (i : Nat) (s : Span) : List (Key × Val) :=
 [(.tmp 1, .d (D.sl false E.tr1 ts)), (.tmp 2, .d (D.bool false)), (.tmp 3, .d (D.ptr 3 0)), (.tmp 7, .d (D.int .i64 ((i : Int)))), (.box 3, .bx (some (Box.mk false (cellsOf (bookD b))))), (.tmp 6, .d (D.int .i64 ((i : Int))))]
theorem rMay_end (b : Book) (ts : List Tr1) (i : Nat) :
  callF (mk PR (lookN types) glob 42) [] [] [(0, (rMay_K0, (.normal, rMay_S0 b ts i)))] (body Proofs.Tryd.f191) [.tmp 6] [bookD b, .sl false .tr1 ts, .bool false] =
   some ([LoopT PR glob 42 (Code.at [1, 0, 1] (body Proofs.Tryd.f191)) [(.tmp 1, .d (D.sl false E.tr1 ts)), (.tmp 2, .d (D.bool false)), (.tmp 3, .d (D.ptr 3 0)), (.tmp 7, .d (D.int .i64 (0 : Int))), (.box 3, .bx (some (Box.mk false (cellsOf (bookD b)))))] Ex.normal (rMay_S0 b ts i), inI64 (Book.days b + (1 : Int))], D.int .i64 (Book.days b + (1 : Int))) := by kernel_rfl
theorem rMay_hit (b : Book) (ts : List Tr1) (i : Nat) (s : Span) :
  callF (mk PR (lookN types) glob 42) [] [] [(0, (rMay_K0, (.ret, rMay_T0_hit b ts i s)))] (body Proofs.Tryd.f191) [.tmp 6] [bookD b, .sl false .tr1 ts, .bool false] =
   some ([LoopT PR glob 42 (Code.at [1, 0, 1] (body Proofs.Tryd.f191)) [(.tmp 1, .d (D.sl false E.tr1 ts)), (.tmp 2, .d (D.bool false)), (.tmp 3, .d (D.ptr 3 0)), (.tmp 7, .d (D.int .i64 (0 : Int))), (.box 3, .bx (some (Box.mk false (cellsOf (bookD b)))))] Ex.ret (rMay_T0_hit b ts i s)], D.int .i64 ((i : Int))) := by kernel_rfl
end Go.Di

namespace Go.Di

/-! ### Thin and Gone, by the reference -/
section
variable {b : Book} {k : Nat}
theorem th1_flips {tn tm : List Int} {t w v : Int} : ∀ d : Nat, (∀ e : Nat, e < d → flips tn e = flips tm e) → th1 tn t w v d = th1 tm t w v d
 | 0, _ => rfl
 | d + 1, h => by
  simp only [th1]
  rw [th1_flips d fun e he => h e (by omega), h d (by omega)]
theorem rMay2_con (hV : Val9 b) (hk : k < b.secs.length) (hne : truthsF b [] ≠ []) {b2 : Book} {tn : List Int} (g1 : b2.days = b.days) (g2 : b2.rule = b.rule) (g3 : b2.turns.length ≤ 1000) (g4 : ∀ e : Nat, (e : Int) ≤ b.days → flips b2.turns e = flips tn e) : Contract PR glob 191 [bookD b2, .sl false .tr1 (truths1 b k), .bool false] (.int .i64 (thinF b (truthsF b []) tn k)) := by
 have hdd := hV.days
 have hsp : ∀ d : Nat, (d : Int) ≤ b.days → Contract PR glob 159 [bookD b2, .sl false .tr1 (truths1 b k), .int .i64 (d : Int)] (spD (thickF b (truthsF b []) tn k d)) := fun d hd => by
  have c := rSpan_con (b := b2) g3 ((can_pairs hV).1 hne k hk) (by have := truths1_len hV hk; omega) (fun u hu => truths1_tame hV hk hu) (d := (d : Int)) (by omega)
  rw [Int.toNat_natCast, show (fun u : Tr1 => th1 b2.turns u.t0 u.w0 u.w1 d) = fun u => th1 tn u.t0 u.w0 u.w1 d from funext fun u => th1_flips d fun e he => g4 e (by omega), thick_ref hV hne hk d] at c
  exact c
 generalize truths1 b k = ts at hsp
 obtain ⟨h1, h2, h3, h4⟩ := findF_spec (mayF b (truthsF b []) tn k) (b.days + 1).toNat 0
 unfold thinF
 generalize hr : findF (mayF b (truthsF b []) tn k) (b.days + 1).toNat 0 = r at h1 h2 h3 h4
 have hon : ∀ i : Nat, i < r → WpL PR (mk PR (lookN types) glob 42) (Code.at [1, 0, 1, 0, 0] (body Proofs.Tryd.f191)) (rMay_S0 b2 ts i) fun e1 L1 => e1 = .normal ∧ L1 = rMay_S0 b2 ts (i + 1) := fun i hi => by
  have c := hsp i (by omega)
  have hd : decide ((thickF b (truthsF b []) tn k i).lo < b2.rule) = false := by rw [g2]; exact h3 i (by omega) hi
  have hle : decide ((i : Int) ≤ b2.days) = true := decide_eq_true (by omega)
  have hi64 : inI64 ((i : Int) + 1) := by simp only [inI64]; omega
  refine WpL.path (G 42) (rMay_0_on b2 ts i (thickF b (truthsF b []) tn k i)) ?_ ⟨rfl, rfl⟩
  repeat (first | exact trivial | refine ⟨by first | exact hle | exact c | exact hd | exact hi64 | rfl | omega, ?_⟩)
 by_cases hlt : r < 0 + (b.days + 1).toNat
 ·have hd : decide ((thickF b (truthsF b []) tn k r).lo < b2.rule) = true := by rw [g2]; exact h4 hlt
  have c := hsp r (by omega)
  have hle : decide ((r : Int) ≤ b2.days) = true := decide_eq_true (by omega)
  have hloop : LoopT PR glob 42 (Code.at [1, 0, 1] (body Proofs.Tryd.f191)) (rMay_S0 b2 ts 0) .ret (rMay_T0_hit b2 ts r (thickF b (truthsF b []) tn k r)) := by
   refine LoopT.count (tt := lookN types) (id := 0) (c := Code.at [1, 0, 1, 0, 0] (body Proofs.Tryd.f191)) (by kernel_rfl) r (fun i => rMay_S0 b2 ts i) hon (WpL.path (G 42) (rMay_0_hit b2 ts r (thickF b (truthsF b []) tn k r)) ?_ ⟨.inr ⟨rfl, rfl⟩, rfl⟩)
   repeat (first | exact trivial | refine ⟨by first | exact hle | exact c | exact hd | rfl | omega, ?_⟩)
  refine contract_of_path (G 42) rMay_fn (rMay_hit b2 ts r (thickF b (truthsF b []) tn k r)) ?_
  repeat (first | exact trivial | refine ⟨by first | exact hloop | rfl | omega, ?_⟩)
 ·have e : (r : Int) = b2.days + 1 := by omega
  have hle : decide ((r : Int) ≤ b2.days) = false := decide_eq_false (by omega)
  have hi64 : inI64 (b2.days + 1) := by simp only [inI64]; omega
  have hloop : LoopT PR glob 42 (Code.at [1, 0, 1] (body Proofs.Tryd.f191)) (rMay_S0 b2 ts 0) .normal (rMay_S0 b2 ts r) := by
   refine LoopT.count (tt := lookN types) (id := 0) (c := Code.at [1, 0, 1, 0, 0] (body Proofs.Tryd.f191)) (by kernel_rfl) r (fun i => rMay_S0 b2 ts i) hon (WpL.path (G 42) (rMay_0_end b2 ts r) ?_ ⟨.inl ⟨rfl, rfl⟩, rfl⟩)
   repeat (first | exact trivial | refine ⟨by first | exact hle | rfl | omega, ?_⟩)
  rw [e]
  refine contract_of_path (G 42) rMay_fn (rMay_end b2 ts r) ?_
  repeat (first | exact trivial | refine ⟨by first | exact hloop | exact hi64 | rfl | omega, ?_⟩)
end
/-! ### Cut -/
theorem tup_weak {R : Foot} {w : World} {v : Value} {xs : List Int} {n : Int} {t : Bool} (h : Rel R w (.tup [.sl t .int xs, .int .i64 n]) v) : Rel R w (.tup [.sl false .int xs, .int .i64 n]) v := by
 obtain ⟨vs, hv, h⟩ := h
 refine ⟨vs, hv, ?_⟩
 match hq : vs.toList, h with
 | [v0, v1], ⟨h0, h1, h2⟩ => exact ⟨weakC_rel (R := R) (w := w) (d := .sl t .int xs) h0, h1, h2⟩
/-! ### Fits -/
/-! ### The law ChainThins -/
end Go.Di

namespace Go.Di

/-! ### A book without some of its surveys -/
def woTo (b : Book) (l : List Int) : Nat → List Sv
 | 0 => []
 | i + 1 => if (i : Int) ∈ l then woTo b l i else woTo b l i ++ [svZ b i]
def withoutF (b : Book) (l : List Int) : Book := ⟨b.secs, b.turns, woTo b l b.svs.length, b.rule, b.days⟩
theorem woTo_all {P : Sv → Prop} (b : Book) (l : List Int) : ∀ n, (∀ y ∈ woTo b l n, P y) ↔ ∀ i < n, (i : Int) ∉ l → P (svZ b i)
 | 0 => by simp [woTo]
 | n + 1 => by
  have ih := woTo_all (P := P) b l n
  simp only [woTo]
  by_cases h : (n : Int) ∈ l
  ·rw [if_pos h, ih]
   constructor
   ·intro h' i hi hn
    by_cases e : i = n
    ·subst e; exact absurd h hn
    ·exact h' i (by omega) hn
   ·exact fun h' i hi hn => h' i (by omega) hn
  ·rw [if_neg h]
   simp only [List.mem_append, List.mem_singleton]
   constructor
   ·intro h' i hi hn
    by_cases e : i = n
    ·subst e; exact h' _ (.inr rfl)
    ·exact ih.1 (fun y hy => h' y (.inl hy)) i (by omega) hn
   ·rintro h' y (hy | rfl)
    ·exact ih.2 (fun i hi hn => h' i (by omega) hn) y hy
    ·exact h' n (by omega) h
theorem woTo_len (b : Book) (l : List Int) : ∀ n, (woTo b l n).length ≤ n
 | 0 => by simp [woTo]
 | n + 1 => by
  have ih := woTo_len b l n
  simp only [woTo]
  split
  ·omega
  ·simp only [List.length_append, List.length_singleton]; omega
theorem without_valid {b : Book} (hV : Valid b) (l : List Int) : Valid (withoutF b l) :=
 ⟨hV.secs, hV.days, hV.rule, hV.turns, by have := woTo_len b l b.svs.length; have := hV.svs; simp only [withoutF]; omega, hV.sec, hV.thick, hV.rises,
  (woTo_all b l b.svs.length).2 fun i hi _ => hV.sv _ (svZ_mem hi)⟩
theorem without_feas {b : Book} {l : List Int} {T : Nat → Int} {x : W4} : Feas (withoutF b l) [] T x ↔ Feas b l T x := by
 rw [feas_nil]
 constructor
 ·rintro ⟨h, h'⟩
  refine ⟨h.wear, h.zero, h.thick, fun i hi hn k hk => ?_⟩
  exact (woTo_all (P := fun y => ∀ k : Nat, k < b.secs.length → SatY b x k (T k) y) b l b.svs.length).1 h' i hi hn k hk
 ·intro h
  exact ⟨⟨h.wear, h.zero, h.thick⟩, (woTo_all (P := fun y => ∀ k : Nat, k < b.secs.length → SatY b x k (T k) y) b l b.svs.length).2 fun i hi hn k hk => h.right i hi hn k hk⟩
theorem without_can {b : Book} (hV : Valid b) (l : List Int) : truthsF (withoutF b l) [] ≠ [] ↔ truthsF b l ≠ [] := by
 rw [can_iff (without_valid hV l).base, can_iff hV.base]
 simp only [without_feas]

/-! ### Lists that climb -/
def Up (n : Int) : Int → List Int → Prop
 | _, [] => True
 | a, x :: l => a ≤ x ∧ x < n ∧ Up n (x + 1) l
theorem Up.snoc {n m x : Int} (hx : m ≤ x) (hn : x < n) (hm : m ≤ n) : ∀ {l : List Int} {a : Int}, Up m a l → a ≤ x → Up n a (l ++ [x])
 | [], a, _, ha => ⟨ha, hn, trivial⟩
 | y :: l, a, ⟨h1, h2, h3⟩, ha => ⟨h1, by omega, Up.snoc hx hn hm h3 (by omega)⟩
theorem Up.mono {n m : Int} (hm : m ≤ n) : ∀ {l : List Int} {a : Int}, Up m a l → Up n a l
 | [], a, _ => trivial
 | y :: l, a, ⟨h1, h2, h3⟩ => ⟨h1, by omega, Up.mono hm h3⟩
theorem Up.mem {n : Int} : ∀ {l : List Int} {a x : Int}, Up n a l → x ∈ l → a ≤ x ∧ x < n
 | y :: l, a, x, ⟨h1, h2, h3⟩, hx => by
  rcases List.mem_cons.1 hx with rfl | hx
  ·exact ⟨h1, h2⟩
  ·have := h3.mem hx
   omega
theorem Up.len {n : Int} : ∀ {l : List Int} {a : Int}, Up n a l → a ≤ n → (l.length : Int) ≤ n - a
 | [], a, _, ha => by simp; omega
 | y :: l, a, ⟨h1, h2, h3⟩, ha => by
  have := h3.len (by omega)
  simp only [List.length_cons]
  omega
/-- Does a list come before another one? -/
def beforeF : List Int → List Int → Bool
 | [], [] => false
 | [], _ :: _ => true
 | _ :: _, [] => false
 | a :: l, b :: m => if a = b then beforeF l m else decide (a < b)
theorem before_self : ∀ l : List Int, beforeF l l = false
 | [] => rfl
 | a :: l => by simp only [beforeF]; rw [if_pos trivial]; exact before_self l
theorem before_anti : ∀ l m : List Int, beforeF l m = true → beforeF m l = false
 | [], [], _ => rfl
 | [], _ :: _, _ => rfl
 | _ :: _, [], h => by cases h
 | a :: l, b :: m, h => by
  simp only [beforeF] at h ⊢
  by_cases e : a = b
  ·rw [if_pos e] at h
   rw [if_pos e.symm]
   exact before_anti l m h
  ·rw [if_neg e] at h
   rw [if_neg (fun e' => e e'.symm)]
   simp only [decide_eq_true_eq] at h
   exact decide_eq_false (by omega)
def betterF (l m : List Int) : Bool := decide (l.length < m.length) || (decide (l.length = m.length) && beforeF l m)

/-! ### The surveys that are told -/
theorem lvFrom_snoc (sm : List Int) (j : Int) : lvFrom (sm ++ [j]) = j + 1 := by
 unfold lvFrom
 rw [if_pos (by simp)]
 simp
theorem lv_spec {b : Book} : ∀ (f : Nat) (sm : List Int), (lvGo b f sm).2 = true → ∃ r, (lvGo b f sm).1 = sm ++ r ∧ r.length = f ∧ Up b.svs.length (lvFrom sm) r ∧ truthsF b (sm ++ r) ≠ []
 | 0, sm, h => by
  refine ⟨[], by simp [lvGo], rfl, trivial, ?_⟩
  simp only [lvGo] at h
  rw [List.append_nil]
  intro e
  rw [e] at h
  cases h
 | f + 1, sm, h => by
  simp only [lvGo] at h ⊢
  obtain ⟨k, k1, k2, ⟨k3, k4, k5⟩ | ⟨k3, k5⟩⟩ := lvFind_at (fun j => lvGo b f (sm ++ [j])) ((b.svs.length : Int) - lvFrom sm).toNat (lvFrom sm)
  ·rw [k5]
   obtain ⟨r, r1, r2, r3, r4⟩ := lv_spec f (sm ++ [lvFrom sm + k]) k4
   rw [lvFrom_snoc] at r3
   refine ⟨(lvFrom sm + k) :: r, ?_, by simp [r2], ⟨by omega, by omega, r3⟩, ?_⟩
   ·show (lvGo b f (sm ++ [lvFrom sm + k])).1 = _
    rw [r1]; simp
   ·rw [show sm ++ (lvFrom sm + k) :: r = sm ++ [lvFrom sm + k] ++ r by simp]
    exact r4
  ·rw [k5] at h
   cases h
theorem lv_full {b : Book} : ∀ (f : Nat) (sm r : List Int), r.length = f → Up b.svs.length (lvFrom sm) r → truthsF b (sm ++ r) ≠ [] → ∃ r', lvGo b f sm = (sm ++ r', true) ∧ r'.length = f ∧ (r' = r ∨ beforeF r' r = true)
 | 0, sm, [], _, _, h => by
  refine ⟨[], ?_, rfl, .inl rfl⟩
  rw [List.append_nil] at h ⊢
  simp only [lvGo]
  cases hq : truthsF b sm with
  | nil => exact absurd hq h
  | cons x l => rfl
 | f + 1, sm, a :: r, hl, ⟨u1, u2, u3⟩, h => by
  obtain ⟨r', h1, h2, h3⟩ := lv_full f (sm ++ [a]) r (by simpa using hl) (by rw [lvFrom_snoc]; exact u3) (by rw [show sm ++ [a] ++ r = sm ++ a :: r by simp]; exact h)
  simp only [lvGo]
  obtain ⟨k, k1, k2, k3⟩ := lvFind_at (fun j => lvGo b f (sm ++ [j])) ((b.svs.length : Int) - lvFrom sm).toNat (lvFrom sm)
  have ha : a = lvFrom sm + ((a - lvFrom sm).toNat : Nat) := by omega
  have hka : k ≤ (a - lvFrom sm).toNat := by
   by_cases hk : k ≤ (a - lvFrom sm).toNat
   ·exact hk
   ·have := k2 (a - lvFrom sm).toNat (by omega)
    rw [← ha] at this
    simp only [h1] at this
    cases this
  rcases k3 with ⟨k4, k5, k6⟩ | ⟨k4, k6⟩
  ·rw [k6]
   by_cases e : lvFrom sm + (k : Int) = a
   ·rw [e]
    simp only [h1]
    refine ⟨a :: r', by simp, by simp [h2], ?_⟩
    rcases h3 with rfl | h3
    ·exact .inl rfl
    ·right
     simp only [beforeF]
     rw [if_pos trivial]
     exact h3
   ·obtain ⟨r2, q1, q2, q3, q4⟩ := lv_spec f (sm ++ [lvFrom sm + k]) k5
    refine ⟨(lvFrom sm + k) :: r2, ?_, by simp [q2], .inr ?_⟩
    ·simp only [q1]; simp
    ·simp only [beforeF]
     rw [if_neg e]
     exact decide_eq_true (by omega)
  ·omega
theorem up_range (n : Nat) : ∃ l : List Int, Up n 0 l ∧ l.length = n ∧ ∀ i : Nat, i < n → (i : Int) ∈ l := by
 suffices ∀ m : Nat, m ≤ n → ∃ l : List Int, Up m 0 l ∧ l.length = m ∧ ∀ i : Nat, i < m → (i : Int) ∈ l from this n (Nat.le_refl _)
 intro m
 induction m with
 | zero => exact fun _ => ⟨[], trivial, rfl, fun i hi => by omega⟩
 | succ m ih =>
  intro hm
  obtain ⟨l, h1, h2, h3⟩ := ih (by omega)
  refine ⟨l ++ [(m : Int)], Up.snoc (Int.le_refl _) (by omega) (by omega) h1 (by omega), by simp [h2], fun i hi => ?_⟩
  by_cases e : i = m
  ·subst e; simp
  ·exact List.mem_append_left _ (h3 i (by omega))
/-- What is told of the surveys that must be wrong. -/
theorem wrong_spec {b : Book} (hV : Valid b) : Up b.svs.length 0 (wrongGo b).1 ∧ truthsF b (wrongGo b).1 ≠ [] ∧ ((wrongGo b).1 = [] ↔ truthsF b [] ≠ []) ∧ ∀ l, Up b.svs.length 0 l → betterF l (wrongGo b).1 = true → truthsF b l = [] := by
 have h0 : lvFrom [] = 0 := rfl
 have hall : ∃ l : List Int, Up b.svs.length 0 l ∧ l.length = b.svs.length ∧ truthsF b l ≠ [] := by
  obtain ⟨l, l1, l2, l3⟩ := up_range b.svs.length
  have h00 := feas0_by hV (f := fun x => x.w.lo) (g := fun x => x.t.lo) rfl (fun x hx => ⟨Int.le_refl _, (hV.sec x hx).w.2.1⟩) (fun x hx => ⟨Int.le_refl _, (hV.sec x hx).t.2.1⟩)
  exact ⟨l, l1, l2, (can_iff hV.base l).2 ⟨_, _, h00.wear, h00.zero, h00.thick, fun i hi hn => absurd (l3 i hi) hn⟩⟩
 have full : ∀ l : List Int, Up b.svs.length 0 l → truthsF b l ≠ [] → ∃ r', lvGo b l.length [] = (r', true) ∧ r'.length = l.length ∧ (r' = l ∨ beforeF r' l = true) := fun l hu ht => by
  obtain ⟨r', h1, h2, h3⟩ := lv_full l.length [] l rfl (by rw [h0]; exact hu) (by simpa using ht)
  exact ⟨r', by simpa using h1, h2, h3⟩
 unfold wrongGo
 obtain ⟨k, k1, k2, k3⟩ := lvFind_at (fun j => lvGo b j.toNat []) (b.svs.length + 1) 0
 have hk2 : ∀ i : Nat, i < k → (lvGo b i []).2 = false := fun i hi => by
  have := k2 i hi
  simpa using this
 rcases k3 with ⟨k4, k5, k6⟩ | ⟨k4, k6⟩
 ·have e : ((0 : Int) + (k : Int)).toNat = k := by omega
  rw [k6]
  simp only [e] at k5 ⊢
  obtain ⟨r, r1, r2, r3, r4⟩ := lv_spec k [] k5
  simp only [List.nil_append] at r1 r4
  rw [h0] at r3
  rw [r1]
  refine ⟨r3, r4, ?_, fun l hl hb => ?_⟩
  ·constructor
   ·intro h
    rw [h] at r4
    exact r4
   ·intro h
    obtain ⟨r', h1, h2, h3⟩ := full [] trivial h
    have : k = 0 := by
     cases k with
     | zero => rfl
     | succ k =>
      have := hk2 0 (by omega)
      simp only [List.length_nil] at h1
      rw [h1] at this
      cases this
    subst this
    exact List.eq_nil_of_length_eq_zero r2
  ·by_cases ht : truthsF b l = []
   ·exact ht
   ·exfalso
    obtain ⟨r', h1, h2, h3⟩ := full l hl ht
    simp only [betterF, Bool.or_eq_true, Bool.and_eq_true, decide_eq_true_eq] at hb
    rcases hb with hb | ⟨hb, hb'⟩
    ·have := hk2 l.length (by omega)
     rw [h1] at this
     cases this
    ·have e2 : l.length = k := by omega
     rw [e2] at h1
     have e3 : r' = r := by
      have := congrArg Prod.fst h1
      exact this.symm.trans r1
     subst e3
     rcases h3 with rfl | h3
     ·rw [before_self] at hb'; cases hb'
     ·rw [before_anti _ _ h3] at hb'; cases hb'
 ·exfalso
  obtain ⟨l, l1, l2, l3⟩ := hall
  obtain ⟨r', h1, _⟩ := full l l1 l3
  have := hk2 l.length (by omega)
  rw [h1] at this
  cases this
end Go.Di

