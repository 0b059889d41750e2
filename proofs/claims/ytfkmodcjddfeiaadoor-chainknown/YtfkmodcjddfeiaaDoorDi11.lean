/- Part 11: an interpreter over plain data for this code, with the proof that it says what the model does, and the contracts of the functions. No condition. -/
import Derived.Test.YtfkmodcjddfeiaaDoorDi10
set_option linter.unusedVariables false
set_option linter.unusedSimpArgs false
namespace Go.Di

theorem joinT {n : Nat} {dec : List (Nat × Bool)} {orc : List (Nat × D)} {lorc : Lorc} {c : Code} {L L' L2 : List (Key × Val)} {ks : List Key} {ps : List Prop}
    (h : Di.runK (mk Proofs.Tryd.prog (lookN types) glob n) dec orc lorc c L ks = some (ps, .normal, L')) (hp : allP ps) (he : L' = L2) : LoopT Proofs.Tryd.prog glob n c L .normal L2 :=
  LoopT.of (tt := lookN types) (WpL.path (G n) h hp ⟨rfl, he⟩)

theorem within_con (n lo hi : Int) : Contract Proofs.Tryd.prog glob 133 [.int .i64 n, .int .i64 lo, .int .i64 hi] (.bool (withinF n lo hi)) := by
  unfold withinF
  cases h : decide (lo ≤ n) with
  | false =>
    refine contract_of_path (G 15) within_fn (within_no n lo hi) ?_
    repeat (first | exact trivial | refine ⟨by first | assumption | omega | rfl, ?_⟩)
  | true =>
    refine contract_of_path (G 15) within_fn (within_yes n lo hi) ?_
    repeat (first | exact trivial | refine ⟨by first | assumption | omega | rfl, ?_⟩)

theorem isSpan_con (s : Span) (hi wide : Int) (hh : hi ≤ 1000000) : Contract Proofs.Tryd.prog glob 134 [spD s, .int .i64 hi, .int .i64 wide] (.bool (isSpanF s hi wide)) := by
  unfold isSpanF
  cases h1 : decide (0 ≤ s.lo) with
  | false =>
    refine contract_of_path (G 32) isSpan_fn (isSpan_a s hi wide) ?_
    repeat (first | exact trivial | refine ⟨by first | assumption | omega | rfl, ?_⟩)
  | true =>
    cases h2 : decide (s.lo ≤ s.hi) with
    | false =>
      refine contract_of_path (G 32) isSpan_fn (isSpan_b s hi wide) ?_
      repeat (first | exact trivial | refine ⟨by first | assumption | omega | rfl, ?_⟩)
    | true =>
      cases h3 : decide (s.hi ≤ hi) with
      | false =>
        refine contract_of_path (G 32) isSpan_fn (isSpan_c s hi wide) ?_
        repeat (first | exact trivial | refine ⟨by first | assumption | omega | rfl, ?_⟩)
      | true =>
        have e1 := of_decide_eq_true h1
        have e2 := of_decide_eq_true h2
        have e3 := of_decide_eq_true h3
        refine contract_of_path (G 32) isSpan_fn (isSpan_d s hi wide) ?_
        repeat (first | exact trivial | refine ⟨by first | assumption | omega | rfl | (simp only [inI64]; omega), ?_⟩)

theorem isSection_con (b : Book) (n : Int) (hl : b.secs.length ≤ 9223372036854775807) : Contract Proofs.Tryd.prog glob 124 [bookD b, .int .i64 n] (.bool (isSectionF b n)) := by
  refine contract_of_path (G 11) isSection_fn (isSection_all b n) ?_
  repeat (first | exact trivial | refine ⟨by first | assumption | omega | (simp only [inI64]; omega) | exact within_con _ _ _, ?_⟩)
theorem isDay_con (b : Book) (n : Int) : Contract Proofs.Tryd.prog glob 122 [bookD b, .int .i64 n] (.bool (isDayF b n)) := by
  refine contract_of_path (G 9) isDay_fn (isDay_all b n) ?_
  repeat (first | exact trivial | refine ⟨by first | assumption | omega | (simp only [inI64]; omega) | exact within_con _ _ _, ?_⟩)
theorem isSurvey_con (b : Book) (x : Sv) (hl : b.secs.length ≤ 9223372036854775807) : Contract Proofs.Tryd.prog glob 128 [bookD b, svD x] (.bool (isSurveyF b x)) := by
  unfold isSurveyF
  have hs := isSection_con b x.s hl
  have hd := isDay_con b x.d
  cases h1 : isSectionF b x.s with
  | false =>
    rw [h1] at hs
    have := isSurvey_a b x
    rw [h1] at this
    refine contract_of_path (G 25) isSurvey_fn this ?_
    repeat (first | exact trivial | refine ⟨by first | exact within_con _ _ _ | assumption | omega | rfl, ?_⟩)
  | true =>
    rw [h1] at hs
    cases h2 : isDayF b x.d with
    | false =>
      rw [h2] at hd
      have := isSurvey_b b x
      rw [h1, h2] at this
      refine contract_of_path (G 25) isSurvey_fn this ?_
      repeat (first | exact trivial | refine ⟨by first | exact within_con _ _ _ | assumption | omega | rfl, ?_⟩)
    | true =>
      rw [h2] at hd
      cases h3 : withinF x.r 0 200 with
      | false =>
        have := isSurvey_c b x
        rw [h1, h2] at this
        refine contract_of_path (G 25) isSurvey_fn this ?_
        repeat (first | exact trivial | refine ⟨by first | exact within_con _ _ _ | assumption | omega | rfl, ?_⟩)
      | true =>
        have := isSurvey_d b x
        rw [h1, h2] at this
        refine contract_of_path (G 25) isSurvey_fn this ?_
        repeat (first | exact trivial | refine ⟨by first | exact within_con _ _ _ | assumption | omega | rfl, ?_⟩)

/-! ### slices.Index, slices.Contains -/
def indexF (v : Int) : List Int → Nat → Int
  | [], _ => -1
  | x :: l, i => if v == x then i else indexF v l (i + 1)

theorem indexF_ge (v : Int) : ∀ (l : List Int) (i : Nat), (indexF v l i ≥ 0 ↔ v ∈ l)
  | [], i => by simp [indexF]
  | x :: l, i => by
    simp only [indexF]
    by_cases h : v = x
    · subst h
      simp
    · have hb : (v == x) = false := by simpa using h
      rw [hb]
      simp only [Bool.false_eq_true, if_false]
      rw [indexF_ge v l (i + 1)]
      simp [h]

theorem drop_getD {α : Type} (l : List α) (i : Nat) (d : α) (h : i < l.length) : l.drop i = l.getD i d :: l.drop (i + 1) := by
  rw [List.drop_eq_getElem_cons h, List.getD_eq_getElem?_getD, List.getElem?_eq_getElem h]
  rfl

/-- Where the first one lies. -/
theorem indexF_cases (v : Int) (xs : List Int) : (∃ i : Nat, i < xs.length ∧ indexF v xs 0 = i ∧ (v == xs.getD i 0) = true ∧ ∀ j, j < i → (v == xs.getD j 0) = false) ∨ (indexF v xs 0 = -1 ∧ ∀ j, j < xs.length → (v == xs.getD j 0) = false) := by
  have key : ∀ (k i : Nat), xs.length - i = k → i ≤ xs.length → (∀ j, j < i → (v == xs.getD j 0) = false) → (∃ i' : Nat, i' < xs.length ∧ indexF v (xs.drop i) i = i' ∧ (v == xs.getD i' 0) = true ∧ ∀ j, j < i' → (v == xs.getD j 0) = false) ∨ (indexF v (xs.drop i) i = -1 ∧ ∀ j, j < xs.length → (v == xs.getD j 0) = false) := by
    intro k
    induction k with
    | zero =>
      intro i hk hi hj
      have : i = xs.length := by omega
      subst this
      right
      rw [List.drop_length]
      exact ⟨rfl, hj⟩
    | succ k ih =>
      intro i hk hi hj
      have hlt : i < xs.length := by omega
      rw [drop_getD xs i 0 hlt]
      simp only [indexF]
      cases hq : (v == xs.getD i 0) with
      | true =>
        left
        exact ⟨i, hlt, by simp, hq, hj⟩
      | false =>
        simp only [Bool.false_eq_true, if_false]
        refine ih (i + 1) (by omega) (by omega) (fun j hji => ?_)
        by_cases e : j = i
        · subst e; exact hq
        · exact hj j (by omega)
  simpa using key xs.length 0 (by omega) (by omega) (fun j hj => by omega)

theorem index_con (xs : List Int) (v : Int) (hl : xs.length ≤ 9223372036854775807) : Contract Proofs.Tryd.prog glob 173 [.sl false .int xs, .int .i64 v] (.int .i64 (indexF v xs 0)) := by
  rcases indexF_cases v xs with ⟨i0, h1, h2, h3, h4⟩ | ⟨h2, h4⟩
  · rw [h2]
    refine contract_of_path (G 19) index_fn (index_hit xs v i0) ⟨?_, trivial⟩
    rw [show Code.at [1, 0, 1] (body Proofs.Tryd.f173) = .block 0 (.loop (Code.at [1, 0, 1, 0, 0] (body Proofs.Tryd.f173))) from by kernel_rfl]
    refine LoopT.rounds (tt := lookN types) (S := fun i : {i : Nat // i ≤ i0} => index_S0 xs v i.1) (fun i => i0 - i.1) ?_ ⟨0, Nat.zero_le _⟩
    intro ⟨i, hi⟩
    by_cases hlt : i < i0
    · refine WpL.path (G 19) (index_0_on xs v i) ?_ ⟨⟨i + 1, hlt⟩, rfl, by dsimp only; omega⟩
      exact ⟨decide_eq_true (by omega), by omega, by omega, h4 i hlt, by simp only [inI64]; omega, trivial⟩
    · have : i = i0 := by omega
      subst this
      exact WpL.path (G 19) (index_0_hit xs v i) ⟨decide_eq_true (by omega), by omega, by omega, h3, trivial⟩ ⟨rfl, rfl⟩
  · rw [h2]
    refine contract_of_path (G 19) index_fn (index_end xs v) ⟨?_, trivial⟩
    rw [show Code.at [1, 0, 1] (body Proofs.Tryd.f173) = .block 0 (.loop (Code.at [1, 0, 1, 0, 0] (body Proofs.Tryd.f173))) from by kernel_rfl]
    refine LoopT.rounds (tt := lookN types) (S := fun i : {i : Nat // i ≤ xs.length} => index_S0 xs v i.1) (fun i => xs.length - i.1) ?_ ⟨0, Nat.zero_le _⟩
    intro ⟨i, hi⟩
    by_cases hlt : i < xs.length
    · refine WpL.path (G 19) (index_0_on xs v i) ?_ ⟨⟨i + 1, hlt⟩, rfl, by dsimp only; omega⟩
      exact ⟨decide_eq_true (by omega), by omega, by omega, h4 i hlt, by simp only [inI64]; omega, trivial⟩
    · have : i = xs.length := by omega
      subst this
      exact WpL.path (G 19) (index_0_end xs v _) ⟨decide_eq_false (Int.lt_irrefl _), trivial⟩ ⟨rfl, rfl⟩

theorem contains_con (xs : List Int) (v : Int) (hl : xs.length ≤ 9223372036854775807) : Contract Proofs.Tryd.prog glob 130 [.sl false .int xs, .int .i64 v] (.bool (decide (v ∈ xs))) := by
  have := contract_of_path (G 9) contains_fn (contains_all xs v (indexF v xs 0)) ⟨index_con xs v hl, trivial⟩
  rw [show decide (v ∈ xs) = decide (indexF v xs 0 ≥ 0) from by simp only [indexF_ge]]
  exact this
end Go.Di

namespace Go.Di

def ok0F (b : Book) : Bool := withinF b.secs.length 1 4 && withinF b.days 1 30 && withinF b.rule 0 200 && decide (b.turns.length ≤ 4) && decide (b.svs.length ≤ 8)
def secOkF (x : Sec) : Bool := isSpanF x.t 200 3 && isSpanF x.w 3 2
def mostF (l : List Sec) : Int := l.foldl (fun m x => mx m x.w.hi) 0
def ok1F (b : Book) (l : List Sec) : Bool := l.foldl (fun ok x => ok && secOkF x) (ok0F b)
def ok2F (b : Book) (l : List Sec) : Bool := l.foldl (fun ok x => ok && decide (x.t.lo ≥ mostF b.secs * b.days)) (ok1F b b.secs)
def turnF (days : Int) (p : Bool × Int) (t : Int) : Bool × Int := (p.1 && withinF t (p.2 + 1) days, t)
def ok3F (b : Book) (l : List Int) : Bool × Int := l.foldl (turnF b.days) (ok2F b b.secs, 0)
def ok4F (b : Book) (l : List Sv) : Bool := l.foldl (fun ok x => ok && isSurveyF b x) (ok3F b b.turns).1
/-- Is it a book? -/
def validF (b : Book) : Bool := ok1F b b.secs && ok4F b b.svs
def checkF (b : Book) : Int := if validF b then 0 else 10

theorem foldl_and {α : Type} (f : α → Bool) : ∀ (l : List α) (b : Bool), l.foldl (fun ok x => ok && f x) b = (b && l.all f)
  | [], b => by simp
  | x :: l, b => by
    simp only [List.foldl_cons, List.all_cons]
    rw [foldl_and f l, Bool.and_assoc]

theorem join1 (b : Book) : LoopT Proofs.Tryd.prog glob 119 (Code.at [1, 0] (body Proofs.Tryd.f64)) (check_R1 b) .normal (check_RS1 b (ok0F b)) := by
  have h0 := within_con b.secs.length 1 4
  have h1' := within_con b.days 1 30
  have h2' := within_con b.rule 0 200
  unfold ok0F
  cases h1 : withinF b.secs.length 1 4 with
  | false =>
    refine joinT (check_R1_a b) ?_ rfl
    repeat (first | exact trivial | refine ⟨by first | exact h0 | assumption | omega, ?_⟩)
  | true =>
    cases h2 : withinF b.days 1 30 with
    | false =>
      refine joinT (check_R1_b b) ?_ rfl
      repeat (first | exact trivial | refine ⟨by first | exact h0 | exact h1' | assumption | omega, ?_⟩)
    | true =>
      cases h3 : withinF b.rule 0 200 with
      | false =>
        refine joinT (check_R1_c b) ?_ rfl
        repeat (first | exact trivial | refine ⟨by first | exact h0 | exact h1' | exact h2' | assumption | omega, ?_⟩)
      | true =>
        by_cases h4 : b.turns.length ≤ 4
        · have h4' : decide ((b.turns.length : Int) ≤ 4) = true := decide_eq_true (by omega)
          rw [show decide (b.turns.length ≤ 4) = true from decide_eq_true h4, show decide (b.svs.length ≤ 8) = decide ((b.svs.length : Int) ≤ 8) from by simp only [decide_eq_decide]; omega]
          refine joinT (check_R1_e b) ?_ rfl
          repeat (first | exact trivial | refine ⟨by first | exact h0 | exact h1' | exact h2' | assumption | omega, ?_⟩)
        · have h4' : decide ((b.turns.length : Int) ≤ 4) = false := decide_eq_false (by omega)
          rw [show decide (b.turns.length ≤ 4) = false from decide_eq_false h4]
          refine joinT (check_R1_d b) ?_ rfl
          repeat (first | exact trivial | refine ⟨by first | exact h0 | exact h1' | exact h2' | assumption | omega, ?_⟩)

theorem join6 (b : Book) (ok : Bool) (most : Int) (i : Nat) : LoopT Proofs.Tryd.prog glob 119 (Code.at [1, 1, 1, 0, 1, 0, 0, 1, 1, 0, 0, 1, 0] (body Proofs.Tryd.f64)) (check_R6 b ok most i) .normal (check_RS6 b ok most i (ok && secOkF (b.secs.getD i sec0))) := by
  have h0 := isSpan_con (b.secs.getD i sec0).t 200 3 (by omega)
  have h1' := isSpan_con (b.secs.getD i sec0).w 3 2 (by omega)
  unfold secOkF
  cases ok with
  | false =>
    refine joinT (check_R6_a b false most i) ?_ rfl
    repeat (first | exact trivial | refine ⟨by first | exact h0 | exact h1' | assumption | omega | rfl, ?_⟩)
  | true =>
    cases h1 : isSpanF (b.secs.getD i sec0).t 200 3 with
    | false =>
      refine joinT (check_R6_b b true most i) ?_ rfl
      repeat (first | exact trivial | refine ⟨by first | exact h0 | exact h1' | assumption | omega | rfl, ?_⟩)
    | true =>
      refine joinT (check_R6_c b true most i) ?_ rfl
      repeat (first | exact trivial | refine ⟨by first | exact h0 | exact h1' | assumption | omega | rfl, ?_⟩)

theorem join14 (b : Book) (ok : Bool) (most : Int) (i : Nat) (hm : ok = true → inI64 (most * b.days)) : LoopT Proofs.Tryd.prog glob 119 (Code.at [1, 1, 1, 1, 1, 0, 1, 0, 0, 1, 1, 0, 0, 1] (body Proofs.Tryd.f64)) (check_R14 b ok most i) .normal (check_RS14 b ok most i (ok && decide ((b.secs.getD i sec0).t.lo ≥ most * b.days))) := by
  cases ok with
  | false =>
    refine joinT (check_R14_a b false most i) ?_ rfl
    repeat (first | exact trivial | refine ⟨by first | assumption | omega | rfl, ?_⟩)
  | true =>
    have hm := hm rfl
    refine joinT (check_R14_b b true most i) ?_ rfl
    repeat (first | exact trivial | refine ⟨by first | exact hm | assumption | omega | rfl, ?_⟩)

theorem join20 (b : Book) (ok : Bool) (last : Int) (i : Nat) (hm : ok = true → inI64 (last + 1)) : LoopT Proofs.Tryd.prog glob 119 (Code.at [1, 1, 1, 1, 1, 1, 1, 0, 1, 0, 0, 1, 1, 0, 0, 1, 0] (body Proofs.Tryd.f64)) (check_R20 b ok last i) .normal (check_RS20 b ok last i (ok && withinF (b.turns.getD i 0) (last + 1) b.days)) := by
  have h0 := within_con (b.turns.getD i 0) (last + 1) b.days
  cases ok with
  | false =>
    refine joinT (check_R20_a b false last i) ?_ rfl
    repeat (first | exact trivial | refine ⟨by first | assumption | omega | rfl, ?_⟩)
  | true =>
    have hm := hm rfl
    refine joinT (check_R20_b b true last i) ?_ rfl
    repeat (first | exact trivial | refine ⟨by first | exact hm | exact h0 | assumption | omega | rfl, ?_⟩)

theorem join26 (b : Book) (ok : Bool) (i : Nat) (hl : b.secs.length ≤ 9223372036854775807) : LoopT Proofs.Tryd.prog glob 119 (Code.at [1, 1, 1, 1, 1, 1, 1, 1, 0, 1, 0, 0, 1, 1, 0, 0, 1] (body Proofs.Tryd.f64)) (check_R26 b ok i) .normal (check_RS26 b ok i (ok && isSurveyF b (b.svs.getD i sv0))) := by
  have h0 := isSurvey_con b (b.svs.getD i sv0) hl
  cases ok with
  | false =>
    refine joinT (check_R26_a b false i) ?_ rfl
    repeat (first | exact trivial | refine ⟨by first | assumption | omega | rfl, ?_⟩)
  | true =>
    refine joinT (check_R26_b b true i) ?_ rfl
    repeat (first | exact trivial | refine ⟨by first | exact h0 | assumption | omega | rfl, ?_⟩)

theorem loop0 (b : Book) (hl : b.secs.length ≤ 9223372036854775807) : LoopT Proofs.Tryd.prog glob 119 (Code.at [1, 1, 1, 0, 1] (body Proofs.Tryd.f64)) (check_S0 b (ok0F b) 0 0) .normal (check_S0 b (ok1F b b.secs) (mostF b.secs) b.secs.length) := by
  rw [show Code.at [1, 1, 1, 0, 1] (body Proofs.Tryd.f64) = .block 0 (.loop (Code.at [1, 1, 1, 0, 1, 0, 0] (body Proofs.Tryd.f64))) from by kernel_rfl]
  refine LoopT.rounds (tt := lookN types) (S := fun i : {i : Nat // i ≤ b.secs.length} => check_S0 b (ok1F b (b.secs.take i.1)) (mostF (b.secs.take i.1)) i.1) (fun i => b.secs.length - i.1) ?_ ⟨0, Nat.zero_le _⟩
  intro ⟨i, hi⟩
  by_cases hlt : i < b.secs.length
  · have hf := take_foldl (fun ok x => ok && secOkF x) b.secs (ok0F b) i sec0 hlt
    have hf2 := take_foldl (fun m (x : Sec) => mx m x.w.hi) b.secs 0 i sec0 hlt
    refine WpL.path (G 119) (check_0_on b _ _ i (ok1F b (b.secs.take i) && secOkF (b.secs.getD i sec0))) ⟨decide_eq_true (by omega), by omega, by omega, join6 b _ _ i, by omega, by simp only [inI64]; omega, trivial⟩ ⟨⟨i + 1, hlt⟩, ?_, by dsimp only; omega⟩
    unfold ok1F mostF at *
    simp only
    rw [hf, hf2]
    rfl
  · have : i = b.secs.length := by omega
    subst this
    refine WpL.path (G 119) (check_0_end b _ _ _) ⟨decide_eq_false (Int.lt_irrefl _), trivial⟩ ⟨rfl, ?_⟩
    rw [List.take_length]
    rfl
end Go.Di

namespace Go.Di

theorem within_iff {n lo hi : Int} : withinF n lo hi = true ↔ lo ≤ n ∧ n ≤ hi := by simp [withinF]
theorem isSpan_iff {s : Span} {hi wide : Int} : isSpanF s hi wide = true ↔ 0 ≤ s.lo ∧ s.lo ≤ s.hi ∧ s.hi ≤ hi ∧ s.hi - s.lo ≤ wide := by simp [isSpanF, and_assoc]

structure Ok0 (b : Book) : Prop where
  secs : 1 ≤ b.secs.length ∧ b.secs.length ≤ 4
  days : 1 ≤ b.days ∧ b.days ≤ 30
  rule : 0 ≤ b.rule ∧ b.rule ≤ 200
  turns : b.turns.length ≤ 4
  svs : b.svs.length ≤ 8
theorem ok0_iff {b : Book} : ok0F b = true ↔ Ok0 b := by
  simp only [ok0F, Bool.and_eq_true, within_iff, decide_eq_true_eq]
  constructor
  · rintro ⟨⟨⟨⟨h1, h2⟩, h3⟩, h4⟩, h5⟩
    exact ⟨by omega, h2, h3, h4, h5⟩
  · rintro ⟨h1, h2, h3, h4, h5⟩
    exact ⟨⟨⟨⟨by omega, h2⟩, h3⟩, h4⟩, h5⟩
structure SecOk (x : Sec) : Prop where
  t : 0 ≤ x.t.lo ∧ x.t.lo ≤ x.t.hi ∧ x.t.hi ≤ 200 ∧ x.t.hi - x.t.lo ≤ 3
  w : 0 ≤ x.w.lo ∧ x.w.lo ≤ x.w.hi ∧ x.w.hi ≤ 3 ∧ x.w.hi - x.w.lo ≤ 2
theorem secOk_iff {x : Sec} : secOkF x = true ↔ SecOk x := by
  simp only [secOkF, Bool.and_eq_true, isSpan_iff]
  exact ⟨fun h => ⟨h.1, h.2⟩, fun h => ⟨h.1, h.2⟩⟩
theorem ok1_eq (b : Book) (l : List Sec) : ok1F b l = (ok0F b && l.all secOkF) := foldl_and _ _ _
theorem ok1_iff {b : Book} : ok1F b b.secs = true ↔ Ok0 b ∧ ∀ x ∈ b.secs, SecOk x := by
  rw [ok1_eq, Bool.and_eq_true, ok0_iff, List.all_eq_true]
  simp only [secOk_iff]
theorem mx_le {a b c : Int} (h1 : a ≤ c) (h2 : b ≤ c) : mx a b ≤ c := by unfold mx; split <;> omega
theorem mx_ge {a b : Int} : a ≤ mx a b ∧ b ≤ mx a b := by unfold mx; split <;> omega
theorem most_in {l : List Sec} (h : ∀ x ∈ l, SecOk x) : 0 ≤ mostF l ∧ mostF l ≤ 3 := by
  unfold mostF
  suffices ∀ (m : Int), 0 ≤ m ∧ m ≤ 3 → 0 ≤ l.foldl (fun m x => mx m x.w.hi) m ∧ l.foldl (fun m x => mx m x.w.hi) m ≤ 3 from this 0 (by omega)
  induction l with
  | nil => exact fun m h => h
  | cons x l ih =>
    intro m hm
    simp only [List.foldl_cons]
    have hx := (h x (by simp)).w
    refine ih (fun y hy => h y (by simp [hy])) _ ⟨?_, mx_le hm.2 hx.2.2.1⟩
    have := mx_ge (a := m) (b := x.w.hi)
    omega
theorem most_days {b : Book} (h : ok1F b b.secs = true) : inI64 (mostF b.secs * b.days) := by
  obtain ⟨h0, h1⟩ := ok1_iff.1 h
  have hm := most_in h1
  have hd := h0.days
  have : 0 ≤ mostF b.secs * b.days ∧ mostF b.secs * b.days ≤ 3 * 30 := ⟨Int.mul_nonneg hm.1 (by omega), Int.le_trans (Int.mul_le_mul_of_nonneg_right hm.2 (by omega)) (by omega)⟩
  simp only [inI64]
  omega
theorem ok2_eq (b : Book) (l : List Sec) : ok2F b l = (ok1F b b.secs && l.all fun x => decide (x.t.lo ≥ mostF b.secs * b.days)) := foldl_and _ _ _

theorem loop2 (b : Book) (hl : b.secs.length ≤ 9223372036854775807) : LoopT Proofs.Tryd.prog glob 119 (Code.at [1, 1, 1, 1, 1, 0, 1] (body Proofs.Tryd.f64)) (check_S2 b (ok1F b b.secs) (mostF b.secs) 0) .normal (check_S2 b (ok2F b b.secs) (mostF b.secs) b.secs.length) := by
  rw [show Code.at [1, 1, 1, 1, 1, 0, 1] (body Proofs.Tryd.f64) = .block 2 (.loop (Code.at [1, 1, 1, 1, 1, 0, 1, 0, 0] (body Proofs.Tryd.f64))) from by kernel_rfl]
  refine LoopT.rounds (tt := lookN types) (S := fun i : {i : Nat // i ≤ b.secs.length} => check_S2 b (ok2F b (b.secs.take i.1)) (mostF b.secs) i.1) (fun i => b.secs.length - i.1) ?_ ⟨0, Nat.zero_le _⟩
  intro ⟨i, hi⟩
  by_cases hlt : i < b.secs.length
  · have hf := take_foldl (fun ok (x : Sec) => ok && decide (x.t.lo ≥ mostF b.secs * b.days)) b.secs (ok1F b b.secs) i sec0 hlt
    have hj := join14 b (ok2F b (b.secs.take i)) (mostF b.secs) i (fun h => by
      rw [ok2_eq, Bool.and_eq_true] at h
      exact most_days h.1)
    refine WpL.path (G 119) (check_2_on b _ _ i (ok2F b (b.secs.take i) && decide ((b.secs.getD i sec0).t.lo ≥ mostF b.secs * b.days))) ⟨decide_eq_true (by omega), by omega, by omega, hj, by simp only [inI64]; omega, trivial⟩ ⟨⟨i + 1, hlt⟩, ?_, by dsimp only; omega⟩
    unfold ok2F at *
    simp only
    rw [hf]
    rfl
  · have : i = b.secs.length := by omega
    subst this
    refine WpL.path (G 119) (check_2_end b _ _ _) ⟨decide_eq_false (Int.lt_irrefl _), trivial⟩ ⟨rfl, ?_⟩
    rw [List.take_length]
    rfl

theorem turn_in {days : Int} (hd : days ≤ 30) : ∀ (l : List Int) (p : Bool × Int), (p.1 = true → 0 ≤ p.2 ∧ p.2 ≤ 30) → (l.foldl (turnF days) p).1 = true → 0 ≤ (l.foldl (turnF days) p).2 ∧ (l.foldl (turnF days) p).2 ≤ 30
  | [], p, h, hp => h hp
  | t :: l, p, h, hp => by
    simp only [List.foldl_cons] at hp ⊢
    refine turn_in hd l _ (fun hq => ?_) hp
    simp only [turnF, Bool.and_eq_true, within_iff] at hq ⊢
    have := h hq.1
    omega

theorem ok3_one {days : Int} : ∀ (l : List Int) (p : Bool × Int), (l.foldl (turnF days) p).1 = true → p.1 = true
  | [], p, h => h
  | t :: l, p, h => by
    have := ok3_one l _ h
    simp only [turnF, Bool.and_eq_true] at this
    exact this.1

theorem last_in {b : Book} {l : List Int} (h : (ok3F b l).1 = true) : inI64 ((ok3F b l).2 + 1) := by
  have h2 := ok3_one l _ h
  simp only at h2
  rw [ok2_eq, Bool.and_eq_true] at h2
  have h0 := (ok1_iff.1 h2.1).1
  have := turn_in (days := b.days) (by have := h0.days; omega) l (ok2F b b.secs, 0) (fun _ => by simp) h
  unfold ok3F
  simp only [inI64]
  omega

theorem loop4 (b : Book) (hl : b.turns.length ≤ 9223372036854775807) : LoopT Proofs.Tryd.prog glob 119 (Code.at [1, 1, 1, 1, 1, 1, 1, 0, 1] (body Proofs.Tryd.f64)) (check_S4 b (ok2F b b.secs) 0 0) .normal (check_S4 b (ok3F b b.turns).1 (ok3F b b.turns).2 b.turns.length) := by
  rw [show Code.at [1, 1, 1, 1, 1, 1, 1, 0, 1] (body Proofs.Tryd.f64) = .block 4 (.loop (Code.at [1, 1, 1, 1, 1, 1, 1, 0, 1, 0, 0] (body Proofs.Tryd.f64))) from by kernel_rfl]
  refine LoopT.rounds (tt := lookN types) (S := fun i : {i : Nat // i ≤ b.turns.length} => check_S4 b (ok3F b (b.turns.take i.1)).1 (ok3F b (b.turns.take i.1)).2 i.1) (fun i => b.turns.length - i.1) ?_ ⟨0, Nat.zero_le _⟩
  intro ⟨i, hi⟩
  by_cases hlt : i < b.turns.length
  · have hf := take_foldl (turnF b.days) b.turns (ok2F b b.secs, 0) i 0 hlt
    have hj := join20 b (ok3F b (b.turns.take i)).1 (ok3F b (b.turns.take i)).2 i (fun h => last_in h)
    refine WpL.path (G 119) (check_4_on b _ _ i ((ok3F b (b.turns.take i)).1 && withinF (b.turns.getD i 0) ((ok3F b (b.turns.take i)).2 + 1) b.days)) ⟨decide_eq_true (by omega), by omega, by omega, hj, by simp only [inI64]; omega, trivial⟩ ⟨⟨i + 1, hlt⟩, ?_, by dsimp only; omega⟩
    unfold ok3F at *
    simp only
    rw [hf]
    rfl
  · have : i = b.turns.length := by omega
    subst this
    refine WpL.path (G 119) (check_4_end b _ _ _) ⟨decide_eq_false (Int.lt_irrefl _), trivial⟩ ⟨rfl, ?_⟩
    rw [List.take_length]
    rfl

theorem loop6 (b : Book) (hl : b.secs.length ≤ 9223372036854775807) (hv : b.svs.length ≤ 9223372036854775807) : LoopT Proofs.Tryd.prog glob 119 (Code.at [1, 1, 1, 1, 1, 1, 1, 1, 0, 1] (body Proofs.Tryd.f64)) (check_S6 b (ok3F b b.turns).1 0) .normal (check_S6 b (ok4F b b.svs) b.svs.length) := by
  rw [show Code.at [1, 1, 1, 1, 1, 1, 1, 1, 0, 1] (body Proofs.Tryd.f64) = .block 6 (.loop (Code.at [1, 1, 1, 1, 1, 1, 1, 1, 0, 1, 0, 0] (body Proofs.Tryd.f64))) from by kernel_rfl]
  refine LoopT.rounds (tt := lookN types) (S := fun i : {i : Nat // i ≤ b.svs.length} => check_S6 b (ok4F b (b.svs.take i.1)) i.1) (fun i => b.svs.length - i.1) ?_ ⟨0, Nat.zero_le _⟩
  intro ⟨i, hi⟩
  by_cases hlt : i < b.svs.length
  · have hf := take_foldl (fun ok x => ok && isSurveyF b x) b.svs (ok3F b b.turns).1 i sv0 hlt
    have hj := join26 b (ok4F b (b.svs.take i)) i hl
    refine WpL.path (G 119) (check_6_on b _ i (ok4F b (b.svs.take i) && isSurveyF b (b.svs.getD i sv0))) ⟨decide_eq_true (by omega), by omega, by omega, hj, by simp only [inI64]; omega, trivial⟩ ⟨⟨i + 1, hlt⟩, ?_, by dsimp only; omega⟩
    unfold ok4F at *
    simp only
    rw [hf]
    rfl
  · have : i = b.svs.length := by omega
    subst this
    refine WpL.path (G 119) (check_6_end b _ _) ⟨decide_eq_false (Int.lt_irrefl _), trivial⟩ ⟨rfl, ?_⟩
    rw [List.take_length]
    rfl

theorem check_con (b : Book) (h1 : b.secs.length ≤ 9223372036854775807) (h2 : b.turns.length ≤ 9223372036854775807) (h3 : b.svs.length ≤ 9223372036854775807) : Contract Proofs.Tryd.prog glob 64 [bookD b] (.int .i64 (checkF b)) := by
  unfold checkF validF
  cases hk : ok1F b b.secs with
  | false =>
    refine contract_of_path (G 119) check_fn (check_bad1 b (ok0F b) (ok1F b b.secs) true true true (mostF b.secs) 0) ⟨join1 b, loop0 b h1, by rw [hk]; rfl, trivial⟩
  | true =>
    cases hv : ok4F b b.svs with
    | false =>
      refine contract_of_path (G 119) check_fn (check_bad2 b (ok0F b) (ok1F b b.secs) (ok2F b b.secs) (ok3F b b.turns).1 (ok4F b b.svs) (mostF b.secs) (ok3F b b.turns).2) ⟨join1 b, loop0 b h1, by rw [hk]; rfl, loop2 b h1, loop4 b h2, loop6 b h1 h3, by rw [hv]; rfl, trivial⟩
    | true =>
      refine contract_of_path (G 119) check_fn (check_good b (ok0F b) (ok1F b b.secs) (ok2F b b.secs) (ok3F b b.turns).1 (ok4F b b.svs) (mostF b.secs) (ok3F b b.turns).2) ⟨join1 b, loop0 b h1, by rw [hk]; rfl, loop2 b h1, loop4 b h2, loop6 b h1 h3, by rw [hv]; rfl, trivial⟩
end Go.Di

namespace Go.Di

/-- Numbers of a truth that are small. -/
structure TrOk (x : TrC) : Prop where
  w0 : 0 ≤ x.w0 ∧ x.w0 ≤ 1000
  w1 : 0 ≤ x.w1 ∧ x.w1 ≤ 1000
  w2 : 0 ≤ x.w2 ∧ x.w2 ≤ 1000
  w3 : 0 ≤ x.w3 ∧ x.w3 ≤ 1000
  f0 : -1000000 ≤ x.f0.lo ∧ x.f0.lo ≤ 1000000 ∧ -1000000 ≤ x.f0.hi ∧ x.f0.hi ≤ 1000000
  f1 : -1000000 ≤ x.f1.lo ∧ x.f1.lo ≤ 1000000 ∧ -1000000 ≤ x.f1.hi ∧ x.f1.hi ≤ 1000000
  f2 : -1000000 ≤ x.f2.lo ∧ x.f2.lo ≤ 1000000 ∧ -1000000 ≤ x.f2.hi ∧ x.f2.hi ≤ 1000000
  f3 : -1000000 ≤ x.f3.lo ∧ x.f3.lo ≤ 1000000 ∧ -1000000 ≤ x.f3.hi ∧ x.f3.hi ≤ 1000000

def firstF (x : TrC) (s : Int) : Span := [x.f0, x.f1, x.f2, x.f3].getD s.toNat ⟨0, 0⟩
def wornT (b : Book) (turns : List Int) (s day : Int) (x : TrC) : Int := wornF b.secs.length x.w0 x.w1 x.w2 x.w3 turns s day.toNat
def thick1F (b : Book) (turns : List Int) (s day : Int) (x : TrC) : Span := ⟨(firstF x s).lo - wornT b turns s day x, (firstF x s).hi - wornT b turns s day x⟩
def thickF (b : Book) (ts : List TrC) (turns : List Int) (s day : Int) : Span := toldF (thick1F b turns s day) ts

theorem trGet (x : TrC) (s : Int) (hs : 0 ≤ s ∧ s < 4) :
    List.getD [TrC.w0 x, TrC.w1 x, TrC.w2 x, TrC.w3 x, Span.lo (TrC.f0 x), Span.hi (TrC.f0 x), Span.lo (TrC.f1 x), Span.hi (TrC.f1 x), Span.lo (TrC.f2 x), Span.hi (TrC.f2 x), Span.lo (TrC.f3 x), Span.hi (TrC.f3 x)] (0 + 4 + Int.toNat s * 2 + 0) (0 : Int) = (firstF x s).lo ∧
    List.getD [TrC.w0 x, TrC.w1 x, TrC.w2 x, TrC.w3 x, Span.lo (TrC.f0 x), Span.hi (TrC.f0 x), Span.lo (TrC.f1 x), Span.hi (TrC.f1 x), Span.lo (TrC.f2 x), Span.hi (TrC.f2 x), Span.lo (TrC.f3 x), Span.hi (TrC.f3 x)] (0 + 4 + Int.toNat s * 2 + 1) (0 : Int) = (firstF x s).hi ∧ 0 + 4 + Int.toNat s * 2 + 2 ≤ 12 := by
  obtain ⟨k, hk, h4⟩ : ∃ k : Nat, s.toNat = k ∧ k < 4 := ⟨s.toNat, rfl, by omega⟩
  unfold firstF
  rw [hk]
  match k, h4 with
  | 0, _ => exact ⟨rfl, rfl, by omega⟩
  | 1, _ => exact ⟨rfl, rfl, by omega⟩
  | 2, _ => exact ⟨rfl, rfl, by omega⟩
  | 3, _ => exact ⟨rfl, rfl, by omega⟩
theorem firstF_in {x : TrC} (hx : TrOk x) (s : Int) (hs : 0 ≤ s ∧ s < 4) : -1000000 ≤ (firstF x s).lo ∧ (firstF x s).lo ≤ 1000000 ∧ -1000000 ≤ (firstF x s).hi ∧ (firstF x s).hi ≤ 1000000 := by
  obtain ⟨k, hk, h4⟩ : ∃ k : Nat, s.toNat = k ∧ k < 4 := ⟨s.toNat, rfl, by omega⟩
  unfold firstF
  rw [hk]
  match k, h4 with
  | 0, _ => exact hx.f0
  | 1, _ => exact hx.f1
  | 2, _ => exact hx.f2
  | 3, _ => exact hx.f3

theorem thick1_con (b : Book) (m : Mp) (ts : List TrC) (s day : Int) (turns : List Int) (x : TrC) (hx : TrOk x) (hs : 0 ≤ s ∧ s < b.secs.length) (hn : b.secs.length ≤ 4) (ht : turns.length ≤ 1000) (hd : day ≤ 1000) :
    Contract Proofs.Tryd.prog glob 168 [trD x, .ref (cellsOf (bkD b m ts)) 0, .ref [.int .i64 s] 0, .ref [.int .i64 day] 0, .ref [.sl false .int turns] 0] (spD (thick1F b turns s day x)) := by
  have hw := worn_con b m ts x.w0 x.w1 x.w2 x.w3 s day turns hx.w0 hx.w1 hx.w2 hx.w3 hs hn ht hd
  have hb := wornF_in (n := b.secs.length) (s := s) (turns := turns) hx.w0 hx.w1 hx.w2 hx.w3 day.toNat
  have h := thick1_all b m ts s day turns x (wornT b turns s day x)
  obtain ⟨g1, g2, g3⟩ := trGet x s (by omega)
  rw [g1, g2] at h
  have hf := firstF_in hx s (by omega)
  have hw' : wornT b turns s day x = wornF b.secs.length x.w0 x.w1 x.w2 x.w3 turns s day.toNat := rfl
  rw [← hw'] at hb hw
  exact contract_of_path (G 29) thick1_fn h ⟨by omega, by omega, by omega, hw, by omega, by omega, g3, by omega, by simp only [inI64]; omega, by omega, by simp only [inI64]; omega, by omega, trivial⟩

theorem thick_con (b : Book) (m : Mp) (ts : List TrC) (s day : Int) (turns : List Int) (hts : ∀ x ∈ ts, TrOk x) (hne : ts ≠ []) (hl : ts.length ≤ 100000) (hs : 0 ≤ s ∧ s < b.secs.length) (hn : b.secs.length ≤ 4) (ht : turns.length ≤ 1000) (hd : day ≤ 1000) :
    Contract Proofs.Tryd.prog glob 123 [bkD b m ts, .int .i64 s, .int .i64 day, .sl false .int turns] (spD (thickF b ts turns s day)) := by
  have h := told_con b m ts 168 [] [cellsOf (bkD b m ts), [.int .i64 s], [.int .i64 day], [.sl false .int turns]] (thick1F b turns s day) (fun x hx => thick1_con b m ts s day turns x (hts x hx) hs hn ht hd) hne hl
  exact contract_of_path (G 12) thick_fn (thick_all b m ts s day turns (thickF b ts turns s day)) ⟨h, by omega, trivial⟩
end Go.Di

namespace Go.Di
theorem may_fn : FnOk Proofs.Tryd.prog (mk Proofs.Tryd.prog (lookN types) glob 9) 223 (body Proofs.Tryd.f223) [.tmp 4] := ⟨Proofs.Tryd.f223, by kernel_rfl, by kernel_rfl, by kernel_rfl, by kernel_rfl, by kernel_rfl⟩
theorem surely_fn : FnOk Proofs.Tryd.prog (mk Proofs.Tryd.prog (lookN types) glob 9) 225 (body Proofs.Tryd.f225) [.tmp 4] := ⟨Proofs.Tryd.f225, by kernel_rfl, by kernel_rfl, by kernel_rfl, by kernel_rfl, by kernel_rfl⟩
theorem first0_fn : FnOk Proofs.Tryd.prog (mk Proofs.Tryd.prog (lookN types) glob 35) 171 (body Proofs.Tryd.f171) [.tmp 8] := ⟨Proofs.Tryd.f171, by kernel_rfl, by kernel_rfl, by kernel_rfl, by kernel_rfl, by kernel_rfl⟩
theorem first1_fn : FnOk Proofs.Tryd.prog (mk Proofs.Tryd.prog (lookN types) glob 35) 171 (body Proofs.Tryd.f171) [.tmp 8] := ⟨Proofs.Tryd.f171, by kernel_rfl, by kernel_rfl, by kernel_rfl, by kernel_rfl, by kernel_rfl⟩
theorem soonest_fn : FnOk Proofs.Tryd.prog (mk Proofs.Tryd.prog (lookN types) glob 27) 129 (body Proofs.Tryd.f129) [.tmp 4] := ⟨Proofs.Tryd.f129, by kernel_rfl, by kernel_rfl, by kernel_rfl, by kernel_rfl, by kernel_rfl⟩
theorem whole_fn : FnOk Proofs.Tryd.prog (mk Proofs.Tryd.prog (lookN types) glob 4) 167 (body Proofs.Tryd.f167) [.tmp 2] := ⟨Proofs.Tryd.f167, by kernel_rfl, by kernel_rfl, by kernel_rfl, by kernel_rfl, by kernel_rfl⟩
def first0_S0 (b : Book) (m : Mp) (ts : List TrC) (s : Int) (turns : List Int) (i : Nat) : List (Key × Val) :=
  [(.tmp 1, .d (D.int .i64 s)),
   (.tmp 2, .d (D.int .i64 (0 : Int))),
   (.tmp 3, .d (D.sl false E.int turns)),
   (.tmp 4, .d (D.ptr 4 0)),
   (.tmp 13, .d (D.int .i64 (Book.days b + (1 : Int)))),
   (.tmp 14, .d (.int .i64 i)),
   (.box 4, .bx (some (Box.mk false [D.sl false E.sec (Book.secs b), D.sl false E.int (Book.turns b), D.sl false E.sv (Book.svs b), D.int .i64 (Book.rule b), D.int .i64 (Book.days b), D.map m, D.sl false E.trc ts])))]
def first0_K0 : List Key := [.tmp 1, .tmp 2, .tmp 3, .tmp 4, .tmp 13, .tmp 14, .box 4]
def first1_S0 (b : Book) (m : Mp) (ts : List TrC) (s : Int) (turns : List Int) (i : Nat) : List (Key × Val) :=
  [(.tmp 1, .d (D.int .i64 s)),
   (.tmp 2, .d (D.int .i64 (1 : Int))),
   (.tmp 3, .d (D.sl false E.int turns)),
   (.tmp 4, .d (D.ptr 4 0)),
   (.tmp 13, .d (D.int .i64 (Book.days b + (1 : Int)))),
   (.tmp 14, .d (.int .i64 i)),
   (.box 4, .bx (some (Box.mk false [D.sl false E.sec (Book.secs b), D.sl false E.int (Book.turns b), D.sl false E.sv (Book.svs b), D.int .i64 (Book.rule b), D.int .i64 (Book.days b), D.map m, D.sl false E.trc ts])))]
def first1_K0 : List Key := [.tmp 1, .tmp 2, .tmp 3, .tmp 4, .tmp 13, .tmp 14, .box 4]
def soonest_S0 (b : Book) (m : Mp) (ts : List TrC) (turns : List Int) (i : Nat) (n1 : Int) : List (Key × Val) :=
  [(.tmp 1, .d (D.sl false E.int turns)),
   (.tmp 2, .d (D.ptr 2 0)),
   (.tmp 5, .d (.int .i64 n1)),
   (.tmp 14, .d (D.int .i64 ((Nat.cast : Nat → Int) (List.length (Book.secs b))))),
   (.tmp 15, .d (.int .i64 i)),
   (.box 2, .bx (some (Box.mk false [D.sl false E.sec (Book.secs b), D.sl false E.int (Book.turns b), D.sl false E.sv (Book.svs b), D.int .i64 (Book.rule b), D.int .i64 (Book.days b), D.map m, D.sl false E.trc ts])))]
def soonest_K0 : List Key := [.tmp 1, .tmp 2, .tmp 5, .tmp 14, .tmp 15, .box 2]
theorem first0_0_on (b : Book) (m : Mp) (ts : List TrC) (s : Int) (turns : List Int) (i : Nat) (o : Span) (t : Bool) :
    runK (mk Proofs.Tryd.prog (lookN types) glob 35) [(15, true), (28, false)] [(24, spD o), (28, .bool t)] [] (Code.at [1, 0, 1, 0, 0] (body Proofs.Tryd.f171)) (first0_S0 b m ts s turns i) first0_K0 =
      some ([decide ((Nat.cast : Nat → Int) i < Book.days b + (1 : Int)) = true, (0 : Int) ≤ (0 : Int) ∧ (0 : Int) < (Nat.cast : Nat → Int) 2, Contract Proofs.Tryd.prog glob 123 [D.agg [D.sl false E.sec (Book.secs b), D.sl false E.int (Book.turns b), D.sl false E.sv (Book.svs b), D.int .i64 (Book.rule b), D.int .i64 (Book.days b), D.map m, D.sl false E.trc ts], D.int .i64 s, D.int .i64 ((Nat.cast : Nat → Int) i), D.sl false E.int turns] (D.agg [D.int .i64 (Span.lo o), D.int .i64 (Span.hi o)]), Contract Proofs.Tryd.prog glob 223 [D.agg [D.int .i64 (Span.lo o), D.int .i64 (Span.hi o)], D.int .i64 (Book.rule b)] (D.bool t), t = false, inI64 ((Nat.cast : Nat → Int) i + (1 : Int))], Ex.normal, [(.tmp 1, .d (D.int .i64 s)), (.tmp 2, .d (D.int .i64 (0 : Int))), (.tmp 3, .d (D.sl false E.int turns)), (.tmp 4, .d (D.ptr 4 0)), (.tmp 13, .d (D.int .i64 (Book.days b + (1 : Int)))), (.tmp 14, .d (D.int .i64 ((Nat.cast : Nat → Int) i + (1 : Int)))), (.box 4, .bx (some (Box.mk false [D.sl false E.sec (Book.secs b), D.sl false E.int (Book.turns b), D.sl false E.sv (Book.svs b), D.int .i64 (Book.rule b), D.int .i64 (Book.days b), D.map m, D.sl false E.trc ts])))]) := by kernel_rfl
theorem first0_0_hit (b : Book) (m : Mp) (ts : List TrC) (s : Int) (turns : List Int) (i : Nat) (o : Span) (t : Bool) :
    runK (mk Proofs.Tryd.prog (lookN types) glob 35) [(15, true), (28, true)] [(24, spD o), (28, .bool t)] [] (Code.at [1, 0, 1, 0, 0] (body Proofs.Tryd.f171)) (first0_S0 b m ts s turns i) [.tmp 1, .tmp 2, .tmp 3, .tmp 4, .tmp 13, .tmp 14, .box 4, .tmp 8] =
      some ([decide ((Nat.cast : Nat → Int) i < Book.days b + (1 : Int)) = true, (0 : Int) ≤ (0 : Int) ∧ (0 : Int) < (Nat.cast : Nat → Int) 2, Contract Proofs.Tryd.prog glob 123 [D.agg [D.sl false E.sec (Book.secs b), D.sl false E.int (Book.turns b), D.sl false E.sv (Book.svs b), D.int .i64 (Book.rule b), D.int .i64 (Book.days b), D.map m, D.sl false E.trc ts], D.int .i64 s, D.int .i64 ((Nat.cast : Nat → Int) i), D.sl false E.int turns] (D.agg [D.int .i64 (Span.lo o), D.int .i64 (Span.hi o)]), Contract Proofs.Tryd.prog glob 223 [D.agg [D.int .i64 (Span.lo o), D.int .i64 (Span.hi o)], D.int .i64 (Book.rule b)] (D.bool t), t = true], Ex.ret, [(.tmp 1, .d (D.int .i64 s)), (.tmp 2, .d (D.int .i64 (0 : Int))), (.tmp 3, .d (D.sl false E.int turns)), (.tmp 4, .d (D.ptr 4 0)), (.tmp 13, .d (D.int .i64 (Book.days b + (1 : Int)))), (.tmp 14, .d (D.int .i64 ((Nat.cast : Nat → Int) i))), (.box 4, .bx (some (Box.mk false [D.sl false E.sec (Book.secs b), D.sl false E.int (Book.turns b), D.sl false E.sv (Book.svs b), D.int .i64 (Book.rule b), D.int .i64 (Book.days b), D.map m, D.sl false E.trc ts]))), (.tmp 8, .d (D.int .i64 ((Nat.cast : Nat → Int) i)))]) := by kernel_rfl
theorem first0_0_end (b : Book) (m : Mp) (ts : List TrC) (s : Int) (turns : List Int) (i : Nat) :
    runK (mk Proofs.Tryd.prog (lookN types) glob 35) [(15, false)] [] [] (Code.at [1, 0, 1, 0, 0] (body Proofs.Tryd.f171)) (first0_S0 b m ts s turns i) first0_K0 =
      some ([decide ((Nat.cast : Nat → Int) i < Book.days b + (1 : Int)) = false], Ex.exit 0, [(.tmp 1, .d (D.int .i64 s)), (.tmp 2, .d (D.int .i64 (0 : Int))), (.tmp 3, .d (D.sl false E.int turns)), (.tmp 4, .d (D.ptr 4 0)), (.tmp 13, .d (D.int .i64 (Book.days b + (1 : Int)))), (.tmp 14, .d (D.int .i64 ((Nat.cast : Nat → Int) i))), (.box 4, .bx (some (Box.mk false [D.sl false E.sec (Book.secs b), D.sl false E.int (Book.turns b), D.sl false E.sv (Book.svs b), D.int .i64 (Book.rule b), D.int .i64 (Book.days b), D.map m, D.sl false E.trc ts])))]) := by kernel_rfl
theorem first1_0_on (b : Book) (m : Mp) (ts : List TrC) (s : Int) (turns : List Int) (i : Nat) (o : Span) (t : Bool) :
    runK (mk Proofs.Tryd.prog (lookN types) glob 35) [(15, true), (28, false)] [(24, spD o), (28, .bool t)] [] (Code.at [1, 0, 1, 0, 0] (body Proofs.Tryd.f171)) (first1_S0 b m ts s turns i) first1_K0 =
      some ([decide ((Nat.cast : Nat → Int) i < Book.days b + (1 : Int)) = true, (0 : Int) ≤ (1 : Int) ∧ (1 : Int) < (Nat.cast : Nat → Int) 2, Contract Proofs.Tryd.prog glob 123 [D.agg [D.sl false E.sec (Book.secs b), D.sl false E.int (Book.turns b), D.sl false E.sv (Book.svs b), D.int .i64 (Book.rule b), D.int .i64 (Book.days b), D.map m, D.sl false E.trc ts], D.int .i64 s, D.int .i64 ((Nat.cast : Nat → Int) i), D.sl false E.int turns] (D.agg [D.int .i64 (Span.lo o), D.int .i64 (Span.hi o)]), Contract Proofs.Tryd.prog glob 225 [D.agg [D.int .i64 (Span.lo o), D.int .i64 (Span.hi o)], D.int .i64 (Book.rule b)] (D.bool t), t = false, inI64 ((Nat.cast : Nat → Int) i + (1 : Int))], Ex.normal, [(.tmp 1, .d (D.int .i64 s)), (.tmp 2, .d (D.int .i64 (1 : Int))), (.tmp 3, .d (D.sl false E.int turns)), (.tmp 4, .d (D.ptr 4 0)), (.tmp 13, .d (D.int .i64 (Book.days b + (1 : Int)))), (.tmp 14, .d (D.int .i64 ((Nat.cast : Nat → Int) i + (1 : Int)))), (.box 4, .bx (some (Box.mk false [D.sl false E.sec (Book.secs b), D.sl false E.int (Book.turns b), D.sl false E.sv (Book.svs b), D.int .i64 (Book.rule b), D.int .i64 (Book.days b), D.map m, D.sl false E.trc ts])))]) := by kernel_rfl
theorem first1_0_hit (b : Book) (m : Mp) (ts : List TrC) (s : Int) (turns : List Int) (i : Nat) (o : Span) (t : Bool) :
    runK (mk Proofs.Tryd.prog (lookN types) glob 35) [(15, true), (28, true)] [(24, spD o), (28, .bool t)] [] (Code.at [1, 0, 1, 0, 0] (body Proofs.Tryd.f171)) (first1_S0 b m ts s turns i) [.tmp 1, .tmp 2, .tmp 3, .tmp 4, .tmp 13, .tmp 14, .box 4, .tmp 8] =
      some ([decide ((Nat.cast : Nat → Int) i < Book.days b + (1 : Int)) = true, (0 : Int) ≤ (1 : Int) ∧ (1 : Int) < (Nat.cast : Nat → Int) 2, Contract Proofs.Tryd.prog glob 123 [D.agg [D.sl false E.sec (Book.secs b), D.sl false E.int (Book.turns b), D.sl false E.sv (Book.svs b), D.int .i64 (Book.rule b), D.int .i64 (Book.days b), D.map m, D.sl false E.trc ts], D.int .i64 s, D.int .i64 ((Nat.cast : Nat → Int) i), D.sl false E.int turns] (D.agg [D.int .i64 (Span.lo o), D.int .i64 (Span.hi o)]), Contract Proofs.Tryd.prog glob 225 [D.agg [D.int .i64 (Span.lo o), D.int .i64 (Span.hi o)], D.int .i64 (Book.rule b)] (D.bool t), t = true], Ex.ret, [(.tmp 1, .d (D.int .i64 s)), (.tmp 2, .d (D.int .i64 (1 : Int))), (.tmp 3, .d (D.sl false E.int turns)), (.tmp 4, .d (D.ptr 4 0)), (.tmp 13, .d (D.int .i64 (Book.days b + (1 : Int)))), (.tmp 14, .d (D.int .i64 ((Nat.cast : Nat → Int) i))), (.box 4, .bx (some (Box.mk false [D.sl false E.sec (Book.secs b), D.sl false E.int (Book.turns b), D.sl false E.sv (Book.svs b), D.int .i64 (Book.rule b), D.int .i64 (Book.days b), D.map m, D.sl false E.trc ts]))), (.tmp 8, .d (D.int .i64 ((Nat.cast : Nat → Int) i)))]) := by kernel_rfl
theorem first1_0_end (b : Book) (m : Mp) (ts : List TrC) (s : Int) (turns : List Int) (i : Nat) :
    runK (mk Proofs.Tryd.prog (lookN types) glob 35) [(15, false)] [] [] (Code.at [1, 0, 1, 0, 0] (body Proofs.Tryd.f171)) (first1_S0 b m ts s turns i) first1_K0 =
      some ([decide ((Nat.cast : Nat → Int) i < Book.days b + (1 : Int)) = false], Ex.exit 0, [(.tmp 1, .d (D.int .i64 s)), (.tmp 2, .d (D.int .i64 (1 : Int))), (.tmp 3, .d (D.sl false E.int turns)), (.tmp 4, .d (D.ptr 4 0)), (.tmp 13, .d (D.int .i64 (Book.days b + (1 : Int)))), (.tmp 14, .d (D.int .i64 ((Nat.cast : Nat → Int) i))), (.box 4, .bx (some (Box.mk false [D.sl false E.sec (Book.secs b), D.sl false E.int (Book.turns b), D.sl false E.sv (Book.svs b), D.int .i64 (Book.rule b), D.int .i64 (Book.days b), D.map m, D.sl false E.trc ts])))]) := by kernel_rfl
theorem soonest_0_on (b : Book) (m : Mp) (ts : List TrC) (turns : List Int) (i : Nat) (n1 : Int) (k n2 : Int) :
    runK (mk Proofs.Tryd.prog (lookN types) glob 27) [(16, true)] [(22, .int .i64 k), (24, .int .i64 n2)] [] (Code.at [1, 1, 0, 1, 0, 0] (body Proofs.Tryd.f129)) (soonest_S0 b m ts turns i n1) soonest_K0 =
      some ([decide ((Nat.cast : Nat → Int) i < (Nat.cast : Nat → Int) (List.length (Book.secs b))) = true, Contract Proofs.Tryd.prog glob 171 [D.agg [D.sl false E.sec (Book.secs b), D.sl false E.int (Book.turns b), D.sl false E.sv (Book.svs b), D.int .i64 (Book.rule b), D.int .i64 (Book.days b), D.map m, D.sl false E.trc ts], D.int .i64 ((Nat.cast : Nat → Int) i), D.int .i64 (0 : Int), D.sl false E.int turns] (D.int .i64 k), Contract Proofs.Tryd.prog glob 172 [D.int .i64 n1, D.sl false E.int [k]] (D.int .i64 n2), inI64 ((Nat.cast : Nat → Int) i + (1 : Int))], Ex.normal, [(.tmp 1, .d (D.sl false E.int turns)), (.tmp 2, .d (D.ptr 2 0)), (.tmp 5, .d (D.int .i64 n2)), (.tmp 14, .d (D.int .i64 ((Nat.cast : Nat → Int) (List.length (Book.secs b))))), (.tmp 15, .d (D.int .i64 ((Nat.cast : Nat → Int) i + (1 : Int)))), (.box 2, .bx (some (Box.mk false [D.sl false E.sec (Book.secs b), D.sl false E.int (Book.turns b), D.sl false E.sv (Book.svs b), D.int .i64 (Book.rule b), D.int .i64 (Book.days b), D.map m, D.sl false E.trc ts])))]) := by kernel_rfl
theorem soonest_0_end (b : Book) (m : Mp) (ts : List TrC) (turns : List Int) (i : Nat) (n1 : Int) :
    runK (mk Proofs.Tryd.prog (lookN types) glob 27) [(16, false)] [] [] (Code.at [1, 1, 0, 1, 0, 0] (body Proofs.Tryd.f129)) (soonest_S0 b m ts turns i n1) soonest_K0 =
      some ([decide ((Nat.cast : Nat → Int) i < (Nat.cast : Nat → Int) (List.length (Book.secs b))) = false], Ex.exit 0, [(.tmp 1, .d (D.sl false E.int turns)), (.tmp 2, .d (D.ptr 2 0)), (.tmp 5, .d (D.int .i64 n1)), (.tmp 14, .d (D.int .i64 ((Nat.cast : Nat → Int) (List.length (Book.secs b))))), (.tmp 15, .d (D.int .i64 ((Nat.cast : Nat → Int) i))), (.box 2, .bx (some (Box.mk false [D.sl false E.sec (Book.secs b), D.sl false E.int (Book.turns b), D.sl false E.sv (Book.svs b), D.int .i64 (Book.rule b), D.int .i64 (Book.days b), D.map m, D.sl false E.trc ts])))]) := by kernel_rfl
def first0_T0_hit (b : Book) (m : Mp) (ts : List TrC) (s : Int) (turns : List Int) (i : Nat) (o : Span) (t : Bool) : List (Key × Val) :=
  [(.tmp 1, .d (D.int .i64 s)), (.tmp 2, .d (D.int .i64 (0 : Int))), (.tmp 3, .d (D.sl false E.int turns)), (.tmp 4, .d (D.ptr 4 0)), (.tmp 13, .d (D.int .i64 (Book.days b + (1 : Int)))), (.tmp 14, .d (D.int .i64 ((Nat.cast : Nat → Int) i))), (.box 4, .bx (some (Box.mk false [D.sl false E.sec (Book.secs b), D.sl false E.int (Book.turns b), D.sl false E.sv (Book.svs b), D.int .i64 (Book.rule b), D.int .i64 (Book.days b), D.map m, D.sl false E.trc ts]))), (.tmp 8, .d (D.int .i64 ((Nat.cast : Nat → Int) i)))]
def first1_T0_hit (b : Book) (m : Mp) (ts : List TrC) (s : Int) (turns : List Int) (i : Nat) (o : Span) (t : Bool) : List (Key × Val) :=
  [(.tmp 1, .d (D.int .i64 s)), (.tmp 2, .d (D.int .i64 (1 : Int))), (.tmp 3, .d (D.sl false E.int turns)), (.tmp 4, .d (D.ptr 4 0)), (.tmp 13, .d (D.int .i64 (Book.days b + (1 : Int)))), (.tmp 14, .d (D.int .i64 ((Nat.cast : Nat → Int) i))), (.box 4, .bx (some (Box.mk false [D.sl false E.sec (Book.secs b), D.sl false E.int (Book.turns b), D.sl false E.sv (Book.svs b), D.int .i64 (Book.rule b), D.int .i64 (Book.days b), D.map m, D.sl false E.trc ts]))), (.tmp 8, .d (D.int .i64 ((Nat.cast : Nat → Int) i)))]
theorem may_all (s : Span) (rule : Int) :
    callF (mk Proofs.Tryd.prog (lookN types) glob 9) [] [] [] (body Proofs.Tryd.f223) [.tmp 4] [spD s, .int .i64 rule] =
      some ([0 + 0 + 1 ≤ 2], D.bool (decide (Span.lo s < rule))) := by kernel_rfl
theorem surely_all (s : Span) (rule : Int) :
    callF (mk Proofs.Tryd.prog (lookN types) glob 9) [] [] [] (body Proofs.Tryd.f225) [.tmp 4] [spD s, .int .i64 rule] =
      some ([0 + 1 + 1 ≤ 2], D.bool (decide (Span.hi s < rule))) := by kernel_rfl
theorem first0_hit (b : Book) (m : Mp) (ts : List TrC) (s : Int) (turns : List Int) (i : Nat) (o : Span) (t : Bool) :
    callF (mk Proofs.Tryd.prog (lookN types) glob 35) [] [] [(0, (first0_K0, (.ret, first0_T0_hit b m ts s turns i o t)))] (body Proofs.Tryd.f171) [.tmp 8] [bkD b m ts, .int .i64 s, .int .i64 0, .sl false .int turns] =
      some ([inI64 (Book.days b + (1 : Int)), LoopT Proofs.Tryd.prog glob 35 (Code.at [1, 0, 1] (body Proofs.Tryd.f171)) [(.tmp 1, .d (D.int .i64 s)), (.tmp 2, .d (D.int .i64 (0 : Int))), (.tmp 3, .d (D.sl false E.int turns)), (.tmp 4, .d (D.ptr 4 0)), (.tmp 13, .d (D.int .i64 (Book.days b + (1 : Int)))), (.tmp 14, .d (D.int .i64 (0 : Int))), (.box 4, .bx (some (Box.mk false [D.sl false E.sec (Book.secs b), D.sl false E.int (Book.turns b), D.sl false E.sv (Book.svs b), D.int .i64 (Book.rule b), D.int .i64 (Book.days b), D.map m, D.sl false E.trc ts])))] Ex.ret (first0_T0_hit b m ts s turns i o t)], D.int .i64 ((Nat.cast : Nat → Int) i)) := by kernel_rfl
theorem first0_end (b : Book) (m : Mp) (ts : List TrC) (s : Int) (turns : List Int) (i : Nat) :
    callF (mk Proofs.Tryd.prog (lookN types) glob 35) [] [] [(0, (first0_K0, (.normal, first0_S0 b m ts s turns i)))] (body Proofs.Tryd.f171) [.tmp 8] [bkD b m ts, .int .i64 s, .int .i64 0, .sl false .int turns] =
      some ([inI64 (Book.days b + (1 : Int)), LoopT Proofs.Tryd.prog glob 35 (Code.at [1, 0, 1] (body Proofs.Tryd.f171)) [(.tmp 1, .d (D.int .i64 s)), (.tmp 2, .d (D.int .i64 (0 : Int))), (.tmp 3, .d (D.sl false E.int turns)), (.tmp 4, .d (D.ptr 4 0)), (.tmp 13, .d (D.int .i64 (Book.days b + (1 : Int)))), (.tmp 14, .d (D.int .i64 (0 : Int))), (.box 4, .bx (some (Box.mk false [D.sl false E.sec (Book.secs b), D.sl false E.int (Book.turns b), D.sl false E.sv (Book.svs b), D.int .i64 (Book.rule b), D.int .i64 (Book.days b), D.map m, D.sl false E.trc ts])))] Ex.normal (first0_S0 b m ts s turns i), inI64 (Book.days b + (1 : Int))], D.int .i64 (Book.days b + (1 : Int))) := by kernel_rfl
theorem first1_hit (b : Book) (m : Mp) (ts : List TrC) (s : Int) (turns : List Int) (i : Nat) (o : Span) (t : Bool) :
    callF (mk Proofs.Tryd.prog (lookN types) glob 35) [] [] [(0, (first1_K0, (.ret, first1_T0_hit b m ts s turns i o t)))] (body Proofs.Tryd.f171) [.tmp 8] [bkD b m ts, .int .i64 s, .int .i64 1, .sl false .int turns] =
      some ([inI64 (Book.days b + (1 : Int)), LoopT Proofs.Tryd.prog glob 35 (Code.at [1, 0, 1] (body Proofs.Tryd.f171)) [(.tmp 1, .d (D.int .i64 s)), (.tmp 2, .d (D.int .i64 (1 : Int))), (.tmp 3, .d (D.sl false E.int turns)), (.tmp 4, .d (D.ptr 4 0)), (.tmp 13, .d (D.int .i64 (Book.days b + (1 : Int)))), (.tmp 14, .d (D.int .i64 (0 : Int))), (.box 4, .bx (some (Box.mk false [D.sl false E.sec (Book.secs b), D.sl false E.int (Book.turns b), D.sl false E.sv (Book.svs b), D.int .i64 (Book.rule b), D.int .i64 (Book.days b), D.map m, D.sl false E.trc ts])))] Ex.ret (first1_T0_hit b m ts s turns i o t)], D.int .i64 ((Nat.cast : Nat → Int) i)) := by kernel_rfl
theorem first1_end (b : Book) (m : Mp) (ts : List TrC) (s : Int) (turns : List Int) (i : Nat) :
    callF (mk Proofs.Tryd.prog (lookN types) glob 35) [] [] [(0, (first1_K0, (.normal, first1_S0 b m ts s turns i)))] (body Proofs.Tryd.f171) [.tmp 8] [bkD b m ts, .int .i64 s, .int .i64 1, .sl false .int turns] =
      some ([inI64 (Book.days b + (1 : Int)), LoopT Proofs.Tryd.prog glob 35 (Code.at [1, 0, 1] (body Proofs.Tryd.f171)) [(.tmp 1, .d (D.int .i64 s)), (.tmp 2, .d (D.int .i64 (1 : Int))), (.tmp 3, .d (D.sl false E.int turns)), (.tmp 4, .d (D.ptr 4 0)), (.tmp 13, .d (D.int .i64 (Book.days b + (1 : Int)))), (.tmp 14, .d (D.int .i64 (0 : Int))), (.box 4, .bx (some (Box.mk false [D.sl false E.sec (Book.secs b), D.sl false E.int (Book.turns b), D.sl false E.sv (Book.svs b), D.int .i64 (Book.rule b), D.int .i64 (Book.days b), D.map m, D.sl false E.trc ts])))] Ex.normal (first1_S0 b m ts s turns i), inI64 (Book.days b + (1 : Int))], D.int .i64 (Book.days b + (1 : Int))) := by kernel_rfl
theorem soonest_all (b : Book) (m : Mp) (ts : List TrC) (turns : List Int) (i : Nat) (n1 : Int) :
    callF (mk Proofs.Tryd.prog (lookN types) glob 27) [] [] [(0, (soonest_K0, (.normal, soonest_S0 b m ts turns i n1)))] (body Proofs.Tryd.f129) [.tmp 4] [bkD b m ts, .sl false .int turns] =
      some ([inI64 (Book.days b + (1 : Int)), LoopT Proofs.Tryd.prog glob 27 (Code.at [1, 1, 0, 1] (body Proofs.Tryd.f129)) [(.tmp 1, .d (D.sl false E.int turns)), (.tmp 2, .d (D.ptr 2 0)), (.tmp 5, .d (D.int .i64 (Book.days b + (1 : Int)))), (.tmp 14, .d (D.int .i64 ((Nat.cast : Nat → Int) (List.length (Book.secs b))))), (.tmp 15, .d (D.int .i64 (0 : Int))), (.box 2, .bx (some (Box.mk false [D.sl false E.sec (Book.secs b), D.sl false E.int (Book.turns b), D.sl false E.sv (Book.svs b), D.int .i64 (Book.rule b), D.int .i64 (Book.days b), D.map m, D.sl false E.trc ts])))] Ex.normal (soonest_S0 b m ts turns i n1)], D.int .i64 n1) := by kernel_rfl
theorem whole_all (b : Book) (m : Mp) (ts : List TrC) :
    callF (mk Proofs.Tryd.prog (lookN types) glob 4) [] [] [] (body Proofs.Tryd.f167) [.tmp 2] [bkD b m ts] =
      some ([], D.fn 192 [] [[D.sl false E.sec (Book.secs b), D.sl false E.int (Book.turns b), D.sl false E.sv (Book.svs b), D.int .i64 (Book.rule b), D.int .i64 (Book.days b), D.map m, D.sl false E.trc ts]]) := by kernel_rfl
end Go.Di

