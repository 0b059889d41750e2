/- Part 18: an interpreter over plain data for this code, with the proof that it says what the model does, and the contracts of the functions. No condition. -/
import Derived.Test.YtfkmodcjddfeiaaDoorDi17
set_option linter.unusedVariables false
set_option linter.unusedSimpArgs false
namespace Go.Di

/-! ### A book -/
def risesF (days : Int) (l : List Int) : Bool := (l.foldl (turnF days) (true, 0)).1
structure Valid (b : Book) : Prop where
  secs : 1 ≤ b.secs.length ∧ b.secs.length ≤ 4
  days : 1 ≤ b.days ∧ b.days ≤ 30
  rule : 0 ≤ b.rule ∧ b.rule ≤ 200
  turns : b.turns.length ≤ 4
  svs : b.svs.length ≤ 8
  sec : ∀ x ∈ b.secs, SecOk x
  thick : ∀ x ∈ b.secs, mostF b.secs * b.days ≤ x.t.lo
  rises : risesF b.days b.turns = true
  sv : ∀ y ∈ b.svs, isSurveyF b y = true
theorem turns_and {days : Int} : ∀ (l : List Int) (p : Bool) (n : Int), (l.foldl (turnF days) (p, n)).1 = (p && (l.foldl (turnF days) (true, n)).1)
  | [], p, n => by simp
  | t :: l, p, n => by
    simp only [List.foldl_cons, turnF]
    rw [turns_and l, turns_and l (true && _), Bool.and_assoc, Bool.true_and]
theorem valid_iff {b : Book} : validF b = true ↔ Valid b := by
  unfold validF
  have h4 : ok4F b b.svs = ((ok3F b b.turns).1 && b.svs.all fun x => isSurveyF b x) := foldl_and _ _ _
  have h3 : (ok3F b b.turns).1 = (ok2F b b.secs && risesF b.days b.turns) := turns_and _ _ _
  rw [h4, h3, ok2_eq, Bool.and_eq_true, Bool.and_eq_true, Bool.and_eq_true, Bool.and_eq_true, ok1_iff, List.all_eq_true, List.all_eq_true]
  constructor
  · rintro ⟨⟨h0, h1⟩, ⟨⟨⟨_, h2⟩, h5⟩, h6⟩⟩
    exact ⟨h0.secs, h0.days, h0.rule, h0.turns, h0.svs, h1, fun x hx => by simpa using h2 x hx, h5, h6⟩
  · rintro ⟨h1, h2, h3, h4, h5, h6, h7, h8, h9⟩
    exact ⟨⟨⟨h1, h2, h3, h4, h5⟩, h6⟩, ⟨⟨⟨⟨⟨h1, h2, h3, h4, h5⟩, h6⟩, fun x hx => by simpa using h7 x hx⟩, h8⟩, h9⟩⟩
theorem survey_iff {b : Book} {y : Sv} : isSurveyF b y = true ↔ (0 ≤ y.s ∧ y.s ≤ b.secs.length - 1) ∧ (0 ≤ y.d ∧ y.d ≤ b.days) ∧ (0 ≤ y.r ∧ y.r ≤ 200) ∧ (0 ≤ y.e ∧ y.e ≤ 5) := by
  simp only [isSurveyF, isSectionF, isDayF, Bool.and_eq_true, within_iff]
  constructor
  · rintro ⟨⟨⟨h1, h2⟩, h3⟩, h4⟩; exact ⟨h1, h2, h3, h4⟩
  · rintro ⟨h1, h2, h3, h4⟩; exact ⟨⟨⟨h1, h2⟩, h3⟩, h4⟩
theorem Valid.book {b : Book} (h : Valid b) : BookOk b := by
  refine ⟨h.secs.2, by have := h.turns; omega, by have := h.svs; omega, fun y hy => ?_, fun p hp => ?_⟩
  · obtain ⟨h1, h2, h3, h4⟩ := survey_iff.1 (h.sv y hy)
    have := h.days
    exact ⟨by omega, by omega, by omega⟩
  · have := (h.sec _ (getD_mem b.secs p sec0 hp)).w
    omega

/-! ### Its truths are small, and few -/
theorem step_le (b : Book) (x0 x1 x2 x3 k : Int) (s : Span) (e : Ent) : s.lo ≤ (rightStep b x0 x1 x2 x3 k s e).lo ∧ (rightStep b x0 x1 x2 x3 k s e).hi ≤ s.hi := by
  unfold rightStep
  split
  · exact ⟨mx_ge.1, by simp only [bothF]; unfold mn; split <;> omega⟩
  · exact ⟨Int.le_refl _, Int.le_refl _⟩
theorem right_le (b : Book) (x0 x1 x2 x3 k : Int) : ∀ (l : List Ent) (s : Span), s.lo ≤ (l.foldl (rightStep b x0 x1 x2 x3 k) s).lo ∧ (l.foldl (rightStep b x0 x1 x2 x3 k) s).hi ≤ s.hi
  | [], s => ⟨Int.le_refl _, Int.le_refl _⟩
  | e :: l, s => by
    have h1 := step_le b x0 x1 x2 x3 k s e
    have h2 := right_le b x0 x1 x2 x3 k l (rightStep b x0 x1 x2 x3 k s e)
    simp only [List.foldl_cons]
    omega
/-- What a truth says is between 0 and 200. -/
def Tr200 (t : TrC) : Prop := (0 ≤ t.f0.lo ∧ t.f0.lo ≤ t.f0.hi ∧ t.f0.hi ≤ 200) ∧ (0 ≤ t.f1.lo ∧ t.f1.lo ≤ t.f1.hi ∧ t.f1.hi ≤ 200) ∧ (0 ≤ t.f2.lo ∧ t.f2.lo ≤ t.f2.hi ∧ t.f2.hi ≤ 200) ∧ (0 ≤ t.f3.lo ∧ t.f3.lo ≤ t.f3.hi ∧ t.f3.hi ≤ 200)
theorem setF_200 {t : TrC} (h : Tr200 t) (i : Nat) {s : Span} (hs : 0 ≤ s.lo ∧ s.lo ≤ s.hi ∧ s.hi ≤ 200) : Tr200 (setF t i s) := by
  obtain ⟨h0, h1, h2, h3⟩ := h
  match i with
  | 0 => exact ⟨hs, h1, h2, h3⟩
  | 1 => exact ⟨h0, hs, h2, h3⟩
  | 2 => exact ⟨h0, h1, hs, h3⟩
  | _ + 3 => exact ⟨h0, h1, h2, hs⟩
theorem setF_w (t : TrC) (i : Nat) (s : Span) : (setF t i s).w0 = t.w0 ∧ (setF t i s).w1 = t.w1 ∧ (setF t i s).w2 = t.w2 ∧ (setF t i s).w3 = t.w3 := by
  match i with
  | 0 => exact ⟨rfl, rfl, rfl, rfl⟩
  | 1 => exact ⟨rfl, rfl, rfl, rfl⟩
  | 2 => exact ⟨rfl, rfl, rfl, rfl⟩
  | _ + 3 => exact ⟨rfl, rfl, rfl, rfl⟩
theorem leafGo_ok {b : Book} (hb : ∀ x ∈ b.secs, SecOk x) (l : List Ent) (x : W4) : ∀ (f i : Nat) (t : TrC), f + i = b.secs.length → Tr200 t → ∀ u ∈ leafGo b l x f i t, Tr200 u ∧ u.w0 = t.w0 ∧ u.w1 = t.w1 ∧ u.w2 = t.w2 ∧ u.w3 = t.w3
  | 0, i, t, _, ht, u, hu => by
    simp only [leafGo, List.mem_singleton] at hu
    subst hu
    exact ⟨ht, rfl, rfl, rfl, rfl⟩
  | f + 1, i, t, hf, ht, u, hu => by
    simp only [leafGo] at hu
    split at hu
    · rename_i hok
      have h1 := right_le b x.a x.b x.c x.d i l (b.secs.getD i sec0).t
      have h2 := (hb _ (getD_mem b.secs i sec0 (by omega))).t
      have hr : rightF b l x.a x.b x.c x.d i = l.foldl (rightStep b x.a x.b x.c x.d i) (b.secs.getD i sec0).t := rfl
      rw [← hr] at h1
      obtain ⟨g1, g2⟩ := leafGo_ok hb l x f (i + 1) _ (by omega) (setF_200 ht i (s := rightF b l x.a x.b x.c x.d i) (by omega)) u hu
      have h3 := setF_w t i (rightF b l x.a x.b x.c x.d i)
      exact ⟨g1, g2.1.trans h3.1, g2.2.1.trans h3.2.1, g2.2.2.1.trans h3.2.2.1, g2.2.2.2.trans h3.2.2.2⟩
    · cases hu
theorem leafGo_len (b : Book) (l : List Ent) (x : W4) : ∀ (f i : Nat) (t : TrC), (leafGo b l x f i t).length ≤ 1
  | 0, _, _ => by simp [leafGo]
  | f + 1, i, t => by
    simp only [leafGo]
    split
    · exact leafGo_len b l x f _ _
    · simp
theorem flat_len {α β : Type} (g : α → List β) (c : Nat) : ∀ (l : List α), (∀ x ∈ l, (g x).length ≤ c) → (l.flatMap g).length ≤ l.length * c
  | [], _ => by simp
  | x :: l, h => by
    have h1 := h x (by simp)
    have h2 := flat_len g c l (fun y hy => h y (by simp [hy]))
    simp only [List.flatMap_cons, List.length_append, List.length_cons, Nat.add_mul]
    omega
theorem rates_mem {s : Span} {n : Int} : n ∈ ratesF s ↔ (0 ≤ n ∧ s.lo ≤ n ∧ n ≤ s.hi) := by
  unfold ratesF ratesTo
  simp only [List.mem_filter, List.mem_map, List.mem_range, decide_eq_true_eq]
  constructor
  · rintro ⟨⟨k, hk, rfl⟩, h⟩; omega
  · rintro ⟨h1, h2, h3⟩; exact ⟨⟨n.toNat, by omega, by omega⟩, h2⟩
theorem rates_len (s : Span) : (ratesF s).length ≤ (s.hi + 1).toNat := by
  unfold ratesF ratesTo
  refine Nat.le_trans (List.length_filter_le _ _) ?_
  simp
theorem wholeGo_len {b : Book} (hb : ∀ x ∈ b.secs, SecOk x) (l : List Ent) : ∀ (f p : Nat) (x : W4), f + p = b.secs.length → (wholeGo b l f p x).length ≤ 4 ^ f
  | 0, p, x, _ => by
    show (leafF b l x).length ≤ 1
    exact leafGo_len _ _ _ _ _ _
  | f + 1, p, x, hf => by
    have h2 := (hb _ (getD_mem b.secs p sec0 (by omega))).w
    have h1 := flat_len (fun n => wholeGo b l f (p + 1) (x.set p n)) (4 ^ f) (ratesF (b.secs.getD p sec0).w) (fun n _ => wholeGo_len hb l f (p + 1) _ (by omega))
    have h3 := rates_len (b.secs.getD p sec0).w
    have h4 : (ratesF (b.secs.getD p sec0).w).length * 4 ^ f ≤ 4 * 4 ^ f := Nat.mul_le_mul_right _ (by omega)
    have h5 : (4 : Nat) ^ (f + 1) = 4 * 4 ^ f := by rw [Nat.pow_succ, Nat.mul_comm]
    rw [h5]
    exact Nat.le_trans h1 h4
theorem wholeGo_ok {b : Book} (hb : ∀ x ∈ b.secs, SecOk x) (l : List Ent) : ∀ (f p : Nat) (x : W4), f + p = b.secs.length → W4Ok x → ∀ t ∈ wholeGo b l f p x, Tr200 t ∧ W4Ok ⟨t.w0, t.w1, t.w2, t.w3⟩
  | 0, p, x, _, hx, t, ht => by
    have ht : t ∈ leafGo b l x b.secs.length 0 (trOf x) := ht
    obtain ⟨h1, h2, h3, h4, h5⟩ := leafGo_ok hb l x b.secs.length 0 (trOf x) (by omega) (by simp [Tr200, trOf]) t ht
    refine ⟨h1, ?_⟩
    rw [h2, h3, h4, h5]
    exact hx
  | f + 1, p, x, hf, hx, t, ht => by
    have ht : t ∈ (ratesF (b.secs.getD p sec0).w).flatMap fun n => wholeGo b l f (p + 1) (x.set p n) := ht
    obtain ⟨n, hn, ht⟩ := List.mem_flatMap.1 ht
    have h2 := (hb _ (getD_mem b.secs p sec0 (by omega))).w
    have hn := rates_mem.1 hn
    exact wholeGo_ok hb l f (p + 1) _ (by omega) (hx.set p ⟨by omega, by omega⟩) t ht
theorem zero4 : W4Ok ⟨0, 0, 0, 0⟩ := ⟨by decide, by decide, by decide, by decide⟩
theorem truths_len {b : Book} (hb : Valid b) (but : List Int) : (truthsF b but).length ≤ 256 := by
  have h := wholeGo_len hb.sec (openF b but) b.secs.length 0 ⟨0, 0, 0, 0⟩ (by omega)
  refine Nat.le_trans h ?_
  exact Nat.pow_le_pow_right (by decide) hb.secs.2
theorem truths_ok {b : Book} (hb : Valid b) (but : List Int) : ∀ t ∈ truthsF b but, TrOk t := by
  intro t ht
  obtain ⟨⟨h0, h1, h2, h3⟩, hw⟩ := wholeGo_ok hb.sec (openF b but) b.secs.length 0 ⟨0, 0, 0, 0⟩ (by omega) zero4 t ht
  have w0 := hw.a
  have w1 := hw.b
  have w2 := hw.c
  have w3 := hw.d
  exact ⟨w0, w1, w2, w3, by omega, by omega, by omega, by omega⟩
theorem opened_valid {b : Book} (hb : Valid b) (but : List Int) (hbut : but.length ≤ 100000) : Contract Proofs.Tryd.prog glob 119 [bookD b, .sl false .int but] (bkD b (.spot (openF b but)) (truthsF b but)) :=
  opened_con b hb.book but hbut (by have := truths_len hb but; omega)

/-! ### What is asked -/
/-- Lists that fit into memory. -/
structure Small (b : Book) : Prop where
  secs : b.secs.length ≤ 9223372036854775807
  turns : b.turns.length ≤ 9223372036854775807
  svs : b.svs.length ≤ 9223372036854775807
theorem check_small {b : Book} (h : Small b) : Contract Proofs.Tryd.prog glob 64 [bookD b] (.int .i64 (checkF b)) := check_con b h.secs h.turns h.svs
def canF (b : Book) : Bool := !(truthsF b []).isEmpty
/-- The error of what is asked. -/
def errF (b : Book) (is : Bool) : Int := if validF b = false then 10 else if is = false then 11 else if canF b = false then 12 else 0
theorem len_pos {b : Book} : decide (((truthsF b []).length : Int) > 0) = canF b := by
  unfold canF
  cases truthsF b [] with
  | nil => rfl
  | cons x l => simp
theorem ne_of_can {b : Book} (h : canF b = true) : truthsF b [] ≠ [] := by
  unfold canF at h
  cases hq : truthsF b [] with
  | nil => rw [hq] at h; cases h
  | cons x l => simp
theorem nil_of_can {b : Book} (h : canF b = false) : truthsF b [] = [] := by
  unfold canF at h
  cases hq : truthsF b [] with
  | nil => rfl
  | cons x l => rw [hq] at h; cases h

theorem asked_bad_con {b : Book} (hs : Small b) (is : Bool) (h : validF b = false) : Contract Proofs.Tryd.prog glob 121 [bookD b, .bool is] (.tup [zbookD, .int .i64 10]) := by
  have hc := check_small hs
  unfold checkF at hc
  rw [h] at hc
  exact contract_of_path (G 25) asked_fn (asked_bad b is 10) ⟨hc, rfl, trivial⟩
theorem check_ok {b : Book} (hs : Small b) (h : Valid b) : Contract Proofs.Tryd.prog glob 64 [bookD b] (.int .i64 0) := by
  have hc := check_small hs
  unfold checkF at hc
  rw [valid_iff.2 h] at hc
  exact hc
theorem asked_ask_con {b : Book} (hs : Small b) (h : Valid b) : Contract Proofs.Tryd.prog glob 121 [bookD b, .bool false] (.tup [zbookD, .int .i64 11]) :=
  contract_of_path (G 25) asked_fn (asked_ask b false 0) ⟨check_ok hs h, rfl, rfl, trivial⟩
theorem asked_false_con {b : Book} (hs : Small b) (h : Valid b) (hc : canF b = false) : Contract Proofs.Tryd.prog glob 121 [bookD b, .bool true] (.tup [bkD b (.spot (openF b [])) [], .int .i64 12]) := by
  have ho := opened_valid h [] (by simp)
  rw [nil_of_can hc] at ho
  exact contract_of_path (G 25) asked_fn (asked_false b true 0 (.spot (openF b [])) []) ⟨check_ok hs h, rfl, rfl, ho, rfl, trivial⟩
theorem asked_ok_con {b : Book} (hs : Small b) (h : Valid b) (hc : canF b = true) : Contract Proofs.Tryd.prog glob 121 [bookD b, .bool true] (.tup [bkD b (.spot (openF b [])) (truthsF b []), .int .i64 0]) := by
  have ho := opened_valid h [] (by simp)
  refine contract_of_path (G 25) asked_fn (asked_ok b true 0 (.spot (openF b [])) (truthsF b [])) ⟨check_ok hs h, rfl, rfl, ho, ?_, trivial⟩
  have := ne_of_can hc
  cases hq : truthsF b [] with
  | nil => exact absurd hq this
  | cons x l => simp; omega
theorem right_con' {b : Book} (hs : Small b) : Contract Proofs.Tryd.prog glob 37 [bookD b] (.tup [.bool (validF b && canF b), .int .i64 (checkF b)]) := by
  cases hv : validF b with
  | false =>
    have hc := check_small hs
    unfold checkF at hc ⊢
    rw [hv] at hc ⊢
    exact contract_of_path (G 15) right__fn (right__bad b 10) ⟨hc, rfl, trivial⟩
  | true =>
    have hV := valid_iff.1 hv
    unfold checkF
    rw [hv]
    have := right__ok b 0 (.spot (openF b [])) (truthsF b [])
    rw [len_pos] at this
    exact contract_of_path (G 15) right__fn this ⟨check_ok hs hV, rfl, opened_valid hV [] (by simp), trivial⟩
end Go.Di

namespace Go.Di

def spanOr (e : Int) (s : Span) : Span := if e = 0 then s else ⟨0, 0⟩
def askE (b : Book) (s d : Int) : Int := errF b (isSectionF b s && isDayF b d)

/-- The four answers of 'asked'. -/
theorem err_cases {b : Book} (hs : Small b) (is : Bool) : (errF b is ≠ 0 ∧ (errF b is = 12 → Valid b ∧ is = true ∧ canF b = false) ∧ (errF b is ≠ 12 → Contract Proofs.Tryd.prog glob 121 [bookD b, .bool is] (.tup [zbookD, .int .i64 (errF b is)]))) ∨ (errF b is = 0 ∧ Valid b ∧ is = true ∧ canF b = true) := by
  unfold errF
  cases hv : validF b with
  | false =>
    rw [if_pos rfl]
    exact .inl ⟨by decide, fun h => absurd h (by decide), fun _ => asked_bad_con hs is hv⟩
  | true =>
    have hV := valid_iff.1 hv
    cases is with
    | false =>
      refine .inl ⟨by simp, fun h => by simp at h, fun _ => ?_⟩
      simpa using asked_ask_con hs hV
    | true =>
      cases hc : canF b with
      | false => exact .inl ⟨by simp, fun _ => ⟨hV, rfl, rfl⟩, fun h => by simp at h⟩
      | true => exact .inr ⟨by simp, hV, rfl, rfl⟩

theorem thickA_con {b : Book} (hs : Small b) (s d : Int) : Contract Proofs.Tryd.prog glob 41 [bookD b, .int .i64 s, .int .i64 d] (.tup [spD (spanOr (askE b s d) (thickF b (truthsF b []) b.turns s d)), .int .i64 (askE b s d)]) := by
  have h1 := isSection_con b s hs.secs
  have h2 := isDay_con b d
  have hc := err_cases hs (isSectionF b s && isDayF b d)
  unfold askE
  generalize he : errF b (isSectionF b s && isDayF b d) = e at hc
  rcases hc with ⟨hne, h12, h3⟩ | ⟨h0, hV, his, hcan⟩
  · have hz : spanOr e (thickF b (truthsF b []) b.turns s d) = ⟨0, 0⟩ := if_neg hne
    rw [hz]
    by_cases e12 : e = 12
    · obtain ⟨hV, his, hcan⟩ := h12 e12
      have his' := his
      simp only [Bool.and_eq_true] at his'
      have ha := asked_false_con hs hV hcan
      subst e12
      have hr := thickA_false b s d (.spot (openF b []))
      rw [his'.2] at hr h2
      exact contract_of_path (G 33) thickA_fn hr ⟨h1, his'.1, his'.1, his'.1, h2, his'.1, ha, by omega, trivial⟩
    · have h3 := h3 e12
      have hb : (e != 0) = true := by simpa using hne
      cases hsec : isSectionF b s with
      | false =>
        rw [hsec] at h3
        exact contract_of_path (G 33) thickA_fn (thickA_no b s d e) ⟨h1, hsec, hsec, hsec, hsec, h3, hb, by omega, trivial⟩
      | true =>
        rw [hsec, Bool.true_and] at h3
        exact contract_of_path (G 33) thickA_fn (thickA_err b s d e) ⟨h1, hsec, hsec, hsec, h2, hsec, h3, hb, by omega, trivial⟩
  · subst h0
    have hz : spanOr 0 (thickF b (truthsF b []) b.turns s d) = thickF b (truthsF b []) b.turns s d := if_pos rfl
    rw [hz]
    have his' := his
    simp only [Bool.and_eq_true] at his'
    have hsec := within_iff.1 his'.1
    have hday := within_iff.1 his'.2
    have ha := asked_ok_con hs hV hcan
    have hdd := hV.days
    have ht := thick_con b (.spot (openF b [])) (truthsF b []) s d b.turns (truths_ok hV []) (ne_of_can hcan) (by have := truths_len hV []; omega) (by omega) hV.secs.2 (by have := hV.turns; omega) (by omega)
    have hr := thickA_ok b s d (.spot (openF b [])) (truthsF b []) (thickF b (truthsF b []) b.turns s d)
    rw [his'.2] at hr h2
    exact contract_of_path (G 33) thickA_fn hr ⟨h1, his'.1, his'.1, his'.1, h2, his'.1, ha, ht, by omega, trivial⟩

/-! ### How much a place wears -/
def wearAt (p : Int) (x : TrC) : Span := ⟨[x.w0, x.w1, x.w2, x.w3].getD p.toNat 0, [x.w0, x.w1, x.w2, x.w3].getD p.toNat 0⟩
theorem wear1_con (x : TrC) (p : Int) (hp : 0 ≤ p ∧ p < 4) : Contract Proofs.Tryd.prog glob 126 ([] ++ [trD x] ++ [[.int .i64 p]].map fun cs => .ref cs 0) (spD (wearAt p x)) := by
  have h := wear1_all x p
  obtain ⟨k, hk, h4⟩ : ∃ k : Nat, p.toNat = k ∧ k < 4 := ⟨p.toNat, rfl, by omega⟩
  have hr : (D.agg [D.int .i64 (List.getD [TrC.w0 x, TrC.w1 x, TrC.w2 x, TrC.w3 x, Span.lo (TrC.f0 x), Span.hi (TrC.f0 x), Span.lo (TrC.f1 x), Span.hi (TrC.f1 x), Span.lo (TrC.f2 x), Span.hi (TrC.f2 x), Span.lo (TrC.f3 x), Span.hi (TrC.f3 x)] (0 + 0 + Int.toNat p * 1) (0 : Int)), D.int .i64 (List.getD [TrC.w0 x, TrC.w1 x, TrC.w2 x, TrC.w3 x, Span.lo (TrC.f0 x), Span.hi (TrC.f0 x), Span.lo (TrC.f1 x), Span.hi (TrC.f1 x), Span.lo (TrC.f2 x), Span.hi (TrC.f2 x), Span.lo (TrC.f3 x), Span.hi (TrC.f3 x)] (0 + 0 + Int.toNat p * 1) (0 : Int))]) = spD (wearAt p x) := by
    unfold wearAt
    rw [hk]
    match k, h4 with
    | 0, _ => rfl
    | 1, _ => rfl
    | 2, _ => rfl
    | 3, _ => rfl
  rw [hr] at h
  exact contract_of_path (G 13) wear1_fn h ⟨by omega, by omega, by omega, by omega, by omega, by omega, by omega, trivial⟩
theorem wearA_con {b : Book} (hs : Small b) (p : Int) : Contract Proofs.Tryd.prog glob 42 [bookD b, .int .i64 p] (.tup [spD (spanOr (errF b (isSectionF b p)) (toldF (wearAt p) (truthsF b []))), .int .i64 (errF b (isSectionF b p))]) := by
  have h1 := isSection_con b p hs.secs
  have hc := err_cases hs (isSectionF b p)
  generalize he : errF b (isSectionF b p) = e at hc
  rcases hc with ⟨hne, h12, h3⟩ | ⟨h0, hV, his, hcan⟩
  · rw [show spanOr e (toldF (wearAt p) (truthsF b [])) = ⟨0, 0⟩ from if_neg hne]
    by_cases e12 : e = 12
    · obtain ⟨hV, his, hcan⟩ := h12 e12
      have ha := asked_false_con hs hV hcan
      subst e12
      have hr := wearA_false b p (.spot (openF b []))
      rw [his] at hr h1
      exact contract_of_path (G 23) wearA_fn hr ⟨by omega, h1, ha, by omega, trivial⟩
    · exact contract_of_path (G 23) wearA_fn (wearA_err b p e) ⟨by omega, h1, h3 e12, by simpa using hne, by omega, trivial⟩
  · subst h0
    rw [show spanOr 0 (toldF (wearAt p) (truthsF b [])) = toldF (wearAt p) (truthsF b []) from if_pos rfl]
    have hsec := within_iff.1 his
    have hl := hV.secs
    have ha := asked_ok_con hs hV hcan
    have ht := told_con b (.spot (openF b [])) (truthsF b []) 126 [] [[.int .i64 p]] (wearAt p) (fun x _ => wear1_con x p (by omega)) (ne_of_can hcan) (by have := truths_len hV []; omega)
    have hr := wearA_ok b p (.spot (openF b [])) (truthsF b []) (toldF (wearAt p) (truthsF b []))
    rw [his] at hr h1
    refine contract_of_path (G 23) wearA_fn hr ?_
    repeat (first | exact trivial | refine ⟨by first | exact h1 | exact ha | exact ht | omega, ?_⟩)

/-! ### The first day -/
/-- A day, or none. -/
def dayOr (b : Book) (e k : Int) : Int × Int := if e = 0 then (if k > b.days then (0, 4) else (k, 0)) else (0, e)
theorem day0_con {b : Book} (hs : Small b) (s : Int) : Contract Proofs.Tryd.prog glob 127 [bookD b, .int .i64 s, .int .i64 0] (.tup [.int .i64 (dayOr b (errF b (isSectionF b s)) (thinF b (truthsF b []) b.turns s)).1, .int .i64 (dayOr b (errF b (isSectionF b s)) (thinF b (truthsF b []) b.turns s)).2]) := by
  have h1 := isSection_con b s hs.secs
  have hc := err_cases hs (isSectionF b s)
  generalize he : errF b (isSectionF b s) = e at hc
  rcases hc with ⟨hne, h12, h3⟩ | ⟨h0, hV, his, hcan⟩
  · rw [show dayOr b e (thinF b (truthsF b []) b.turns s) = (0, e) from if_neg hne]
    by_cases e12 : e = 12
    · obtain ⟨hV, his, hcan⟩ := h12 e12
      have ha := asked_false_con hs hV hcan
      subst e12
      have hr := day0_false b s (.spot (openF b []))
      rw [his] at hr h1
      exact contract_of_path (G 33) day0_fn hr ⟨h1, ha, trivial⟩
    · exact contract_of_path (G 33) day0_fn (day0_err b s e) ⟨h1, h3 e12, by simpa using hne, trivial⟩
  · subst h0
    have hsec := within_iff.1 his
    have hl := hV.secs
    have hdd := hV.days
    have ha := asked_ok_con hs hV hcan
    have ht := first0_con b (.spot (openF b [])) (truthsF b []) s b.turns (truths_ok hV []) (ne_of_can hcan) (by have := truths_len hV []; omega) (by omega) hV.secs.2 (by have := hV.turns; omega) (by omega)
    generalize hk : thinF b (truthsF b []) b.turns s = k at ht
    unfold dayOr
    rw [if_pos rfl]
    by_cases hgt : k > b.days
    · rw [if_pos hgt]
      have hr := day0_none b s (.spot (openF b [])) (truthsF b []) k
      rw [his] at hr h1
      exact contract_of_path (G 33) day0_fn hr ⟨h1, ha, ht, decide_eq_true hgt, trivial⟩
    · rw [if_neg hgt]
      have hr := day0_ok b s (.spot (openF b [])) (truthsF b []) k
      rw [his] at hr h1
      exact contract_of_path (G 33) day0_fn hr ⟨h1, ha, ht, decide_eq_false hgt, trivial⟩
theorem day1_con {b : Book} (hs : Small b) (s : Int) : Contract Proofs.Tryd.prog glob 127 [bookD b, .int .i64 s, (.int .i64 1 : D)] (.tup [.int .i64 (dayOr b (errF b (isSectionF b s)) (goneF b (truthsF b []) b.turns s)).1, .int .i64 (dayOr b (errF b (isSectionF b s)) (goneF b (truthsF b []) b.turns s)).2]) := by
  have h1 := isSection_con b s hs.secs
  have hc := err_cases hs (isSectionF b s)
  generalize he : errF b (isSectionF b s) = e at hc
  rcases hc with ⟨hne, h12, h3⟩ | ⟨h0, hV, his, hcan⟩
  · rw [show dayOr b e (goneF b (truthsF b []) b.turns s) = (0, e) from if_neg hne]
    by_cases e12 : e = 12
    · obtain ⟨hV, his, hcan⟩ := h12 e12
      have ha := asked_false_con hs hV hcan
      subst e12
      have hr := day1_false b s (.spot (openF b []))
      rw [his] at hr h1
      exact contract_of_path (G 33) day1_fn hr ⟨h1, ha, trivial⟩
    · exact contract_of_path (G 33) day1_fn (day1_err b s e) ⟨h1, h3 e12, by simpa using hne, trivial⟩
  · subst h0
    have hsec := within_iff.1 his
    have hl := hV.secs
    have hdd := hV.days
    have ha := asked_ok_con hs hV hcan
    have ht := first1_con b (.spot (openF b [])) (truthsF b []) s b.turns (truths_ok hV []) (ne_of_can hcan) (by have := truths_len hV []; omega) (by omega) hV.secs.2 (by have := hV.turns; omega) (by omega)
    generalize hk : goneF b (truthsF b []) b.turns s = k at ht
    unfold dayOr
    rw [if_pos rfl]
    by_cases hgt : k > b.days
    · rw [if_pos hgt]
      have hr := day1_none b s (.spot (openF b [])) (truthsF b []) k
      rw [his] at hr h1
      exact contract_of_path (G 33) day1_fn hr ⟨h1, ha, ht, decide_eq_true hgt, trivial⟩
    · rw [if_neg hgt]
      have hr := day1_ok b s (.spot (openF b [])) (truthsF b []) k
      rw [his] at hr h1
      exact contract_of_path (G 33) day1_fn hr ⟨h1, ha, ht, decide_eq_false hgt, trivial⟩
def thinAF (b : Book) (s : Int) : Int × Int := dayOr b (errF b (isSectionF b s)) (thinF b (truthsF b []) b.turns s)
def goneAF (b : Book) (s : Int) : Int × Int := dayOr b (errF b (isSectionF b s)) (goneF b (truthsF b []) b.turns s)
theorem thinA_con {b : Book} (hs : Small b) (s : Int) : Contract Proofs.Tryd.prog glob 43 [bookD b, .int .i64 s] (.tup [.int .i64 (thinAF b s).1, .int .i64 (thinAF b s).2]) :=
  contract_of_path (G 11) thinA_fn (thinA_all b s _ _) ⟨day0_con hs s, trivial⟩
theorem goneA_con {b : Book} (hs : Small b) (s : Int) : Contract Proofs.Tryd.prog glob 44 [bookD b, .int .i64 s] (.tup [.int .i64 (goneAF b s).1, .int .i64 (goneAF b s).2]) :=
  contract_of_path (G 11) goneA_fn (goneA_all b s _ _) ⟨day1_con hs s, trivial⟩

/-! ### Does a survey fit? -/
def more (b : Book) (x : Sv) : Book := ⟨b.secs, b.turns, b.svs ++ [x], b.rule, b.days⟩
def fitsAF (b : Book) (x : Sv) : Bool × Int := if errF b (isSurveyF b x) = 0 then (!(truthsF (more b x) []).isEmpty, 0) else (false, errF b (isSurveyF b x))
/-- A book with one survey more: its truths can be told, though it may be one too many. -/
theorem more_opened {b : Book} (h : Valid b) {x : Sv} (hx : isSurveyF b x = true) : Contract Proofs.Tryd.prog glob 119 [bookD (more b x), .sl false .int []] (bkD (more b x) (.spot (openF (more b x) [])) (truthsF (more b x) [])) := by
  have hb := h.book
  have hsl := h.svs
  have hdd := h.days
  have hB : BookOk (more b x) := by
    refine ⟨hb.secs, hb.turns, by simp [more]; omega, fun y hy => ?_, hb.wear⟩
    rcases List.mem_append.1 hy with hy | hy
    · exact hb.sv y hy
    · simp only [List.mem_singleton] at hy
      subst hy
      obtain ⟨h1, h2, h3, h4⟩ := survey_iff.1 hx
      exact ⟨by omega, by omega, by omega⟩
  refine opened_con (more b x) hB [] (by simp) ?_
  have hl := wholeGo_len (b := more b x) h.sec (openF (more b x) []) b.secs.length 0 ⟨0, 0, 0, 0⟩ (by simp [more])
  have h4 : (4 : Nat) ^ b.secs.length ≤ 4 ^ 4 := Nat.pow_le_pow_right (by decide) h.secs.2
  have : (truthsF (more b x) []).length ≤ 4 ^ b.secs.length := hl
  omega
theorem len_pos' {l : List TrC} : decide ((l.length : Int) > 0) = !l.isEmpty := by
  cases l with
  | nil => rfl
  | cons x l => simp
theorem fitsA_con {b : Book} (hs : Small b) (x : Sv) : Contract Proofs.Tryd.prog glob 47 [bookD b, svD x] (.tup [.bool (fitsAF b x).1, .int .i64 (fitsAF b x).2]) := by
  have h1 := isSurvey_con b x hs.secs
  have hc := err_cases hs (isSurveyF b x)
  unfold fitsAF
  generalize he : errF b (isSurveyF b x) = e at hc
  rcases hc with ⟨hne, h12, h3⟩ | ⟨h0, hV, his, hcan⟩
  · rw [if_neg hne]
    by_cases e12 : e = 12
    · obtain ⟨hV, his, hcan⟩ := h12 e12
      have ha := asked_false_con hs hV hcan
      subst e12
      have hr := fitsA_false b x (.spot (openF b []))
      rw [his] at hr h1
      exact contract_of_path (G 39) fitsA_fn hr ⟨by omega, h1, ha, trivial⟩
    · exact contract_of_path (G 39) fitsA_fn (fitsA_err b x e) ⟨by omega, h1, h3 e12, by simpa using hne, trivial⟩
  · subst h0
    rw [if_pos rfl]
    have hl := hV.svs
    have ha := asked_ok_con hs hV hcan
    have ho := more_opened hV his
    have hr := fitsA_ok b x (.spot (openF b [])) (truthsF b []) (.spot (openF (more b x) [])) (truthsF (more b x) [])
    rw [len_pos', his] at hr
    rw [his] at h1
    have htake : List.drop (Int.toNat (0 : Int)) (List.take (Int.toNat (b.svs.length : Int)) b.svs) = b.svs := by simp
    refine contract_of_path (G 39) fitsA_fn hr ⟨by omega, h1, ha, ⟨by omega, by omega, by omega, rfl⟩, by omega, ?_, rfl, rfl, ?_, trivial⟩
    · show (List.drop (Int.toNat (0 : Int)) (List.take (Int.toNat (b.svs.length : Int)) b.svs) ++ [x]).length * 33 ≤ 140737488355328
      rw [htake]
      simp
      omega
    · show Contract _ _ _ [.agg [.sl false .sec b.secs, .sl false .int b.turns, .sl false .sv (List.drop (Int.toNat (0 : Int)) (List.take (Int.toNat (b.svs.length : Int)) b.svs) ++ [x]), .int .i64 b.rule, .int .i64 b.days], .sl false .int []] _
      rw [htake]
      exact ho
end Go.Di

namespace Go.Di
theorem cutA_fn : FnOk Proofs.Tryd.prog (mk Proofs.Tryd.prog (lookN types) glob 49) 40 (body Proofs.Tryd.f40) [.tmp 4, .tmp 5] := ⟨Proofs.Tryd.f40, by kernel_rfl, by kernel_rfl, by kernel_rfl, by kernel_rfl, by kernel_rfl⟩
theorem turnA_fn : FnOk Proofs.Tryd.prog (mk Proofs.Tryd.prog (lookN types) glob 70) 54 (body Proofs.Tryd.f54) [.tmp 2, .tmp 3] := ⟨Proofs.Tryd.f54, by kernel_rfl, by kernel_rfl, by kernel_rfl, by kernel_rfl, by kernel_rfl⟩
def cutB_S0 (b : Book) (d : Int) (m : Mp) (ts : List TrC) (i : Nat) (y : Int) (r : List Int) : List (Key × Val) :=
  [(.tmp 1, .d (D.int .i64 d)),
   (.tmp 2, .d (D.ptr 2 0)),
   (.tmp 6, .d (D.ptr 6 0)),
   (.tmp 8, .d (.own 41 (y :: r).length)),
   (.tmp 23, .d (D.int .i64 ((Nat.cast : Nat → Int) (List.length (Book.secs b))))),
   (.tmp 24, .d (.int .i64 i)),
   (.box 2, .bx (some (Box.mk false (cellsOf (bookD b))))),
   (.box 6, .bx (some (Box.mk false (cellsOf (bkD b m ts))))),
   (.obj 41, .ob (some ⟨.int, y :: r⟩))]
def cutB_K0 : List Key := [.tmp 1, .tmp 2, .tmp 6, .tmp 8, .tmp 23, .tmp 24, .box 2, .box 6, .obj 41]
def cutA_S0 (b : Book) (d : Int) (m : Mp) (ts : List TrC) (i : Nat) : List (Key × Val) :=
  [(.tmp 1, .d (D.int .i64 d)),
   (.tmp 2, .d (D.ptr 2 0)),
   (.tmp 6, .d (D.ptr 6 0)),
   (.tmp 8, .d (D.sl true E.int [])),
   (.tmp 23, .d (D.int .i64 ((Nat.cast : Nat → Int) (List.length (Book.secs b))))),
   (.tmp 24, .d (.int .i64 i)),
   (.box 2, .bx (some (Box.mk false (cellsOf (bookD b))))),
   (.box 6, .bx (some (Box.mk false (cellsOf (bkD b m ts))))),
   (.obj 41, .ob none)]
def cutA_K0 : List Key := [.tmp 1, .tmp 2, .tmp 6, .tmp 8, .tmp 23, .tmp 24, .box 2, .box 6, .obj 41]
def turnA_S0 (b : Book) (m : Mp) (ts : List TrC) (i : Nat) (n : Int) : List (Key × Val) :=
  [(.tmp 1, .d (D.ptr 1 0)),
   (.tmp 4, .d (D.ptr 4 0)),
   (.tmp 6, .d (.int .i64 n)),
   (.tmp 22, .d (D.sl false E.sv (Book.svs b))),
   (.tmp 23, .d (D.int .i64 ((Nat.cast : Nat → Int) (List.length (Book.svs b))))),
   (.tmp 24, .d (.int .i64 i)),
   (.box 1, .bx (some (Box.mk false (cellsOf (bookD b))))),
   (.box 4, .bx (some (Box.mk false (cellsOf (bkD b m ts)))))]
def turnA_K0 : List Key := [.tmp 1, .tmp 4, .tmp 6, .tmp 22, .tmp 23, .tmp 24, .box 1, .box 4]
def turnA_S2 (b : Book) (m : Mp) (ts : List TrC) (n d best late k0 : Int) (i : Nat) : List (Key × Val) :=
  [(.tmp 1, .d (D.ptr 1 0)),
   (.tmp 4, .d (D.ptr 4 0)),
   (.tmp 9, .d (.int .i64 best)),
   (.tmp 10, .d (.int .i64 late)),
   (.tmp 11, .d (.int .i64 d)),
   (.box 1, .bx (some (Box.mk false (cellsOf (bookD b))))),
   (.box 4, .bx (some (Box.mk false (cellsOf (bkD b m ts)))))]
def turnA_K2 : List Key := [.tmp 1, .tmp 4, .tmp 9, .tmp 10, .tmp 11, .box 1, .box 4]
theorem cutB_0_no (b : Book) (d : Int) (m : Mp) (ts : List TrC) (i : Nat) (y : Int) (r : List Int) (o : Span) (t : Bool) :
    runK (mk Proofs.Tryd.prog (lookN types) glob 49) [(25, true), (37, false)] [(34, spD o), (37, .bool t)] [] (Code.at [1, 1, 1, 1, 0, 1, 0, 0] (body Proofs.Tryd.f40)) (cutB_S0 b d m ts i y r) cutB_K0 =
      some ([decide ((Nat.cast : Nat → Int) i < (Nat.cast : Nat → Int) (List.length (Book.secs b))) = true, (0 : Int) ≤ (0 : Int) ∧ (0 : Int) < (Nat.cast : Nat → Int) 2, Contract Proofs.Tryd.prog glob 123 [bkD b m ts, D.int .i64 ((Nat.cast : Nat → Int) i), D.int .i64 d, D.sl false E.int (Book.turns b)] (D.agg [D.int .i64 (Span.lo o), D.int .i64 (Span.hi o)]), Contract Proofs.Tryd.prog glob 223 [D.agg [D.int .i64 (Span.lo o), D.int .i64 (Span.hi o)], D.int .i64 (Book.rule b)] (D.bool t), t = false, inI64 ((Nat.cast : Nat → Int) i + (1 : Int))], Ex.normal, [(.tmp 1, .d (D.int .i64 d)), (.tmp 2, .d (D.ptr 2 0)), (.tmp 6, .d (D.ptr 6 0)), (.tmp 8, .d (D.own 41 (List.length (y :: r)))), (.tmp 23, .d (D.int .i64 ((Nat.cast : Nat → Int) (List.length (Book.secs b))))), (.tmp 24, .d (D.int .i64 ((Nat.cast : Nat → Int) i + (1 : Int)))), (.box 2, .bx (some (Box.mk false (cellsOf (bookD b))))), (.box 6, .bx (some (Box.mk false (cellsOf (bkD b m ts))))), (.obj 41, .ob (some (Ob.mk E.int (y :: r))))]) := by kernel_rfl
theorem cutB_0_yes (b : Book) (d : Int) (m : Mp) (ts : List TrC) (i : Nat) (y : Int) (r : List Int) (o : Span) (t : Bool) :
    runK (mk Proofs.Tryd.prog (lookN types) glob 49) [(25, true), (37, true)] [(34, spD o), (37, .bool t)] [] (Code.at [1, 1, 1, 1, 0, 1, 0, 0] (body Proofs.Tryd.f40)) (cutB_S0 b d m ts i y r) cutB_K0 =
      some ([decide ((Nat.cast : Nat → Int) i < (Nat.cast : Nat → Int) (List.length (Book.secs b))) = true, (0 : Int) ≤ (0 : Int) ∧ (0 : Int) < (Nat.cast : Nat → Int) 2, Contract Proofs.Tryd.prog glob 123 [bkD b m ts, D.int .i64 ((Nat.cast : Nat → Int) i), D.int .i64 d, D.sl false E.int (Book.turns b)] (D.agg [D.int .i64 (Span.lo o), D.int .i64 (Span.hi o)]), Contract Proofs.Tryd.prog glob 223 [D.agg [D.int .i64 (Span.lo o), D.int .i64 (Span.hi o)], D.int .i64 (Book.rule b)] (D.bool t), t = true, List.length (y :: r) = List.length ((y :: r)), List.length ((y :: r) ++ [(Nat.cast : Nat → Int) i]) * (8 + 1) ≤ 140737488355328, inI64 ((Nat.cast : Nat → Int) i + (1 : Int))], Ex.normal, [(.tmp 1, .d (D.int .i64 d)), (.tmp 2, .d (D.ptr 2 0)), (.tmp 6, .d (D.ptr 6 0)), (.tmp 8, .d (D.own 41 (List.length ((y :: r) ++ [(Nat.cast : Nat → Int) i])))), (.tmp 23, .d (D.int .i64 ((Nat.cast : Nat → Int) (List.length (Book.secs b))))), (.tmp 24, .d (D.int .i64 ((Nat.cast : Nat → Int) i + (1 : Int)))), (.box 2, .bx (some (Box.mk false (cellsOf (bookD b))))), (.box 6, .bx (some (Box.mk false (cellsOf (bkD b m ts))))), (.obj 41, .ob (some (Ob.mk E.int ((y :: r) ++ [(Nat.cast : Nat → Int) i]))))]) := by kernel_rfl
theorem cutB_0_end (b : Book) (d : Int) (m : Mp) (ts : List TrC) (i : Nat) (y : Int) (r : List Int) :
    runK (mk Proofs.Tryd.prog (lookN types) glob 49) [(25, false)] [] [] (Code.at [1, 1, 1, 1, 0, 1, 0, 0] (body Proofs.Tryd.f40)) (cutB_S0 b d m ts i y r) cutB_K0 =
      some ([decide ((Nat.cast : Nat → Int) i < (Nat.cast : Nat → Int) (List.length (Book.secs b))) = false], Ex.exit 0, [(.tmp 1, .d (D.int .i64 d)), (.tmp 2, .d (D.ptr 2 0)), (.tmp 6, .d (D.ptr 6 0)), (.tmp 8, .d (D.own 41 (List.length (y :: r)))), (.tmp 23, .d (D.int .i64 ((Nat.cast : Nat → Int) (List.length (Book.secs b))))), (.tmp 24, .d (D.int .i64 ((Nat.cast : Nat → Int) i))), (.box 2, .bx (some (Box.mk false (cellsOf (bookD b))))), (.box 6, .bx (some (Box.mk false (cellsOf (bkD b m ts))))), (.obj 41, .ob (some (Ob.mk E.int (y :: r))))]) := by kernel_rfl
theorem cutA_0_no (b : Book) (d : Int) (m : Mp) (ts : List TrC) (i : Nat) (o : Span) (t : Bool) :
    runK (mk Proofs.Tryd.prog (lookN types) glob 49) [(25, true), (37, false)] [(34, spD o), (37, .bool t)] [] (Code.at [1, 1, 1, 1, 0, 1, 0, 0] (body Proofs.Tryd.f40)) (cutA_S0 b d m ts i) cutA_K0 =
      some ([decide ((Nat.cast : Nat → Int) i < (Nat.cast : Nat → Int) (List.length (Book.secs b))) = true, (0 : Int) ≤ (0 : Int) ∧ (0 : Int) < (Nat.cast : Nat → Int) 2, Contract Proofs.Tryd.prog glob 123 [bkD b m ts, D.int .i64 ((Nat.cast : Nat → Int) i), D.int .i64 d, D.sl false E.int (Book.turns b)] (D.agg [D.int .i64 (Span.lo o), D.int .i64 (Span.hi o)]), Contract Proofs.Tryd.prog glob 223 [D.agg [D.int .i64 (Span.lo o), D.int .i64 (Span.hi o)], D.int .i64 (Book.rule b)] (D.bool t), t = false, inI64 ((Nat.cast : Nat → Int) i + (1 : Int))], Ex.normal, [(.tmp 1, .d (D.int .i64 d)), (.tmp 2, .d (D.ptr 2 0)), (.tmp 6, .d (D.ptr 6 0)), (.tmp 8, .d (D.sl true E.int [])), (.tmp 23, .d (D.int .i64 ((Nat.cast : Nat → Int) (List.length (Book.secs b))))), (.tmp 24, .d (D.int .i64 ((Nat.cast : Nat → Int) i + (1 : Int)))), (.box 2, .bx (some (Box.mk false (cellsOf (bookD b))))), (.box 6, .bx (some (Box.mk false (cellsOf (bkD b m ts))))), (.obj 41, .ob Option.none)]) := by kernel_rfl
theorem cutA_0_yes (b : Book) (d : Int) (m : Mp) (ts : List TrC) (i : Nat) (o : Span) (t : Bool) :
    runK (mk Proofs.Tryd.prog (lookN types) glob 49) [(25, true), (37, true)] [(34, spD o), (37, .bool t)] [] (Code.at [1, 1, 1, 1, 0, 1, 0, 0] (body Proofs.Tryd.f40)) (cutA_S0 b d m ts i) cutB_K0 =
      some ([decide ((Nat.cast : Nat → Int) i < (Nat.cast : Nat → Int) (List.length (Book.secs b))) = true, (0 : Int) ≤ (0 : Int) ∧ (0 : Int) < (Nat.cast : Nat → Int) 2, Contract Proofs.Tryd.prog glob 123 [bkD b m ts, D.int .i64 ((Nat.cast : Nat → Int) i), D.int .i64 d, D.sl false E.int (Book.turns b)] (D.agg [D.int .i64 (Span.lo o), D.int .i64 (Span.hi o)]), Contract Proofs.Tryd.prog glob 223 [D.agg [D.int .i64 (Span.lo o), D.int .i64 (Span.hi o)], D.int .i64 (Book.rule b)] (D.bool t), t = true, 1 * (8 + 1) ≤ 140737488355328, inI64 ((Nat.cast : Nat → Int) i + (1 : Int))], Ex.normal, [(.tmp 1, .d (D.int .i64 d)), (.tmp 2, .d (D.ptr 2 0)), (.tmp 6, .d (D.ptr 6 0)), (.tmp 8, .d (D.own 41 1)), (.tmp 23, .d (D.int .i64 ((Nat.cast : Nat → Int) (List.length (Book.secs b))))), (.tmp 24, .d (D.int .i64 ((Nat.cast : Nat → Int) i + (1 : Int)))), (.box 2, .bx (some (Box.mk false (cellsOf (bookD b))))), (.box 6, .bx (some (Box.mk false (cellsOf (bkD b m ts))))), (.obj 41, .ob (some (Ob.mk E.int ([] ++ [(Nat.cast : Nat → Int) i]))))]) := by kernel_rfl
theorem cutA_0_end (b : Book) (d : Int) (m : Mp) (ts : List TrC) (i : Nat) :
    runK (mk Proofs.Tryd.prog (lookN types) glob 49) [(25, false)] [] [] (Code.at [1, 1, 1, 1, 0, 1, 0, 0] (body Proofs.Tryd.f40)) (cutA_S0 b d m ts i) cutA_K0 =
      some ([decide ((Nat.cast : Nat → Int) i < (Nat.cast : Nat → Int) (List.length (Book.secs b))) = false], Ex.exit 0, [(.tmp 1, .d (D.int .i64 d)), (.tmp 2, .d (D.ptr 2 0)), (.tmp 6, .d (D.ptr 6 0)), (.tmp 8, .d (D.sl true E.int [])), (.tmp 23, .d (D.int .i64 ((Nat.cast : Nat → Int) (List.length (Book.secs b))))), (.tmp 24, .d (D.int .i64 ((Nat.cast : Nat → Int) i))), (.box 2, .bx (some (Box.mk false (cellsOf (bookD b))))), (.box 6, .bx (some (Box.mk false (cellsOf (bkD b m ts))))), (.obj 41, .ob Option.none)]) := by kernel_rfl
theorem turnA_0_on (b : Book) (m : Mp) (ts : List TrC) (i : Nat) (n : Int) :
    runK (mk Proofs.Tryd.prog (lookN types) glob 70) [(25, true)] [] [] (Code.at [1, 1, 1, 1, 0, 1, 0, 0] (body Proofs.Tryd.f54)) (turnA_S0 b m ts i n) turnA_K0 =
      some ([decide ((Nat.cast : Nat → Int) i < (Nat.cast : Nat → Int) (List.length (Book.svs b))) = true, (0 : Int) ≤ (Nat.cast : Nat → Int) i ∧ (Nat.cast : Nat → Int) i < (Nat.cast : Nat → Int) (List.length (Book.svs b)), 0 + 4 ≤ 4, 0 + 1 + 1 ≤ 4, inI64 ((Nat.cast : Nat → Int) i + (1 : Int))], Ex.normal, [(.tmp 1, .d (D.ptr 1 0)), (.tmp 4, .d (D.ptr 4 0)), (.tmp 6, .d (D.int .i64 (List.foldl mx n [Sv.d (List.getD (Book.svs b) (Int.toNat ((Nat.cast : Nat → Int) i)) (E.z E.sv))]))), (.tmp 22, .d (D.sl false E.sv (Book.svs b))), (.tmp 23, .d (D.int .i64 ((Nat.cast : Nat → Int) (List.length (Book.svs b))))), (.tmp 24, .d (D.int .i64 ((Nat.cast : Nat → Int) i + (1 : Int)))), (.box 1, .bx (some (Box.mk false (cellsOf (bookD b))))), (.box 4, .bx (some (Box.mk false (cellsOf (bkD b m ts)))))]) := by kernel_rfl
theorem turnA_0_end (b : Book) (m : Mp) (ts : List TrC) (i : Nat) (n : Int) :
    runK (mk Proofs.Tryd.prog (lookN types) glob 70) [(25, false)] [] [] (Code.at [1, 1, 1, 1, 0, 1, 0, 0] (body Proofs.Tryd.f54)) (turnA_S0 b m ts i n) turnA_K0 =
      some ([decide ((Nat.cast : Nat → Int) i < (Nat.cast : Nat → Int) (List.length (Book.svs b))) = false], Ex.exit 0, [(.tmp 1, .d (D.ptr 1 0)), (.tmp 4, .d (D.ptr 4 0)), (.tmp 6, .d (D.int .i64 n)), (.tmp 22, .d (D.sl false E.sv (Book.svs b))), (.tmp 23, .d (D.int .i64 ((Nat.cast : Nat → Int) (List.length (Book.svs b))))), (.tmp 24, .d (D.int .i64 ((Nat.cast : Nat → Int) i))), (.box 1, .bx (some (Box.mk false (cellsOf (bookD b))))), (.box 4, .bx (some (Box.mk false (cellsOf (bkD b m ts)))))]) := by kernel_rfl
theorem turnA_2_has (b : Book) (m : Mp) (ts : List TrC) (n d best late k0 : Int) (i : Nat) (t : Bool) :
    runK (mk Proofs.Tryd.prog (lookN types) glob 70) [(41, true), (47, true)] [(47, .bool t)] [] (Code.at [1, 1, 1, 1, 1, 1, 0, 1, 0, 0] (body Proofs.Tryd.f54)) (turnA_S2 b m ts n d best late k0 i) turnA_K2 =
      some ([decide (d ≤ Book.days b) = true, Contract Proofs.Tryd.prog glob 130 [D.sl false E.int (Book.turns b), D.int .i64 d] (D.bool t), t = true, inI64 (d + (1 : Int))], Ex.normal, [(.tmp 1, .d (D.ptr 1 0)), (.tmp 4, .d (D.ptr 4 0)), (.tmp 9, .d (D.int .i64 best)), (.tmp 10, .d (D.int .i64 late)), (.tmp 11, .d (D.int .i64 (d + (1 : Int)))), (.box 1, .bx (some (Box.mk false (cellsOf (bookD b))))), (.box 4, .bx (some (Box.mk false (cellsOf (bkD b m ts)))))]) := by kernel_rfl
theorem turnA_2_no (b : Book) (m : Mp) (ts : List TrC) (n d best late k0 : Int) (i : Nat) (t : Bool) (k : Int) :
    runK (mk Proofs.Tryd.prog (lookN types) glob 70) [(41, true), (47, false), (64, false)] [(47, .bool t), (61, .int .i64 k)] [] (Code.at [1, 1, 1, 1, 1, 1, 0, 1, 0, 0] (body Proofs.Tryd.f54)) (turnA_S2 b m ts n d best late k0 i) turnA_K2 =
      some ([decide (d ≤ Book.days b) = true, Contract Proofs.Tryd.prog glob 130 [D.sl false E.int (Book.turns b), D.int .i64 d] (D.bool t), t = false, (0 : Int) ≤ (0 : Int) ∧ (0 : Int) ≤ (Nat.cast : Nat → Int) (List.length (Book.turns b)) ∧ (Nat.cast : Nat → Int) (List.length (Book.turns b)) ≤ (Nat.cast : Nat → Int) (List.length (Book.turns b)) ∧ (Nat.cast : Nat → Int) (List.length (Book.turns b)) = (Nat.cast : Nat → Int) (List.length (Book.turns b)), List.length (List.drop (Int.toNat (0 : Int)) (List.take (Int.toNat ((Nat.cast : Nat → Int) (List.length (Book.turns b)))) (Book.turns b)) ++ [d]) * (8 + 1) ≤ 140737488355328, List.length (List.drop (Int.toNat (0 : Int)) (List.take (Int.toNat ((Nat.cast : Nat → Int) (List.length (Book.turns b)))) (Book.turns b)) ++ [d]) = List.length ((List.drop (Int.toNat (0 : Int)) (List.take (Int.toNat ((Nat.cast : Nat → Int) (List.length (Book.turns b)))) (Book.turns b)) ++ [d])), Contract Proofs.Tryd.prog glob 129 [bkD b m ts, D.sl false E.int ((List.drop (Int.toNat (0 : Int)) (List.take (Int.toNat ((Nat.cast : Nat → Int) (List.length (Book.turns b)))) (Book.turns b)) ++ [d]))] (D.int .i64 k), decide (k > late) = false, inI64 (d + (1 : Int))], Ex.normal, [(.tmp 1, .d (D.ptr 1 0)), (.tmp 4, .d (D.ptr 4 0)), (.tmp 9, .d (D.int .i64 best)), (.tmp 10, .d (D.int .i64 late)), (.tmp 11, .d (D.int .i64 (d + (1 : Int)))), (.box 1, .bx (some (Box.mk false (cellsOf (bookD b))))), (.box 4, .bx (some (Box.mk false (cellsOf (bkD b m ts)))))]) := by kernel_rfl
theorem turnA_2_yes (b : Book) (m : Mp) (ts : List TrC) (n d best late k0 : Int) (i : Nat) (t : Bool) (k : Int) :
    runK (mk Proofs.Tryd.prog (lookN types) glob 70) [(41, true), (47, false), (64, true)] [(47, .bool t), (61, .int .i64 k)] [] (Code.at [1, 1, 1, 1, 1, 1, 0, 1, 0, 0] (body Proofs.Tryd.f54)) (turnA_S2 b m ts n d best late k0 i) turnA_K2 =
      some ([decide (d ≤ Book.days b) = true, Contract Proofs.Tryd.prog glob 130 [D.sl false E.int (Book.turns b), D.int .i64 d] (D.bool t), t = false, (0 : Int) ≤ (0 : Int) ∧ (0 : Int) ≤ (Nat.cast : Nat → Int) (List.length (Book.turns b)) ∧ (Nat.cast : Nat → Int) (List.length (Book.turns b)) ≤ (Nat.cast : Nat → Int) (List.length (Book.turns b)) ∧ (Nat.cast : Nat → Int) (List.length (Book.turns b)) = (Nat.cast : Nat → Int) (List.length (Book.turns b)), List.length (List.drop (Int.toNat (0 : Int)) (List.take (Int.toNat ((Nat.cast : Nat → Int) (List.length (Book.turns b)))) (Book.turns b)) ++ [d]) * (8 + 1) ≤ 140737488355328, List.length (List.drop (Int.toNat (0 : Int)) (List.take (Int.toNat ((Nat.cast : Nat → Int) (List.length (Book.turns b)))) (Book.turns b)) ++ [d]) = List.length ((List.drop (Int.toNat (0 : Int)) (List.take (Int.toNat ((Nat.cast : Nat → Int) (List.length (Book.turns b)))) (Book.turns b)) ++ [d])), Contract Proofs.Tryd.prog glob 129 [bkD b m ts, D.sl false E.int ((List.drop (Int.toNat (0 : Int)) (List.take (Int.toNat ((Nat.cast : Nat → Int) (List.length (Book.turns b)))) (Book.turns b)) ++ [d]))] (D.int .i64 k), decide (k > late) = true, inI64 (d + (1 : Int))], Ex.normal, [(.tmp 1, .d (D.ptr 1 0)), (.tmp 4, .d (D.ptr 4 0)), (.tmp 9, .d (D.int .i64 d)), (.tmp 10, .d (D.int .i64 k)), (.tmp 11, .d (D.int .i64 (d + (1 : Int)))), (.box 1, .bx (some (Box.mk false (cellsOf (bookD b))))), (.box 4, .bx (some (Box.mk false (cellsOf (bkD b m ts)))))]) := by kernel_rfl
theorem turnA_2_end (b : Book) (m : Mp) (ts : List TrC) (n d best late k0 : Int) (i : Nat) :
    runK (mk Proofs.Tryd.prog (lookN types) glob 70) [(41, false)] [] [] (Code.at [1, 1, 1, 1, 1, 1, 0, 1, 0, 0] (body Proofs.Tryd.f54)) (turnA_S2 b m ts n d best late k0 i) turnA_K2 =
      some ([decide (d ≤ Book.days b) = false], Ex.exit 2, [(.tmp 1, .d (D.ptr 1 0)), (.tmp 4, .d (D.ptr 4 0)), (.tmp 9, .d (D.int .i64 best)), (.tmp 10, .d (D.int .i64 late)), (.tmp 11, .d (D.int .i64 d)), (.box 1, .bx (some (Box.mk false (cellsOf (bookD b))))), (.box 4, .bx (some (Box.mk false (cellsOf (bkD b m ts)))))]) := by kernel_rfl
theorem cutA_err (b : Book) (d : Int) (e : Int) :
    callF (mk Proofs.Tryd.prog (lookN types) glob 49) [(19, true)] [(14, .bool (isDayF b d)), (15, .tup [zbookD, .int .i64 e])] [] (body Proofs.Tryd.f40) [.tmp 4, .tmp 5] [bookD b, .int .i64 d] =
      some ([Contract Proofs.Tryd.prog glob 122 [bookD b, D.int .i64 d] (D.bool (isDayF b d)), Contract Proofs.Tryd.prog glob 121 [bookD b, D.bool (isDayF b d)] (D.tup [D.agg [D.nil, D.nil, D.nil, D.int .i64 (0 : Int), D.int .i64 (0 : Int), D.nilmap, D.nil], D.int .i64 e]), (e != (0 : Int)) = true], D.tup [D.sl true E.int [], D.int .i64 e]) := by kernel_rfl
theorem cutA_false (b : Book) (d : Int) (m : Mp) :
    callF (mk Proofs.Tryd.prog (lookN types) glob 49) [] [(14, .bool (isDayF b d)), (15, .tup [bkD b m [], .int .i64 12])] [] (body Proofs.Tryd.f40) [.tmp 4, .tmp 5] [bookD b, .int .i64 d] =
      some ([Contract Proofs.Tryd.prog glob 122 [bookD b, D.int .i64 d] (D.bool (isDayF b d)), Contract Proofs.Tryd.prog glob 121 [bookD b, D.bool (isDayF b d)] (D.tup [bkD b m [], D.int .i64 (12 : Int)])], D.tup [D.sl true E.int [], D.int .i64 (12 : Int)]) := by kernel_rfl
theorem cutA_none (b : Book) (d : Int) (m : Mp) (ts : List TrC) (i : Nat) :
    callF (mk Proofs.Tryd.prog (lookN types) glob 49) [] [(14, .bool (isDayF b d)), (15, .tup [bkD b m ts, .int .i64 0])] [(0, (cutA_K0, (.normal, cutA_S0 b d m ts i)))] (body Proofs.Tryd.f40) [.tmp 4, .tmp 5] [bookD b, .int .i64 d] =
      some ([Contract Proofs.Tryd.prog glob 122 [bookD b, D.int .i64 d] (D.bool (isDayF b d)), Contract Proofs.Tryd.prog glob 121 [bookD b, D.bool (isDayF b d)] (D.tup [bkD b m ts, D.int .i64 (0 : Int)]), LoopT Proofs.Tryd.prog glob 49 (Code.at [1, 1, 1, 1, 0, 1] (body Proofs.Tryd.f40)) [(.tmp 1, .d (D.int .i64 d)), (.tmp 2, .d (D.ptr 2 0)), (.tmp 6, .d (D.ptr 6 0)), (.tmp 8, .d (D.sl true E.int [])), (.tmp 23, .d (D.int .i64 ((Nat.cast : Nat → Int) (List.length (Book.secs b))))), (.tmp 24, .d (D.int .i64 (0 : Int))), (.box 2, .bx (some (Box.mk false (cellsOf (bookD b))))), (.box 6, .bx (some (Box.mk false (cellsOf (bkD b m ts))))), (.obj 41, .ob Option.none)] Ex.normal (cutA_S0 b d m ts i), (0 : Int) ≤ (0 : Int) ∧ (0 : Int) ≤ (Nat.cast : Nat → Int) 0 ∧ (Nat.cast : Nat → Int) 0 ≤ (Nat.cast : Nat → Int) 0 ∧ (Nat.cast : Nat → Int) 0 = (Nat.cast : Nat → Int) 0], D.tup [D.sl true E.int (List.drop (Int.toNat (0 : Int)) (List.take (Int.toNat ((Nat.cast : Nat → Int) 0)) [])), D.int .i64 (0 : Int)]) := by kernel_rfl
theorem cutA_some (b : Book) (d : Int) (m : Mp) (ts : List TrC) (i : Nat) (y : Int) (r : List Int) :
    callF (mk Proofs.Tryd.prog (lookN types) glob 49) [] [(14, .bool (isDayF b d)), (15, .tup [bkD b m ts, .int .i64 0])] [(0, (cutB_K0, (.normal, cutB_S0 b d m ts i y r)))] (body Proofs.Tryd.f40) [.tmp 4, .tmp 5] [bookD b, .int .i64 d] =
      some ([Contract Proofs.Tryd.prog glob 122 [bookD b, D.int .i64 d] (D.bool (isDayF b d)), Contract Proofs.Tryd.prog glob 121 [bookD b, D.bool (isDayF b d)] (D.tup [bkD b m ts, D.int .i64 (0 : Int)]), LoopT Proofs.Tryd.prog glob 49 (Code.at [1, 1, 1, 1, 0, 1] (body Proofs.Tryd.f40)) [(.tmp 1, .d (D.int .i64 d)), (.tmp 2, .d (D.ptr 2 0)), (.tmp 6, .d (D.ptr 6 0)), (.tmp 8, .d (D.sl true E.int [])), (.tmp 23, .d (D.int .i64 ((Nat.cast : Nat → Int) (List.length (Book.secs b))))), (.tmp 24, .d (D.int .i64 (0 : Int))), (.box 2, .bx (some (Box.mk false (cellsOf (bookD b))))), (.box 6, .bx (some (Box.mk false (cellsOf (bkD b m ts))))), (.obj 41, .ob Option.none)] Ex.normal (cutB_S0 b d m ts i y r), List.length (y :: r) = List.length ((y :: r)), List.length (y :: r) = List.length ((y :: r)), List.length (y :: r) = List.length ((y :: r)), (0 : Int) ≤ (0 : Int) ∧ (0 : Int) ≤ (Nat.cast : Nat → Int) (List.length ((y :: r))) ∧ (Nat.cast : Nat → Int) (List.length ((y :: r))) ≤ (Nat.cast : Nat → Int) (List.length ((y :: r))) ∧ (Nat.cast : Nat → Int) (List.length ((y :: r))) = (Nat.cast : Nat → Int) (List.length ((y :: r)))], D.tup [D.sl true E.int (List.drop (Int.toNat (0 : Int)) (List.take (Int.toNat ((Nat.cast : Nat → Int) (List.length ((y :: r))))) ((y :: r)))), D.int .i64 (0 : Int)]) := by kernel_rfl
theorem turnA_err (b : Book) (e : Int) :
    callF (mk Proofs.Tryd.prog (lookN types) glob 70) [(19, true)] [(15, .tup [zbookD, .int .i64 e])] [] (body Proofs.Tryd.f54) [.tmp 2, .tmp 3] [bookD b] =
      some ([Contract Proofs.Tryd.prog glob 121 [bookD b, D.bool true] (D.tup [D.agg [D.nil, D.nil, D.nil, D.int .i64 (0 : Int), D.int .i64 (0 : Int), D.nilmap, D.nil], D.int .i64 e]), (e != (0 : Int)) = true], D.tup [D.int .i64 (0 : Int), D.int .i64 e]) := by kernel_rfl
theorem turnA_false (b : Book) (m : Mp) :
    callF (mk Proofs.Tryd.prog (lookN types) glob 70) [] [(15, .tup [bkD b m [], .int .i64 12])] [] (body Proofs.Tryd.f54) [.tmp 2, .tmp 3] [bookD b] =
      some ([Contract Proofs.Tryd.prog glob 121 [bookD b, D.bool true] (D.tup [bkD b m [], D.int .i64 (12 : Int)])], D.tup [D.int .i64 (0 : Int), D.int .i64 (12 : Int)]) := by kernel_rfl
theorem turnA_none (b : Book) (m : Mp) (ts : List TrC) (n d best late k0 : Int) (i : Nat) :
    callF (mk Proofs.Tryd.prog (lookN types) glob 70) [(68, true)] [(15, .tup [bkD b m ts, .int .i64 0]), (36, .int .i64 k0)] [(0, (turnA_K0, (.normal, turnA_S0 b m ts i n))), (2, (turnA_K2, (.normal, turnA_S2 b m ts n d best late k0 i)))] (body Proofs.Tryd.f54) [.tmp 2, .tmp 3] [bookD b] =
      some ([Contract Proofs.Tryd.prog glob 121 [bookD b, D.bool true] (D.tup [bkD b m ts, D.int .i64 (0 : Int)]), LoopT Proofs.Tryd.prog glob 70 (Code.at [1, 1, 1, 1, 0, 1] (body Proofs.Tryd.f54)) [(.tmp 1, .d (D.ptr 1 0)), (.tmp 4, .d (D.ptr 4 0)), (.tmp 6, .d (D.int .i64 (1 : Int))), (.tmp 22, .d (D.sl false E.sv (Book.svs b))), (.tmp 23, .d (D.int .i64 ((Nat.cast : Nat → Int) (List.length (Book.svs b))))), (.tmp 24, .d (D.int .i64 (0 : Int))), (.box 1, .bx (some (Box.mk false (cellsOf (bookD b))))), (.box 4, .bx (some (Box.mk false (cellsOf (bkD b m ts)))))] Ex.normal (turnA_S0 b m ts i n), Contract Proofs.Tryd.prog glob 129 [bkD b m ts, D.sl false E.int (Book.turns b)] (D.int .i64 k0), LoopT Proofs.Tryd.prog glob 70 (Code.at [1, 1, 1, 1, 1, 1, 0, 1] (body Proofs.Tryd.f54)) [(.tmp 1, .d (D.ptr 1 0)), (.tmp 4, .d (D.ptr 4 0)), (.tmp 9, .d (D.int .i64 (0 : Int))), (.tmp 10, .d (D.int .i64 k0)), (.tmp 11, .d (D.int .i64 n)), (.box 1, .bx (some (Box.mk false (cellsOf (bookD b))))), (.box 4, .bx (some (Box.mk false (cellsOf (bkD b m ts)))))] Ex.normal (turnA_S2 b m ts n d best late k0 i), (best == (0 : Int)) = true], D.tup [D.int .i64 (0 : Int), D.int .i64 (4 : Int)]) := by kernel_rfl
theorem turnA_some (b : Book) (m : Mp) (ts : List TrC) (n d best late k0 : Int) (i : Nat) :
    callF (mk Proofs.Tryd.prog (lookN types) glob 70) [(68, false)] [(15, .tup [bkD b m ts, .int .i64 0]), (36, .int .i64 k0)] [(0, (turnA_K0, (.normal, turnA_S0 b m ts i n))), (2, (turnA_K2, (.normal, turnA_S2 b m ts n d best late k0 i)))] (body Proofs.Tryd.f54) [.tmp 2, .tmp 3] [bookD b] =
      some ([Contract Proofs.Tryd.prog glob 121 [bookD b, D.bool true] (D.tup [bkD b m ts, D.int .i64 (0 : Int)]), LoopT Proofs.Tryd.prog glob 70 (Code.at [1, 1, 1, 1, 0, 1] (body Proofs.Tryd.f54)) [(.tmp 1, .d (D.ptr 1 0)), (.tmp 4, .d (D.ptr 4 0)), (.tmp 6, .d (D.int .i64 (1 : Int))), (.tmp 22, .d (D.sl false E.sv (Book.svs b))), (.tmp 23, .d (D.int .i64 ((Nat.cast : Nat → Int) (List.length (Book.svs b))))), (.tmp 24, .d (D.int .i64 (0 : Int))), (.box 1, .bx (some (Box.mk false (cellsOf (bookD b))))), (.box 4, .bx (some (Box.mk false (cellsOf (bkD b m ts)))))] Ex.normal (turnA_S0 b m ts i n), Contract Proofs.Tryd.prog glob 129 [bkD b m ts, D.sl false E.int (Book.turns b)] (D.int .i64 k0), LoopT Proofs.Tryd.prog glob 70 (Code.at [1, 1, 1, 1, 1, 1, 0, 1] (body Proofs.Tryd.f54)) [(.tmp 1, .d (D.ptr 1 0)), (.tmp 4, .d (D.ptr 4 0)), (.tmp 9, .d (D.int .i64 (0 : Int))), (.tmp 10, .d (D.int .i64 k0)), (.tmp 11, .d (D.int .i64 n)), (.box 1, .bx (some (Box.mk false (cellsOf (bookD b))))), (.box 4, .bx (some (Box.mk false (cellsOf (bkD b m ts)))))] Ex.normal (turnA_S2 b m ts n d best late k0 i), (best == (0 : Int)) = false], D.tup [D.int .i64 best, D.int .i64 (0 : Int)]) := by kernel_rfl
end Go.Di

