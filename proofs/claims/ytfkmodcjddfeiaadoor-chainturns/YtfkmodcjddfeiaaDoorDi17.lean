/- Part 17: an interpreter over plain data for this code, with the proof that it says what the model does, and the contracts of the functions. No condition. -/
import Derived.Test.YtfkmodcjddfeiaaDoorDi16
set_option linter.unusedVariables false
set_option linter.unusedSimpArgs false
namespace Go.Di

def spanOr (e : Int) (s : Span) : Span := if e = 0 then s else ⟨0, 0⟩
def askE (b : Book) (s d : Int) : Int := errF b (isSectionF b s && isDayF b d)

/-- The four answers of 'asked'. -/
theorem err_cases {b : Book} (hs : Small b) (is : Bool) : (errF b is ≠ 0 ∧ (errF b is = 12 → Valid b ∧ is = true ∧ canF b = false) ∧ (errF b is ≠ 12 → Contract PR glob 121 [bookD b, .bool is] (.tup [zbookD, .int .i64 (errF b is)]))) ∨ (errF b is = 0 ∧ Valid b ∧ is = true ∧ canF b = true) := by
 unfold errF
 cases hv : validF b with
 | false =>
  rw [if_pos rfl]
  exact .inl ⟨by decide, fun h => absurd h (by decide), fun _ => asked_bad_con hs is hv⟩
 | true =>
  have hV := valid_iff.1 hv
  cases is with
  | false =>
   refine .inl ⟨by simp, fun h => by simp at h, fun _ => ?_⟩
   simpa using asked_ask_con hs hV
  | true =>
   cases hc : canF b with
   | false => exact .inl ⟨by simp, fun _ => ⟨hV, rfl, rfl⟩, fun h => by simp at h⟩
   | true => exact .inr ⟨by simp, hV, rfl, rfl⟩

theorem thickA_con {b : Book} (hs : Small b) (s d : Int) : Contract PR glob 41 [bookD b, .int .i64 s, .int .i64 d] (.tup [spD (spanOr (askE b s d) (thickF b (truthsF b []) b.turns s d)), .int .i64 (askE b s d)]) := by
 have h1 := isSection_con b s hs.secs
 have h2 := isDay_con b d
 have hc := err_cases hs (isSectionF b s && isDayF b d)
 unfold askE
 generalize he : errF b (isSectionF b s && isDayF b d) = e at hc
 rcases hc with ⟨hne, h12, h3⟩ | ⟨h0, hV, his, hcan⟩
 ·have hz : spanOr e (thickF b (truthsF b []) b.turns s d) = ⟨0, 0⟩ := if_neg hne
  rw [hz]
  by_cases e12 : e = 12
  ·obtain ⟨hV, his, hcan⟩ := h12 e12
   have his' := his
   simp only [Bool.and_eq_true] at his'
   have ha := asked_false_con hs hV hcan
   subst e12
   have hr := thickA_false b s d (.spot (openF b []))
   rw [his'.2] at hr h2
   exact contract_of_path (G 33) thickA_fn hr ⟨h1, his'.1, his'.1, his'.1, h2, his'.1, ha, by omega, trivial⟩
  ·have h3 := h3 e12
   have hb : (e != 0) = true := by simpa using hne
   cases hsec : isSectionF b s with
   | false =>
    rw [hsec] at h3
    exact contract_of_path (G 33) thickA_fn (thickA_no b s d e) ⟨h1, hsec, hsec, hsec, hsec, h3, hb, by omega, trivial⟩
   | true =>
    rw [hsec, Bool.true_and] at h3
    exact contract_of_path (G 33) thickA_fn (thickA_err b s d e) ⟨h1, hsec, hsec, hsec, h2, hsec, h3, hb, by omega, trivial⟩
 ·subst h0
  have hz : spanOr 0 (thickF b (truthsF b []) b.turns s d) = thickF b (truthsF b []) b.turns s d := if_pos rfl
  rw [hz]
  have his' := his
  simp only [Bool.and_eq_true] at his'
  have hsec := within_iff.1 his'.1
  have hday := within_iff.1 his'.2
  have ha := asked_ok_con hs hV hcan
  have hdd := hV.days
  have ht := thick_con b (.spot (openF b [])) (truthsF b []) s d b.turns (truths_ok hV []) (ne_of_can hcan) (by have := truths_len hV []; omega) (by omega) hV.secs.2 (by have := hV.turns; omega) (by omega)
  have hr := thickA_ok b s d (.spot (openF b [])) (truthsF b []) (thickF b (truthsF b []) b.turns s d)
  rw [his'.2] at hr h2
  exact contract_of_path (G 33) thickA_fn hr ⟨h1, his'.1, his'.1, his'.1, h2, his'.1, ha, ht, by omega, trivial⟩

/-! ### How much a place wears -/
def wearAt (p : Int) (x : TrC) : Span := ⟨[x.w0, x.w1, x.w2, x.w3].getD p.toNat 0, [x.w0, x.w1, x.w2, x.w3].getD p.toNat 0⟩
theorem wear1_con (x : TrC) (p : Int) (hp : 0 ≤ p ∧ p < 4) : Contract PR glob 126 ([] ++ [trD x] ++ [[.int .i64 p]].map fun cs => .ref cs 0) (spD (wearAt p x)) := by
 have h := wear1_all x p
 obtain ⟨k, hk, h4⟩ : ∃ k : Nat, p.toNat = k ∧ k < 4 := ⟨p.toNat, rfl, by omega⟩
 have hr : (D.agg [D.int .i64 (List.getD [TrC.w0 x, TrC.w1 x, TrC.w2 x, TrC.w3 x, Span.lo (TrC.f0 x), Span.hi (TrC.f0 x), Span.lo (TrC.f1 x), Span.hi (TrC.f1 x), Span.lo (TrC.f2 x), Span.hi (TrC.f2 x), Span.lo (TrC.f3 x), Span.hi (TrC.f3 x)] (0 + 0 + Int.toNat p * 1) (0 : Int)), D.int .i64 (List.getD [TrC.w0 x, TrC.w1 x, TrC.w2 x, TrC.w3 x, Span.lo (TrC.f0 x), Span.hi (TrC.f0 x), Span.lo (TrC.f1 x), Span.hi (TrC.f1 x), Span.lo (TrC.f2 x), Span.hi (TrC.f2 x), Span.lo (TrC.f3 x), Span.hi (TrC.f3 x)] (0 + 0 + Int.toNat p * 1) (0 : Int))]) = spD (wearAt p x) := by
  unfold wearAt
  rw [hk]
  match k, h4 with
  | 0, _ => rfl
  | 1, _ => rfl
  | 2, _ => rfl
  | 3, _ => rfl
 rw [hr] at h
 exact contract_of_path (G 13) wear1_fn h ⟨by omega, by omega, by omega, by omega, by omega, by omega, by omega, trivial⟩
theorem wearA_con {b : Book} (hs : Small b) (p : Int) : Contract PR glob 42 [bookD b, .int .i64 p] (.tup [spD (spanOr (errF b (isSectionF b p)) (toldF (wearAt p) (truthsF b []))), .int .i64 (errF b (isSectionF b p))]) := by
 have h1 := isSection_con b p hs.secs
 have hc := err_cases hs (isSectionF b p)
 generalize he : errF b (isSectionF b p) = e at hc
 rcases hc with ⟨hne, h12, h3⟩ | ⟨h0, hV, his, hcan⟩
 ·rw [show spanOr e (toldF (wearAt p) (truthsF b [])) = ⟨0, 0⟩ from if_neg hne]
  by_cases e12 : e = 12
  ·obtain ⟨hV, his, hcan⟩ := h12 e12
   have ha := asked_false_con hs hV hcan
   subst e12
   have hr := wearA_false b p (.spot (openF b []))
   rw [his] at hr h1
   exact contract_of_path (G 23) wearA_fn hr ⟨by omega, h1, ha, by omega, trivial⟩
  ·exact contract_of_path (G 23) wearA_fn (wearA_err b p e) ⟨by omega, h1, h3 e12, by simpa using hne, by omega, trivial⟩
 ·subst h0
  rw [show spanOr 0 (toldF (wearAt p) (truthsF b [])) = toldF (wearAt p) (truthsF b []) from if_pos rfl]
  have hsec := within_iff.1 his
  have hl := hV.secs
  have ha := asked_ok_con hs hV hcan
  have ht := told_con b (.spot (openF b [])) (truthsF b []) 126 [] [[.int .i64 p]] (wearAt p) (fun x _ => wear1_con x p (by omega)) (ne_of_can hcan) (by have := truths_len hV []; omega)
  have hr := wearA_ok b p (.spot (openF b [])) (truthsF b []) (toldF (wearAt p) (truthsF b []))
  rw [his] at hr h1
  refine contract_of_path (G 23) wearA_fn hr ?_
  repeat (first | exact trivial | refine ⟨by first | exact h1 | exact ha | exact ht | omega, ?_⟩)

/-! ### The first day -/
/-- A day, or none. -/
def dayOr (b : Book) (e k : Int) : Int × Int := if e = 0 then (if k > b.days then (0, 4) else (k, 0)) else (0, e)
theorem day0_con {b : Book} (hs : Small b) (s : Int) : Contract PR glob 127 [bookD b, .int .i64 s, .int .i64 0] (.tup [.int .i64 (dayOr b (errF b (isSectionF b s)) (thinF b (truthsF b []) b.turns s)).1, .int .i64 (dayOr b (errF b (isSectionF b s)) (thinF b (truthsF b []) b.turns s)).2]) := by
 have h1 := isSection_con b s hs.secs
 have hc := err_cases hs (isSectionF b s)
 generalize he : errF b (isSectionF b s) = e at hc
 rcases hc with ⟨hne, h12, h3⟩ | ⟨h0, hV, his, hcan⟩
 ·rw [show dayOr b e (thinF b (truthsF b []) b.turns s) = (0, e) from if_neg hne]
  by_cases e12 : e = 12
  ·obtain ⟨hV, his, hcan⟩ := h12 e12
   have ha := asked_false_con hs hV hcan
   subst e12
   have hr := day0_false b s (.spot (openF b []))
   rw [his] at hr h1
   exact contract_of_path (G 33) day0_fn hr ⟨h1, ha, trivial⟩
  ·exact contract_of_path (G 33) day0_fn (day0_err b s e) ⟨h1, h3 e12, by simpa using hne, trivial⟩
 ·subst h0
  have hsec := within_iff.1 his
  have hl := hV.secs
  have hdd := hV.days
  have ha := asked_ok_con hs hV hcan
  have ht := first0_con b (.spot (openF b [])) (truthsF b []) s b.turns (truths_ok hV []) (ne_of_can hcan) (by have := truths_len hV []; omega) (by omega) hV.secs.2 (by have := hV.turns; omega) (by omega)
  generalize hk : thinF b (truthsF b []) b.turns s = k at ht
  unfold dayOr
  rw [if_pos rfl]
  by_cases hgt : k > b.days
  ·rw [if_pos hgt]
   have hr := day0_none b s (.spot (openF b [])) (truthsF b []) k
   rw [his] at hr h1
   exact contract_of_path (G 33) day0_fn hr ⟨h1, ha, ht, decide_eq_true hgt, trivial⟩
  ·rw [if_neg hgt]
   have hr := day0_ok b s (.spot (openF b [])) (truthsF b []) k
   rw [his] at hr h1
   exact contract_of_path (G 33) day0_fn hr ⟨h1, ha, ht, decide_eq_false hgt, trivial⟩
theorem day1_con {b : Book} (hs : Small b) (s : Int) : Contract PR glob 127 [bookD b, .int .i64 s, (.int .i64 1 : D)] (.tup [.int .i64 (dayOr b (errF b (isSectionF b s)) (goneF b (truthsF b []) b.turns s)).1, .int .i64 (dayOr b (errF b (isSectionF b s)) (goneF b (truthsF b []) b.turns s)).2]) := by
 have h1 := isSection_con b s hs.secs
 have hc := err_cases hs (isSectionF b s)
 generalize he : errF b (isSectionF b s) = e at hc
 rcases hc with ⟨hne, h12, h3⟩ | ⟨h0, hV, his, hcan⟩
 ·rw [show dayOr b e (goneF b (truthsF b []) b.turns s) = (0, e) from if_neg hne]
  by_cases e12 : e = 12
  ·obtain ⟨hV, his, hcan⟩ := h12 e12
   have ha := asked_false_con hs hV hcan
   subst e12
   have hr := day1_false b s (.spot (openF b []))
   rw [his] at hr h1
   exact contract_of_path (G 33) day1_fn hr ⟨h1, ha, trivial⟩
  ·exact contract_of_path (G 33) day1_fn (day1_err b s e) ⟨h1, h3 e12, by simpa using hne, trivial⟩
 ·subst h0
  have hsec := within_iff.1 his
  have hl := hV.secs
  have hdd := hV.days
  have ha := asked_ok_con hs hV hcan
  have ht := first1_con b (.spot (openF b [])) (truthsF b []) s b.turns (truths_ok hV []) (ne_of_can hcan) (by have := truths_len hV []; omega) (by omega) hV.secs.2 (by have := hV.turns; omega) (by omega)
  generalize hk : goneF b (truthsF b []) b.turns s = k at ht
  unfold dayOr
  rw [if_pos rfl]
  by_cases hgt : k > b.days
  ·rw [if_pos hgt]
   have hr := day1_none b s (.spot (openF b [])) (truthsF b []) k
   rw [his] at hr h1
   exact contract_of_path (G 33) day1_fn hr ⟨h1, ha, ht, decide_eq_true hgt, trivial⟩
  ·rw [if_neg hgt]
   have hr := day1_ok b s (.spot (openF b [])) (truthsF b []) k
   rw [his] at hr h1
   exact contract_of_path (G 33) day1_fn hr ⟨h1, ha, ht, decide_eq_false hgt, trivial⟩
def thinAF (b : Book) (s : Int) : Int × Int := dayOr b (errF b (isSectionF b s)) (thinF b (truthsF b []) b.turns s)
def goneAF (b : Book) (s : Int) : Int × Int := dayOr b (errF b (isSectionF b s)) (goneF b (truthsF b []) b.turns s)
theorem thinA_con {b : Book} (hs : Small b) (s : Int) : Contract PR glob 43 [bookD b, .int .i64 s] (.tup [.int .i64 (thinAF b s).1, .int .i64 (thinAF b s).2]) :=
 contract_of_path (G 11) thinA_fn (thinA_all b s _ _) ⟨day0_con hs s, trivial⟩
theorem goneA_con {b : Book} (hs : Small b) (s : Int) : Contract PR glob 44 [bookD b, .int .i64 s] (.tup [.int .i64 (goneAF b s).1, .int .i64 (goneAF b s).2]) :=
 contract_of_path (G 11) goneA_fn (goneA_all b s _ _) ⟨day1_con hs s, trivial⟩

/-! ### Does a survey fit? -/
def more (b : Book) (x : Sv) : Book := ⟨b.secs, b.turns, b.svs ++ [x], b.rule, b.days⟩
def fitsAF (b : Book) (x : Sv) : Bool × Int := if errF b (isSurveyF b x) = 0 then (!(truthsF (more b x) []).isEmpty, 0) else (false, errF b (isSurveyF b x))
/-- A book with one survey more: its truths can be told, though it may be one too many. -/
theorem more_opened {b : Book} (h : Valid b) {x : Sv} (hx : isSurveyF b x = true) : Contract PR glob 119 [bookD (more b x), .sl false .int []] (bkD (more b x) (.spot (openF (more b x) [])) (truthsF (more b x) [])) := by
 have hb := h.book
 have hsl := h.svs
 have hdd := h.days
 have hB : BookOk (more b x) := by
  refine ⟨hb.secs, hb.turns, by simp [more]; omega, fun y hy => ?_, hb.wear⟩
  rcases List.mem_append.1 hy with hy | hy
  ·exact hb.sv y hy
  ·simp only [List.mem_singleton] at hy
   subst hy
   obtain ⟨h1, h2, h3, h4⟩ := survey_iff.1 hx
   exact ⟨by omega, by omega, by omega⟩
 refine opened_con (more b x) hB [] (by simp) ?_
 have hl := wholeGo_len (b := more b x) h.sec (openF (more b x) []) b.secs.length 0 ⟨0, 0, 0, 0⟩ (by simp [more])
 have h4 : (4 : Nat) ^ b.secs.length ≤ 4 ^ 4 := Nat.pow_le_pow_right (by decide) h.secs.2
 have : (truthsF (more b x) []).length ≤ 4 ^ b.secs.length := hl
 omega
theorem len_pos' {l : List TrC} : decide ((l.length : Int) > 0) = !l.isEmpty := by
 cases l with
 | nil => rfl
 | cons x l => simp
theorem fitsA_con {b : Book} (hs : Small b) (x : Sv) : Contract PR glob 47 [bookD b, svD x] (.tup [.bool (fitsAF b x).1, .int .i64 (fitsAF b x).2]) := by
 have h1 := isSurvey_con b x hs.secs
 have hc := err_cases hs (isSurveyF b x)
 unfold fitsAF
 generalize he : errF b (isSurveyF b x) = e at hc
 rcases hc with ⟨hne, h12, h3⟩ | ⟨h0, hV, his, hcan⟩
 ·rw [if_neg hne]
  by_cases e12 : e = 12
  ·obtain ⟨hV, his, hcan⟩ := h12 e12
   have ha := asked_false_con hs hV hcan
   subst e12
   have hr := fitsA_false b x (.spot (openF b []))
   rw [his] at hr h1
   exact contract_of_path (G 39) fitsA_fn hr ⟨by omega, h1, ha, trivial⟩
  ·exact contract_of_path (G 39) fitsA_fn (fitsA_err b x e) ⟨by omega, h1, h3 e12, by simpa using hne, trivial⟩
 ·subst h0
  rw [if_pos rfl]
  have hl := hV.svs
  have ha := asked_ok_con hs hV hcan
  have ho := more_opened hV his
  have hr := fitsA_ok b x (.spot (openF b [])) (truthsF b []) (.spot (openF (more b x) [])) (truthsF (more b x) [])
  rw [len_pos', his] at hr
  rw [his] at h1
  have htake : List.drop (Int.toNat (0 : Int)) (List.take (Int.toNat (b.svs.length : Int)) b.svs) = b.svs := by simp
  refine contract_of_path (G 39) fitsA_fn hr ⟨by omega, h1, ha, ⟨by omega, by omega, by omega, rfl⟩, by omega, ?_, rfl, rfl, ?_, trivial⟩
  ·show (List.drop (Int.toNat (0 : Int)) (List.take (Int.toNat (b.svs.length : Int)) b.svs) ++ [x]).length * 33 ≤ 140737488355328
   rw [htake]
   simp
   omega
  ·show Contract _ _ _ [.agg [.sl false .sec b.secs, .sl false .int b.turns, .sl false .sv (List.drop (Int.toNat (0 : Int)) (List.take (Int.toNat (b.svs.length : Int)) b.svs) ++ [x]), .int .i64 b.rule, .int .i64 b.days], .sl false .int []] _
   rw [htake]
   exact ho
end Go.Di

namespace Go.Di
theorem cutA_fn : FnOk PR (mk PR (lookN types) glob 49) 40 (body Proofs.Tryd.f40) [.tmp 4, .tmp 5] := ⟨Proofs.Tryd.f40, by kernel_rfl, by kernel_rfl, by kernel_rfl, by kernel_rfl, by kernel_rfl⟩
theorem turnA_fn : FnOk PR (mk PR (lookN types) glob 70) 54 (body Proofs.Tryd.f54) [.tmp 2, .tmp 3] := ⟨Proofs.Tryd.f54, by kernel_rfl, by kernel_rfl, by kernel_rfl, by kernel_rfl, by kernel_rfl⟩
def cutB_S0 (b : Book) (d : Int) (m : Mp) (ts : List TrC) (i : Nat) (y : Int) (r : List Int) : List (Key × Val) :=
 [(.tmp 1, .d (D.int .i64 d)),
  (.tmp 2, .d (D.ptr 2 0)),
  (.tmp 6, .d (D.ptr 6 0)),
  (.tmp 8, .d (.own 41 (y :: r).length)),
  (.tmp 23, .d (D.int .i64 ((Nat.cast : Nat → Int) (List.length (Book.secs b))))),
  (.tmp 24, .d (.int .i64 i)),
  (.box 2, .bx (some (Box.mk false (cellsOf (bookD b))))),
  (.box 6, .bx (some (Box.mk false (cellsOf (bkD b m ts))))),
  (.obj 41, .ob (some ⟨.int, y :: r⟩))]
def cutB_K0 : List Key := [.tmp 1, .tmp 2, .tmp 6, .tmp 8, .tmp 23, .tmp 24, .box 2, .box 6, .obj 41]
def cutA_S0 (b : Book) (d : Int) (m : Mp) (ts : List TrC) (i : Nat) : List (Key × Val) :=
 [(.tmp 1, .d (D.int .i64 d)),
  (.tmp 2, .d (D.ptr 2 0)),
  (.tmp 6, .d (D.ptr 6 0)),
  (.tmp 8, .d (D.sl true E.int [])),
  (.tmp 23, .d (D.int .i64 ((Nat.cast : Nat → Int) (List.length (Book.secs b))))),
  (.tmp 24, .d (.int .i64 i)),
  (.box 2, .bx (some (Box.mk false (cellsOf (bookD b))))),
  (.box 6, .bx (some (Box.mk false (cellsOf (bkD b m ts))))),
  (.obj 41, .ob none)]
def cutA_K0 : List Key := [.tmp 1, .tmp 2, .tmp 6, .tmp 8, .tmp 23, .tmp 24, .box 2, .box 6, .obj 41]
def turnA_S0 (b : Book) (m : Mp) (ts : List TrC) (i : Nat) (n : Int) : List (Key × Val) :=
 [(.tmp 1, .d (D.ptr 1 0)),
  (.tmp 4, .d (D.ptr 4 0)),
  (.tmp 6, .d (.int .i64 n)),
  (.tmp 22, .d (D.sl false E.sv (Book.svs b))),
  (.tmp 23, .d (D.int .i64 ((Nat.cast : Nat → Int) (List.length (Book.svs b))))),
  (.tmp 24, .d (.int .i64 i)),
  (.box 1, .bx (some (Box.mk false (cellsOf (bookD b))))),
  (.box 4, .bx (some (Box.mk false (cellsOf (bkD b m ts)))))]
def turnA_K0 : List Key := [.tmp 1, .tmp 4, .tmp 6, .tmp 22, .tmp 23, .tmp 24, .box 1, .box 4]
def turnA_S2 (b : Book) (m : Mp) (ts : List TrC) (n d best late k0 : Int) (i : Nat) : List (Key × Val) :=
 [(.tmp 1, .d (D.ptr 1 0)),
  (.tmp 4, .d (D.ptr 4 0)),
  (.tmp 9, .d (.int .i64 best)),
  (.tmp 10, .d (.int .i64 late)),
  (.tmp 11, .d (.int .i64 d)),
  (.box 1, .bx (some (Box.mk false (cellsOf (bookD b))))),
  (.box 4, .bx (some (Box.mk false (cellsOf (bkD b m ts)))))]
def turnA_K2 : List Key := [.tmp 1, .tmp 4, .tmp 9, .tmp 10, .tmp 11, .box 1, .box 4]
theorem cutB_0_no (b : Book) (d : Int) (m : Mp) (ts : List TrC) (i : Nat) (y : Int) (r : List Int) (o : Span) (t : Bool) :
  runK (mk PR (lookN types) glob 49) [(25, true), (37, false)] [(34, spD o), (37, .bool t)] [] (Code.at [1, 1, 1, 1, 0, 1, 0, 0] (body Proofs.Tryd.f40)) (cutB_S0 b d m ts i y r) cutB_K0 =
   some ([decide ((i : Int) < (Nat.cast : Nat → Int) (List.length (Book.secs b))) = true, (0 : Int) ≤ (0 : Int) ∧ (0 : Int) < (Nat.cast : Nat → Int) 2, Contract PR glob 123 [bkD b m ts, D.int .i64 ((i : Int)), D.int .i64 d, D.sl false E.int (Book.turns b)] (D.agg [D.int .i64 (Span.lo o), D.int .i64 (Span.hi o)]), Contract PR glob 223 [D.agg [D.int .i64 (Span.lo o), D.int .i64 (Span.hi o)], D.int .i64 (Book.rule b)] (D.bool t), t = false, inI64 ((i : Int) + (1 : Int))], Ex.normal, [(.tmp 1, .d (D.int .i64 d)), (.tmp 2, .d (D.ptr 2 0)), (.tmp 6, .d (D.ptr 6 0)), (.tmp 8, .d (D.own 41 (List.length (y :: r)))), (.tmp 23, .d (D.int .i64 ((Nat.cast : Nat → Int) (List.length (Book.secs b))))), (.tmp 24, .d (D.int .i64 ((i : Int) + (1 : Int)))), (.box 2, .bx (some (Box.mk false (cellsOf (bookD b))))), (.box 6, .bx (some (Box.mk false (cellsOf (bkD b m ts))))), (.obj 41, .ob (some (Ob.mk E.int (y :: r))))]) := by kernel_rfl
theorem cutB_0_yes (b : Book) (d : Int) (m : Mp) (ts : List TrC) (i : Nat) (y : Int) (r : List Int) (o : Span) (t : Bool) :
  runK (mk PR (lookN types) glob 49) [(25, true), (37, true)] [(34, spD o), (37, .bool t)] [] (Code.at [1, 1, 1, 1, 0, 1, 0, 0] (body Proofs.Tryd.f40)) (cutB_S0 b d m ts i y r) cutB_K0 =
   some ([decide ((i : Int) < (Nat.cast : Nat → Int) (List.length (Book.secs b))) = true, (0 : Int) ≤ (0 : Int) ∧ (0 : Int) < (Nat.cast : Nat → Int) 2, Contract PR glob 123 [bkD b m ts, D.int .i64 ((i : Int)), D.int .i64 d, D.sl false E.int (Book.turns b)] (D.agg [D.int .i64 (Span.lo o), D.int .i64 (Span.hi o)]), Contract PR glob 223 [D.agg [D.int .i64 (Span.lo o), D.int .i64 (Span.hi o)], D.int .i64 (Book.rule b)] (D.bool t), t = true, List.length (y :: r) = List.length ((y :: r)), List.length ((y :: r) ++ [(i : Int)]) * (8 + 1) ≤ 140737488355328, inI64 ((i : Int) + (1 : Int))], Ex.normal, [(.tmp 1, .d (D.int .i64 d)), (.tmp 2, .d (D.ptr 2 0)), (.tmp 6, .d (D.ptr 6 0)), (.tmp 8, .d (D.own 41 (List.length ((y :: r) ++ [(i : Int)])))), (.tmp 23, .d (D.int .i64 ((Nat.cast : Nat → Int) (List.length (Book.secs b))))), (.tmp 24, .d (D.int .i64 ((i : Int) + (1 : Int)))), (.box 2, .bx (some (Box.mk false (cellsOf (bookD b))))), (.box 6, .bx (some (Box.mk false (cellsOf (bkD b m ts))))), (.obj 41, .ob (some (Ob.mk E.int ((y :: r) ++ [(i : Int)]))))]) := by kernel_rfl
theorem cutB_0_end (b : Book) (d : Int) (m : Mp) (ts : List TrC) (i : Nat) (y : Int) (r : List Int) :
  runK (mk PR (lookN types) glob 49) [(25, false)] [] [] (Code.at [1, 1, 1, 1, 0, 1, 0, 0] (body Proofs.Tryd.f40)) (cutB_S0 b d m ts i y r) cutB_K0 =
   some ([decide ((i : Int) < (Nat.cast : Nat → Int) (List.length (Book.secs b))) = false], Ex.exit 0, [(.tmp 1, .d (D.int .i64 d)), (.tmp 2, .d (D.ptr 2 0)), (.tmp 6, .d (D.ptr 6 0)), (.tmp 8, .d (D.own 41 (List.length (y :: r)))), (.tmp 23, .d (D.int .i64 ((Nat.cast : Nat → Int) (List.length (Book.secs b))))), (.tmp 24, .d (D.int .i64 ((i : Int)))), (.box 2, .bx (some (Box.mk false (cellsOf (bookD b))))), (.box 6, .bx (some (Box.mk false (cellsOf (bkD b m ts))))), (.obj 41, .ob (some (Ob.mk E.int (y :: r))))]) := by kernel_rfl
theorem cutA_0_no (b : Book) (d : Int) (m : Mp) (ts : List TrC) (i : Nat) (o : Span) (t : Bool) :
  runK (mk PR (lookN types) glob 49) [(25, true), (37, false)] [(34, spD o), (37, .bool t)] [] (Code.at [1, 1, 1, 1, 0, 1, 0, 0] (body Proofs.Tryd.f40)) (cutA_S0 b d m ts i) cutA_K0 =
   some ([decide ((i : Int) < (Nat.cast : Nat → Int) (List.length (Book.secs b))) = true, (0 : Int) ≤ (0 : Int) ∧ (0 : Int) < (Nat.cast : Nat → Int) 2, Contract PR glob 123 [bkD b m ts, D.int .i64 ((i : Int)), D.int .i64 d, D.sl false E.int (Book.turns b)] (D.agg [D.int .i64 (Span.lo o), D.int .i64 (Span.hi o)]), Contract PR glob 223 [D.agg [D.int .i64 (Span.lo o), D.int .i64 (Span.hi o)], D.int .i64 (Book.rule b)] (D.bool t), t = false, inI64 ((i : Int) + (1 : Int))], Ex.normal, [(.tmp 1, .d (D.int .i64 d)), (.tmp 2, .d (D.ptr 2 0)), (.tmp 6, .d (D.ptr 6 0)), (.tmp 8, .d (D.sl true E.int [])), (.tmp 23, .d (D.int .i64 ((Nat.cast : Nat → Int) (List.length (Book.secs b))))), (.tmp 24, .d (D.int .i64 ((i : Int) + (1 : Int)))), (.box 2, .bx (some (Box.mk false (cellsOf (bookD b))))), (.box 6, .bx (some (Box.mk false (cellsOf (bkD b m ts))))), (.obj 41, .ob Option.none)]) := by kernel_rfl
theorem cutA_0_yes (b : Book) (d : Int) (m : Mp) (ts : List TrC) (i : Nat) (o : Span) (t : Bool) :
  runK (mk PR (lookN types) glob 49) [(25, true), (37, true)] [(34, spD o), (37, .bool t)] [] (Code.at [1, 1, 1, 1, 0, 1, 0, 0] (body Proofs.Tryd.f40)) (cutA_S0 b d m ts i) cutB_K0 =
   some ([decide ((i : Int) < (Nat.cast : Nat → Int) (List.length (Book.secs b))) = true, (0 : Int) ≤ (0 : Int) ∧ (0 : Int) < (Nat.cast : Nat → Int) 2, Contract PR glob 123 [bkD b m ts, D.int .i64 ((i : Int)), D.int .i64 d, D.sl false E.int (Book.turns b)] (D.agg [D.int .i64 (Span.lo o), D.int .i64 (Span.hi o)]), Contract PR glob 223 [D.agg [D.int .i64 (Span.lo o), D.int .i64 (Span.hi o)], D.int .i64 (Book.rule b)] (D.bool t), t = true, 1 * (8 + 1) ≤ 140737488355328, inI64 ((i : Int) + (1 : Int))], Ex.normal, [(.tmp 1, .d (D.int .i64 d)), (.tmp 2, .d (D.ptr 2 0)), (.tmp 6, .d (D.ptr 6 0)), (.tmp 8, .d (D.own 41 1)), (.tmp 23, .d (D.int .i64 ((Nat.cast : Nat → Int) (List.length (Book.secs b))))), (.tmp 24, .d (D.int .i64 ((i : Int) + (1 : Int)))), (.box 2, .bx (some (Box.mk false (cellsOf (bookD b))))), (.box 6, .bx (some (Box.mk false (cellsOf (bkD b m ts))))), (.obj 41, .ob (some (Ob.mk E.int ([] ++ [(i : Int)]))))]) := by kernel_rfl
theorem cutA_0_end (b : Book) (d : Int) (m : Mp) (ts : List TrC) (i : Nat) :
  runK (mk PR (lookN types) glob 49) [(25, false)] [] [] (Code.at [1, 1, 1, 1, 0, 1, 0, 0] (body Proofs.Tryd.f40)) (cutA_S0 b d m ts i) cutA_K0 =
   some ([decide ((i : Int) < (Nat.cast : Nat → Int) (List.length (Book.secs b))) = false], Ex.exit 0, [(.tmp 1, .d (D.int .i64 d)), (.tmp 2, .d (D.ptr 2 0)), (.tmp 6, .d (D.ptr 6 0)), (.tmp 8, .d (D.sl true E.int [])), (.tmp 23, .d (D.int .i64 ((Nat.cast : Nat → Int) (List.length (Book.secs b))))), (.tmp 24, .d (D.int .i64 ((i : Int)))), (.box 2, .bx (some (Box.mk false (cellsOf (bookD b))))), (.box 6, .bx (some (Box.mk false (cellsOf (bkD b m ts))))), (.obj 41, .ob Option.none)]) := by kernel_rfl
theorem turnA_0_on (b : Book) (m : Mp) (ts : List TrC) (i : Nat) (n : Int) :
  runK (mk PR (lookN types) glob 70) [(25, true)] [] [] (Code.at [1, 1, 1, 1, 0, 1, 0, 0] (body Proofs.Tryd.f54)) (turnA_S0 b m ts i n) turnA_K0 =
   some ([decide ((i : Int) < (Nat.cast : Nat → Int) (List.length (Book.svs b))) = true, (0 : Int) ≤ (i : Int) ∧ (i : Int) < (Nat.cast : Nat → Int) (List.length (Book.svs b)), 0 + 4 ≤ 4, 0 + 1 + 1 ≤ 4, inI64 ((i : Int) + (1 : Int))], Ex.normal, [(.tmp 1, .d (D.ptr 1 0)), (.tmp 4, .d (D.ptr 4 0)), (.tmp 6, .d (D.int .i64 (List.foldl mx n [Sv.d (List.getD (Book.svs b) (Int.toNat ((i : Int))) (E.z E.sv))]))), (.tmp 22, .d (D.sl false E.sv (Book.svs b))), (.tmp 23, .d (D.int .i64 ((Nat.cast : Nat → Int) (List.length (Book.svs b))))), (.tmp 24, .d (D.int .i64 ((i : Int) + (1 : Int)))), (.box 1, .bx (some (Box.mk false (cellsOf (bookD b))))), (.box 4, .bx (some (Box.mk false (cellsOf (bkD b m ts)))))]) := by kernel_rfl
theorem turnA_0_end (b : Book) (m : Mp) (ts : List TrC) (i : Nat) (n : Int) :
  runK (mk PR (lookN types) glob 70) [(25, false)] [] [] (Code.at [1, 1, 1, 1, 0, 1, 0, 0] (body Proofs.Tryd.f54)) (turnA_S0 b m ts i n) turnA_K0 =
   some ([decide ((i : Int) < (Nat.cast : Nat → Int) (List.length (Book.svs b))) = false], Ex.exit 0, [(.tmp 1, .d (D.ptr 1 0)), (.tmp 4, .d (D.ptr 4 0)), (.tmp 6, .d (D.int .i64 n)), (.tmp 22, .d (D.sl false E.sv (Book.svs b))), (.tmp 23, .d (D.int .i64 ((Nat.cast : Nat → Int) (List.length (Book.svs b))))), (.tmp 24, .d (D.int .i64 ((i : Int)))), (.box 1, .bx (some (Box.mk false (cellsOf (bookD b))))), (.box 4, .bx (some (Box.mk false (cellsOf (bkD b m ts)))))]) := by kernel_rfl
theorem turnA_2_has (b : Book) (m : Mp) (ts : List TrC) (n d best late k0 : Int) (i : Nat) (t : Bool) :
  runK (mk PR (lookN types) glob 70) [(41, true), (47, true)] [(47, .bool t)] [] (Code.at [1, 1, 1, 1, 1, 1, 0, 1, 0, 0] (body Proofs.Tryd.f54)) (turnA_S2 b m ts n d best late k0 i) turnA_K2 =
   some ([decide (d ≤ Book.days b) = true, Contract PR glob 130 [D.sl false E.int (Book.turns b), D.int .i64 d] (D.bool t), t = true, inI64 (d + (1 : Int))], Ex.normal, [(.tmp 1, .d (D.ptr 1 0)), (.tmp 4, .d (D.ptr 4 0)), (.tmp 9, .d (D.int .i64 best)), (.tmp 10, .d (D.int .i64 late)), (.tmp 11, .d (D.int .i64 (d + (1 : Int)))), (.box 1, .bx (some (Box.mk false (cellsOf (bookD b))))), (.box 4, .bx (some (Box.mk false (cellsOf (bkD b m ts)))))]) := by kernel_rfl
theorem turnA_2_no (b : Book) (m : Mp) (ts : List TrC) (n d best late k0 : Int) (i : Nat) (t : Bool) (k : Int) :
  runK (mk PR (lookN types) glob 70) [(41, true), (47, false), (64, false)] [(47, .bool t), (61, .int .i64 k)] [] (Code.at [1, 1, 1, 1, 1, 1, 0, 1, 0, 0] (body Proofs.Tryd.f54)) (turnA_S2 b m ts n d best late k0 i) turnA_K2 =
   some ([decide (d ≤ Book.days b) = true, Contract PR glob 130 [D.sl false E.int (Book.turns b), D.int .i64 d] (D.bool t), t = false, (0 : Int) ≤ (0 : Int) ∧ (0 : Int) ≤ (Nat.cast : Nat → Int) (List.length (Book.turns b)) ∧ (Nat.cast : Nat → Int) (List.length (Book.turns b)) ≤ (Nat.cast : Nat → Int) (List.length (Book.turns b)) ∧ (Nat.cast : Nat → Int) (List.length (Book.turns b)) = (Nat.cast : Nat → Int) (List.length (Book.turns b)), List.length (List.drop (Int.toNat (0 : Int)) (List.take (Int.toNat ((Nat.cast : Nat → Int) (List.length (Book.turns b)))) (Book.turns b)) ++ [d]) * (8 + 1) ≤ 140737488355328, List.length (List.drop (Int.toNat (0 : Int)) (List.take (Int.toNat ((Nat.cast : Nat → Int) (List.length (Book.turns b)))) (Book.turns b)) ++ [d]) = List.length ((List.drop (Int.toNat (0 : Int)) (List.take (Int.toNat ((Nat.cast : Nat → Int) (List.length (Book.turns b)))) (Book.turns b)) ++ [d])), Contract PR glob 129 [bkD b m ts, D.sl false E.int ((List.drop (Int.toNat (0 : Int)) (List.take (Int.toNat ((Nat.cast : Nat → Int) (List.length (Book.turns b)))) (Book.turns b)) ++ [d]))] (D.int .i64 k), decide (k > late) = false, inI64 (d + (1 : Int))], Ex.normal, [(.tmp 1, .d (D.ptr 1 0)), (.tmp 4, .d (D.ptr 4 0)), (.tmp 9, .d (D.int .i64 best)), (.tmp 10, .d (D.int .i64 late)), (.tmp 11, .d (D.int .i64 (d + (1 : Int)))), (.box 1, .bx (some (Box.mk false (cellsOf (bookD b))))), (.box 4, .bx (some (Box.mk false (cellsOf (bkD b m ts)))))]) := by kernel_rfl
theorem turnA_2_yes (b : Book) (m : Mp) (ts : List TrC) (n d best late k0 : Int) (i : Nat) (t : Bool) (k : Int) :
  runK (mk PR (lookN types) glob 70) [(41, true), (47, false), (64, true)] [(47, .bool t), (61, .int .i64 k)] [] (Code.at [1, 1, 1, 1, 1, 1, 0, 1, 0, 0] (body Proofs.Tryd.f54)) (turnA_S2 b m ts n d best late k0 i) turnA_K2 =
   some ([decide (d ≤ Book.days b) = true, Contract PR glob 130 [D.sl false E.int (Book.turns b), D.int .i64 d] (D.bool t), t = false, (0 : Int) ≤ (0 : Int) ∧ (0 : Int) ≤ (Nat.cast : Nat → Int) (List.length (Book.turns b)) ∧ (Nat.cast : Nat → Int) (List.length (Book.turns b)) ≤ (Nat.cast : Nat → Int) (List.length (Book.turns b)) ∧ (Nat.cast : Nat → Int) (List.length (Book.turns b)) = (Nat.cast : Nat → Int) (List.length (Book.turns b)), List.length (List.drop (Int.toNat (0 : Int)) (List.take (Int.toNat ((Nat.cast : Nat → Int) (List.length (Book.turns b)))) (Book.turns b)) ++ [d]) * (8 + 1) ≤ 140737488355328, List.length (List.drop (Int.toNat (0 : Int)) (List.take (Int.toNat ((Nat.cast : Nat → Int) (List.length (Book.turns b)))) (Book.turns b)) ++ [d]) = List.length ((List.drop (Int.toNat (0 : Int)) (List.take (Int.toNat ((Nat.cast : Nat → Int) (List.length (Book.turns b)))) (Book.turns b)) ++ [d])), Contract PR glob 129 [bkD b m ts, D.sl false E.int ((List.drop (Int.toNat (0 : Int)) (List.take (Int.toNat ((Nat.cast : Nat → Int) (List.length (Book.turns b)))) (Book.turns b)) ++ [d]))] (D.int .i64 k), decide (k > late) = true, inI64 (d + (1 : Int))], Ex.normal, [(.tmp 1, .d (D.ptr 1 0)), (.tmp 4, .d (D.ptr 4 0)), (.tmp 9, .d (D.int .i64 d)), (.tmp 10, .d (D.int .i64 k)), (.tmp 11, .d (D.int .i64 (d + (1 : Int)))), (.box 1, .bx (some (Box.mk false (cellsOf (bookD b))))), (.box 4, .bx (some (Box.mk false (cellsOf (bkD b m ts)))))]) := by kernel_rfl
theorem turnA_2_end (b : Book) (m : Mp) (ts : List TrC) (n d best late k0 : Int) (i : Nat) :
  runK (mk PR (lookN types) glob 70) [(41, false)] [] [] (Code.at [1, 1, 1, 1, 1, 1, 0, 1, 0, 0] (body Proofs.Tryd.f54)) (turnA_S2 b m ts n d best late k0 i) turnA_K2 =
   some ([decide (d ≤ Book.days b) = false], Ex.exit 2, [(.tmp 1, .d (D.ptr 1 0)), (.tmp 4, .d (D.ptr 4 0)), (.tmp 9, .d (D.int .i64 best)), (.tmp 10, .d (D.int .i64 late)), (.tmp 11, .d (D.int .i64 d)), (.box 1, .bx (some (Box.mk false (cellsOf (bookD b))))), (.box 4, .bx (some (Box.mk false (cellsOf (bkD b m ts)))))]) := by kernel_rfl
theorem cutA_err (b : Book) (d : Int) (e : Int) :
  callF (mk PR (lookN types) glob 49) [(19, true)] [(14, .bool (isDayF b d)), (15, .tup [zbookD, .int .i64 e])] [] (body Proofs.Tryd.f40) [.tmp 4, .tmp 5] [bookD b, .int .i64 d] =
   some ([Contract PR glob 122 [bookD b, D.int .i64 d] (D.bool (isDayF b d)), Contract PR glob 121 [bookD b, D.bool (isDayF b d)] (D.tup [D.agg [D.nil, D.nil, D.nil, D.int .i64 (0 : Int), D.int .i64 (0 : Int), D.nilmap, D.nil], D.int .i64 e]), (e != (0 : Int)) = true], D.tup [D.sl true E.int [], D.int .i64 e]) := by kernel_rfl
theorem cutA_false (b : Book) (d : Int) (m : Mp) :
  callF (mk PR (lookN types) glob 49) [] [(14, .bool (isDayF b d)), (15, .tup [bkD b m [], .int .i64 12])] [] (body Proofs.Tryd.f40) [.tmp 4, .tmp 5] [bookD b, .int .i64 d] =
   some ([Contract PR glob 122 [bookD b, D.int .i64 d] (D.bool (isDayF b d)), Contract PR glob 121 [bookD b, D.bool (isDayF b d)] (D.tup [bkD b m [], D.int .i64 (12 : Int)])], D.tup [D.sl true E.int [], D.int .i64 (12 : Int)]) := by kernel_rfl
theorem cutA_none (b : Book) (d : Int) (m : Mp) (ts : List TrC) (i : Nat) :
  callF (mk PR (lookN types) glob 49) [] [(14, .bool (isDayF b d)), (15, .tup [bkD b m ts, .int .i64 0])] [(0, (cutA_K0, (.normal, cutA_S0 b d m ts i)))] (body Proofs.Tryd.f40) [.tmp 4, .tmp 5] [bookD b, .int .i64 d] =
   some ([Contract PR glob 122 [bookD b, D.int .i64 d] (D.bool (isDayF b d)), Contract PR glob 121 [bookD b, D.bool (isDayF b d)] (D.tup [bkD b m ts, D.int .i64 (0 : Int)]), LoopT PR glob 49 (Code.at [1, 1, 1, 1, 0, 1] (body Proofs.Tryd.f40)) [(.tmp 1, .d (D.int .i64 d)), (.tmp 2, .d (D.ptr 2 0)), (.tmp 6, .d (D.ptr 6 0)), (.tmp 8, .d (D.sl true E.int [])), (.tmp 23, .d (D.int .i64 ((Nat.cast : Nat → Int) (List.length (Book.secs b))))), (.tmp 24, .d (D.int .i64 (0 : Int))), (.box 2, .bx (some (Box.mk false (cellsOf (bookD b))))), (.box 6, .bx (some (Box.mk false (cellsOf (bkD b m ts))))), (.obj 41, .ob Option.none)] Ex.normal (cutA_S0 b d m ts i), (0 : Int) ≤ (0 : Int) ∧ (0 : Int) ≤ (Nat.cast : Nat → Int) 0 ∧ (Nat.cast : Nat → Int) 0 ≤ (Nat.cast : Nat → Int) 0 ∧ (Nat.cast : Nat → Int) 0 = (Nat.cast : Nat → Int) 0], D.tup [D.sl true E.int (List.drop (Int.toNat (0 : Int)) (List.take (Int.toNat ((Nat.cast : Nat → Int) 0)) [])), D.int .i64 (0 : Int)]) := by kernel_rfl
theorem cutA_some (b : Book) (d : Int) (m : Mp) (ts : List TrC) (i : Nat) (y : Int) (r : List Int) :
  callF (mk PR (lookN types) glob 49) [] [(14, .bool (isDayF b d)), (15, .tup [bkD b m ts, .int .i64 0])] [(0, (cutB_K0, (.normal, cutB_S0 b d m ts i y r)))] (body Proofs.Tryd.f40) [.tmp 4, .tmp 5] [bookD b, .int .i64 d] =
   some ([Contract PR glob 122 [bookD b, D.int .i64 d] (D.bool (isDayF b d)), Contract PR glob 121 [bookD b, D.bool (isDayF b d)] (D.tup [bkD b m ts, D.int .i64 (0 : Int)]), LoopT PR glob 49 (Code.at [1, 1, 1, 1, 0, 1] (body Proofs.Tryd.f40)) [(.tmp 1, .d (D.int .i64 d)), (.tmp 2, .d (D.ptr 2 0)), (.tmp 6, .d (D.ptr 6 0)), (.tmp 8, .d (D.sl true E.int [])), (.tmp 23, .d (D.int .i64 ((Nat.cast : Nat → Int) (List.length (Book.secs b))))), (.tmp 24, .d (D.int .i64 (0 : Int))), (.box 2, .bx (some (Box.mk false (cellsOf (bookD b))))), (.box 6, .bx (some (Box.mk false (cellsOf (bkD b m ts))))), (.obj 41, .ob Option.none)] Ex.normal (cutB_S0 b d m ts i y r), List.length (y :: r) = List.length ((y :: r)), List.length (y :: r) = List.length ((y :: r)), List.length (y :: r) = List.length ((y :: r)), (0 : Int) ≤ (0 : Int) ∧ (0 : Int) ≤ (Nat.cast : Nat → Int) (List.length ((y :: r))) ∧ (Nat.cast : Nat → Int) (List.length ((y :: r))) ≤ (Nat.cast : Nat → Int) (List.length ((y :: r))) ∧ (Nat.cast : Nat → Int) (List.length ((y :: r))) = (Nat.cast : Nat → Int) (List.length ((y :: r)))], D.tup [D.sl true E.int (List.drop (Int.toNat (0 : Int)) (List.take (Int.toNat ((Nat.cast : Nat → Int) (List.length ((y :: r))))) ((y :: r)))), D.int .i64 (0 : Int)]) := by kernel_rfl
theorem turnA_err (b : Book) (e : Int) :
  callF (mk PR (lookN types) glob 70) [(19, true)] [(15, .tup [zbookD, .int .i64 e])] [] (body Proofs.Tryd.f54) [.tmp 2, .tmp 3] [bookD b] =
   some ([Contract PR glob 121 [bookD b, D.bool true] (D.tup [D.agg [D.nil, D.nil, D.nil, D.int .i64 (0 : Int), D.int .i64 (0 : Int), D.nilmap, D.nil], D.int .i64 e]), (e != (0 : Int)) = true], D.tup [D.int .i64 (0 : Int), D.int .i64 e]) := by kernel_rfl
theorem turnA_false (b : Book) (m : Mp) :
  callF (mk PR (lookN types) glob 70) [] [(15, .tup [bkD b m [], .int .i64 12])] [] (body Proofs.Tryd.f54) [.tmp 2, .tmp 3] [bookD b] =
   some ([Contract PR glob 121 [bookD b, D.bool true] (D.tup [bkD b m [], D.int .i64 (12 : Int)])], D.tup [D.int .i64 (0 : Int), D.int .i64 (12 : Int)]) := by kernel_rfl
theorem turnA_none (b : Book) (m : Mp) (ts : List TrC) (n d best late k0 : Int) (i : Nat) :
  callF (mk PR (lookN types) glob 70) [(68, true)] [(15, .tup [bkD b m ts, .int .i64 0]), (36, .int .i64 k0)] [(0, (turnA_K0, (.normal, turnA_S0 b m ts i n))), (2, (turnA_K2, (.normal, turnA_S2 b m ts n d best late k0 i)))] (body Proofs.Tryd.f54) [.tmp 2, .tmp 3] [bookD b] =
   some ([Contract PR glob 121 [bookD b, D.bool true] (D.tup [bkD b m ts, D.int .i64 (0 : Int)]), LoopT PR glob 70 (Code.at [1, 1, 1, 1, 0, 1] (body Proofs.Tryd.f54)) [(.tmp 1, .d (D.ptr 1 0)), (.tmp 4, .d (D.ptr 4 0)), (.tmp 6, .d (D.int .i64 (1 : Int))), (.tmp 22, .d (D.sl false E.sv (Book.svs b))), (.tmp 23, .d (D.int .i64 ((Nat.cast : Nat → Int) (List.length (Book.svs b))))), (.tmp 24, .d (D.int .i64 (0 : Int))), (.box 1, .bx (some (Box.mk false (cellsOf (bookD b))))), (.box 4, .bx (some (Box.mk false (cellsOf (bkD b m ts)))))] Ex.normal (turnA_S0 b m ts i n), Contract PR glob 129 [bkD b m ts, D.sl false E.int (Book.turns b)] (D.int .i64 k0), LoopT PR glob 70 (Code.at [1, 1, 1, 1, 1, 1, 0, 1] (body Proofs.Tryd.f54)) [(.tmp 1, .d (D.ptr 1 0)), (.tmp 4, .d (D.ptr 4 0)), (.tmp 9, .d (D.int .i64 (0 : Int))), (.tmp 10, .d (D.int .i64 k0)), (.tmp 11, .d (D.int .i64 n)), (.box 1, .bx (some (Box.mk false (cellsOf (bookD b))))), (.box 4, .bx (some (Box.mk false (cellsOf (bkD b m ts)))))] Ex.normal (turnA_S2 b m ts n d best late k0 i), (best == (0 : Int)) = true], D.tup [D.int .i64 (0 : Int), D.int .i64 (4 : Int)]) := by kernel_rfl
theorem turnA_some (b : Book) (m : Mp) (ts : List TrC) (n d best late k0 : Int) (i : Nat) :
  callF (mk PR (lookN types) glob 70) [(68, false)] [(15, .tup [bkD b m ts, .int .i64 0]), (36, .int .i64 k0)] [(0, (turnA_K0, (.normal, turnA_S0 b m ts i n))), (2, (turnA_K2, (.normal, turnA_S2 b m ts n d best late k0 i)))] (body Proofs.Tryd.f54) [.tmp 2, .tmp 3] [bookD b] =
   some ([Contract PR glob 121 [bookD b, D.bool true] (D.tup [bkD b m ts, D.int .i64 (0 : Int)]), LoopT PR glob 70 (Code.at [1, 1, 1, 1, 0, 1] (body Proofs.Tryd.f54)) [(.tmp 1, .d (D.ptr 1 0)), (.tmp 4, .d (D.ptr 4 0)), (.tmp 6, .d (D.int .i64 (1 : Int))), (.tmp 22, .d (D.sl false E.sv (Book.svs b))), (.tmp 23, .d (D.int .i64 ((Nat.cast : Nat → Int) (List.length (Book.svs b))))), (.tmp 24, .d (D.int .i64 (0 : Int))), (.box 1, .bx (some (Box.mk false (cellsOf (bookD b))))), (.box 4, .bx (some (Box.mk false (cellsOf (bkD b m ts)))))] Ex.normal (turnA_S0 b m ts i n), Contract PR glob 129 [bkD b m ts, D.sl false E.int (Book.turns b)] (D.int .i64 k0), LoopT PR glob 70 (Code.at [1, 1, 1, 1, 1, 1, 0, 1] (body Proofs.Tryd.f54)) [(.tmp 1, .d (D.ptr 1 0)), (.tmp 4, .d (D.ptr 4 0)), (.tmp 9, .d (D.int .i64 (0 : Int))), (.tmp 10, .d (D.int .i64 k0)), (.tmp 11, .d (D.int .i64 n)), (.box 1, .bx (some (Box.mk false (cellsOf (bookD b))))), (.box 4, .bx (some (Box.mk false (cellsOf (bkD b m ts)))))] Ex.normal (turnA_S2 b m ts n d best late k0 i), (best == (0 : Int)) = false], D.tup [D.int .i64 best, D.int .i64 (0 : Int)]) := by kernel_rfl
end Go.Di

namespace Go.Di

theorem whole_slice {α : Type} (l : List α) : List.drop (Int.toNat (0 : Int)) (List.take (Int.toNat ((Nat.cast : Nat → Int) l.length)) l) = l := by simp
theorem mx_le3 {a b c : Int} (h1 : a ≤ c) (h2 : b ≤ c) : mx a b ≤ c := by
 unfold mx
 split <;> assumption
/-! ### Cut -/
def cutGo (b : Book) (ts : List TrC) (d : Int) : Nat → List Int
 | 0 => []
 | i + 1 => if (thickF b ts b.turns i d).lo < b.rule then cutGo b ts d i ++ [(i : Int)] else cutGo b ts d i
theorem cutGo_len (b : Book) (ts : List TrC) (d : Int) : ∀ i, (cutGo b ts d i).length ≤ i
 | 0 => Nat.le_refl _
 | i + 1 => by
  have h := cutGo_len b ts d i
  simp only [cutGo]
  split
  ·simp only [List.length_append, List.length_singleton]; omega
  ·omega
def cutAF (b : Book) (d : Int) : List Int × Int := if errF b (isDayF b d) = 0 then (cutGo b (truthsF b []) d b.secs.length, 0) else ([], errF b (isDayF b d))
def cutS (b : Book) (d : Int) (m : Mp) (ts : List TrC) (i : Nat) : List Int → List (Key × Val)
 | [] => cutA_S0 b d m ts i
 | y :: r => cutB_S0 b d m ts i y r
theorem cut_round (b : Book) (d : Int) (m : Mp) (ts : List TrC) (i : Nat) (o : Span) (l : List Int) (hi : i < b.secs.length) (hsz : l.length ≤ 1000) (h4 : b.secs.length ≤ 4)
  (hth : Contract PR glob 123 [bkD b m ts, .int .i64 i, .int .i64 d, .sl false .int b.turns] (spD o)) :
  WpL PR (mk PR (lookN types) glob 49) (Code.at [1, 1, 1, 1, 0, 1, 0, 0] (body Proofs.Tryd.f40)) (cutS b d m ts i l) fun e1 L1 => e1 = .normal ∧ L1 = cutS b d m ts (i + 1) (if o.lo < b.rule then l ++ [(i : Int)] else l) := by
 have hm := may_con o b.rule
 by_cases hlo : o.lo < b.rule
 ·rw [if_pos hlo]
  have hm' : decide (o.lo < b.rule) = true := decide_eq_true hlo
  cases l with
  | nil =>
   refine WpL.path (G 49) (cutA_0_yes b d m ts i o (decide (o.lo < b.rule))) ?_ ⟨rfl, rfl⟩
   exact ⟨decide_eq_true (by omega), by omega, hth, hm, hm', by omega, by simp only [inI64]; omega, trivial⟩
  | cons y r =>
   refine WpL.path (G 49) (cutB_0_yes b d m ts i y r o (decide (o.lo < b.rule))) ?_ ⟨rfl, rfl⟩
   exact ⟨decide_eq_true (by omega), by omega, hth, hm, hm', rfl, by simp only [List.length_append, List.length_cons] at hsz ⊢; simp; omega, by simp only [inI64]; omega, trivial⟩
 ·rw [if_neg hlo]
  have hm' : decide (o.lo < b.rule) = false := decide_eq_false hlo
  cases l with
  | nil =>
   refine WpL.path (G 49) (cutA_0_no b d m ts i o (decide (o.lo < b.rule))) ?_ ⟨rfl, rfl⟩
   exact ⟨decide_eq_true (by omega), by omega, hth, hm, hm', by simp only [inI64]; omega, trivial⟩
  | cons y r =>
   refine WpL.path (G 49) (cutB_0_no b d m ts i y r o (decide (o.lo < b.rule))) ?_ ⟨rfl, rfl⟩
   exact ⟨decide_eq_true (by omega), by omega, hth, hm, hm', by simp only [inI64]; omega, trivial⟩
theorem cut_loop {b : Book} (hV : Valid b) (d : Int) (hd : d ≤ 1000) (m : Mp) (hne : truthsF b [] ≠ []) :
  LoopT PR glob 49 (Code.at [1, 1, 1, 1, 0, 1] (body Proofs.Tryd.f40)) (cutS b d m (truthsF b []) 0 []) .normal (cutS b d m (truthsF b []) b.secs.length (cutGo b (truthsF b []) d b.secs.length)) := by
 refine LoopT.count (tt := lookN types) (id := 0) (c := Code.at [1, 1, 1, 1, 0, 1, 0, 0] (body Proofs.Tryd.f40)) (by kernel_rfl) b.secs.length (fun i => cutS b d m (truthsF b []) i (cutGo b (truthsF b []) d i)) (fun i hi => ?_) ?_
 ·have h4 := hV.secs.2
  have hl := cutGo_len b (truthsF b []) d i
  exact cut_round b d m (truthsF b []) i _ _ hi (by omega) h4 (thick_con b m (truthsF b []) i d b.turns (truths_ok hV []) hne (by have := truths_len hV []; omega) (by omega) h4 (by have := hV.turns; omega) hd)
 ·cases cutGo b (truthsF b []) d b.secs.length with
  | nil => exact WpL.path (G 49) (cutA_0_end b d m _ _) ⟨decide_eq_false (Int.lt_irrefl _), trivial⟩ ⟨.inl ⟨rfl, rfl⟩, rfl⟩
  | cons y r => exact WpL.path (G 49) (cutB_0_end b d m _ _ y r) ⟨decide_eq_false (Int.lt_irrefl _), trivial⟩ ⟨.inl ⟨rfl, rfl⟩, rfl⟩
theorem cutA_con {b : Book} (hs : Small b) (d : Int) : Contract PR glob 40 [bookD b, .int .i64 d] (.tup [.sl true .int (cutAF b d).1, .int .i64 (cutAF b d).2]) := by
 have h1 := isDay_con b d
 have hc := err_cases hs (isDayF b d)
 unfold cutAF
 generalize he : errF b (isDayF b d) = e at hc
 rcases hc with ⟨hne, h12, h3⟩ | ⟨h0, hV, his, hcan⟩
 ·rw [if_neg hne]
  by_cases e12 : e = 12
  ·obtain ⟨hV, his, hcan⟩ := h12 e12
   have ha := asked_false_con hs hV hcan
   subst e12
   have hr := cutA_false b d (.spot (openF b []))
   rw [his] at hr h1
   exact contract_of_path (G 49) cutA_fn hr ⟨h1, ha, trivial⟩
  ·exact contract_of_path (G 49) cutA_fn (cutA_err b d e) ⟨h1, h3 e12, by simpa using hne, trivial⟩
 ·subst h0
  rw [if_pos rfl]
  have hday := within_iff.1 his
  have hdd := hV.days
  have ha := asked_ok_con hs hV hcan
  have hl := cut_loop hV d (by omega) (.spot (openF b [])) (ne_of_can hcan)
  cases hcut : cutGo b (truthsF b []) d b.secs.length with
  | nil =>
   rw [hcut] at hl
   have hr := cutA_none b d (.spot (openF b [])) (truthsF b []) b.secs.length
   rw [his] at hr h1
   exact contract_of_path (G 49) cutA_fn hr ⟨h1, ha, hl, by omega, trivial⟩
  | cons y r =>
   rw [hcut] at hl
   have hr := cutA_some b d (.spot (openF b [])) (truthsF b []) b.secs.length y r
   rw [his] at hr h1
   refine Eq.subst (motive := fun l : List Int => Contract PR glob 40 [bookD b, .int .i64 d] (.tup [.sl true .int l, .int .i64 0])) ?_ (contract_of_path (G 49) cutA_fn hr ⟨h1, ha, hl, rfl, rfl, rfl, ⟨by omega, by omega, by omega, rfl⟩, trivial⟩)
   exact whole_slice (y :: r)

/-! ### Turn -/
def fromGo (b : Book) (i : Nat) : Int := (b.svs.take i).foldl (fun n y => mx n y.d) 1
def fromF (b : Book) : Int := fromGo b b.svs.length
theorem fromGo_in {b : Book} (hd : ∀ y ∈ b.svs, 0 ≤ y.d ∧ y.d ≤ 1000) : ∀ i, i ≤ b.svs.length → 1 ≤ fromGo b i ∧ fromGo b i ≤ 1000
 | 0, _ => by simp [fromGo]
 | i + 1, h => by
  have ih := fromGo_in hd i (by omega)
  have hf := take_foldl (fun n (y : Sv) => mx n y.d) b.svs (1 : Int) i sv0 (by omega)
  have hm : b.svs.getD i sv0 ∈ b.svs := by
   rw [List.getD_eq_getElem?_getD, List.getElem?_eq_getElem (by omega)]
   exact List.getElem_mem _
  have := hd _ hm
  unfold fromGo at *
  rw [hf]
  exact ⟨Int.le_trans ih.1 mx_ge.1, mx_le3 ih.2 this.2⟩
def turnStep (b : Book) (ts : List TrC) (p : Int × Int) (d : Int) : Int × Int :=
 if d ∈ b.turns then p else if soonestF b ts (b.turns ++ [d]) b.secs.length > p.2 then (d, soonestF b ts (b.turns ++ [d]) b.secs.length) else p
def turnGo (b : Book) (ts : List TrC) (from_ : Int) : Nat → Int × Int
 | 0 => (0, soonestF b ts b.turns b.secs.length)
 | i + 1 => turnStep b ts (turnGo b ts from_ i) (from_ + i)
def turnLF (b : Book) (ts : List TrC) : Int × Int := turnGo b ts (fromF b) (b.days + 1 - fromF b).toNat
def turnAF (b : Book) : Int × Int := if errF b true = 0 then (if (turnLF b (truthsF b [])).1 = 0 then (0, 4) else ((turnLF b (truthsF b [])).1, 0)) else (0, errF b true)
theorem turn_from {b : Book} (hV : Valid b) (m : Mp) (ts : List TrC) :
  LoopT PR glob 70 (Code.at [1, 1, 1, 1, 0, 1] (body Proofs.Tryd.f54)) (turnA_S0 b m ts 0 1) .normal (turnA_S0 b m ts b.svs.length (fromF b)) := by
 refine LoopT.count (tt := lookN types) (id := 0) (c := Code.at [1, 1, 1, 1, 0, 1, 0, 0] (body Proofs.Tryd.f54)) (by kernel_rfl) b.svs.length (fun i => turnA_S0 b m ts i (fromGo b i)) (fun i hi => ?_) ?_
 ·have h8 := hV.svs
  have hf := take_foldl (fun n (y : Sv) => mx n y.d) b.svs (1 : Int) i sv0 hi
  refine WpL.path (G 70) (turnA_0_on b m ts i _) ⟨decide_eq_true (by omega), by omega, by omega, by omega, by simp only [inI64]; omega, trivial⟩ ⟨rfl, ?_⟩
  rw [show fromGo b (i + 1) = _ from hf]
  rfl
 ·refine WpL.path (G 70) (turnA_0_end b m ts _ _) ⟨decide_eq_false (Int.lt_irrefl _), trivial⟩ ⟨.inl ⟨rfl, rfl⟩, rfl⟩
theorem turn_days {b : Book} (hV : Valid b) (m : Mp) (hne : truthsF b [] ≠ []) (n k0 : Int) (i : Nat) (hk : k0 = soonestF b (truthsF b []) b.turns b.secs.length) :
  ∃ d, LoopT PR glob 70 (Code.at [1, 1, 1, 1, 1, 1, 0, 1] (body Proofs.Tryd.f54)) (turnA_S2 b m (truthsF b []) n (fromF b) 0 k0 k0 i) .normal (turnA_S2 b m (truthsF b []) n d (turnLF b (truthsF b [])).1 (turnLF b (truthsF b [])).2 k0 i) := by
 have hfr := fromGo_in (b := b) (fun y hy => by have := (survey_iff.1 (hV.sv y hy)).2.1; have := hV.days; omega) b.svs.length (Nat.le_refl _)
 have hfr : 1 ≤ fromF b ∧ fromF b ≤ 1000 := hfr
 have hdd := hV.days
 have ht4 := hV.turns
 refine ⟨fromF b + (b.days + 1 - fromF b).toNat, ?_⟩
 have := LoopT.count (P := PR) (glob := glob) (n := 70) (tt := lookN types) (id := 2) (b := Code.at [1, 1, 1, 1, 1, 1, 0, 1] (body Proofs.Tryd.f54)) (c := Code.at [1, 1, 1, 1, 1, 1, 0, 1, 0, 0] (body Proofs.Tryd.f54)) (by kernel_rfl) (b.days + 1 - fromF b).toNat
  (fun j => turnA_S2 b m (truthsF b []) n (fromF b + j) (turnGo b (truthsF b []) (fromF b) j).1 (turnGo b (truthsF b []) (fromF b) j).2 k0 i) (e := .normal) (L' := turnA_S2 b m (truthsF b []) n (fromF b + (b.days + 1 - fromF b).toNat) (turnLF b (truthsF b [])).1 (turnLF b (truthsF b [])).2 k0 i) (fun j hj => ?_) ?_
 ·subst hk
  simpa [turnGo] using this
 ·have hc := contains_con b.turns (fromF b + j) (by omega)
  have hst : ∀ p : Int × Int, turnGo b (truthsF b []) (fromF b) (j + 1) = p → turnA_S2 b m (truthsF b []) n (fromF b + (j + 1 : Nat)) (turnGo b (truthsF b []) (fromF b) (j + 1)).1 (turnGo b (truthsF b []) (fromF b) (j + 1)).2 k0 i = turnA_S2 b m (truthsF b []) n (fromF b + j + 1) p.1 p.2 k0 i := fun p hp => by
   rw [hp]
   congr 1
   omega
  by_cases hin : fromF b + (j : Int) ∈ b.turns
  ·have hd : decide (fromF b + (j : Int) ∈ b.turns) = true := decide_eq_true hin
   refine WpL.path (G 70) (turnA_2_has b m (truthsF b []) n _ _ _ k0 i _) ⟨decide_eq_true (by omega), hc, hd, by simp only [inI64]; omega, trivial⟩ ⟨rfl, ?_⟩
   rw [hst (turnGo b (truthsF b []) (fromF b) j) (by simp only [turnGo, turnStep]; rw [if_pos hin])]
   rfl
  ·have hd : decide (fromF b + (j : Int) ∈ b.turns) = false := decide_eq_false hin
   have hta : List.drop (Int.toNat (0 : Int)) (List.take (Int.toNat ((Nat.cast : Nat → Int) (List.length b.turns))) b.turns) = b.turns := by simp
   have hso := soonest_con b m (truthsF b []) (b.turns ++ [fromF b + j]) (truths_ok hV []) hne (by have := truths_len hV []; omega) hV.secs.2 (by simp; omega) (by omega)
   by_cases hgt : soonestF b (truthsF b []) (b.turns ++ [fromF b + (j : Int)]) b.secs.length > (turnGo b (truthsF b []) (fromF b) j).2
   ·have hr := turnA_2_yes b m (truthsF b []) n (fromF b + j) (turnGo b (truthsF b []) (fromF b) j).1 (turnGo b (truthsF b []) (fromF b) j).2 k0 i (decide (fromF b + (j : Int) ∈ b.turns)) (soonestF b (truthsF b []) (b.turns ++ [fromF b + (j : Int)]) b.secs.length)
    rw [hta] at hr
    refine WpL.path (G 70) hr ⟨decide_eq_true (by omega), hc, hd, by omega, by simp; omega, rfl, hso, decide_eq_true hgt, by simp only [inI64]; omega, trivial⟩ ⟨rfl, ?_⟩
    rw [hst (fromF b + j, soonestF b (truthsF b []) (b.turns ++ [fromF b + (j : Int)]) b.secs.length) (by simp only [turnGo, turnStep]; rw [if_neg hin, if_pos hgt])]
    rfl
   ·have hr := turnA_2_no b m (truthsF b []) n (fromF b + j) (turnGo b (truthsF b []) (fromF b) j).1 (turnGo b (truthsF b []) (fromF b) j).2 k0 i (decide (fromF b + (j : Int) ∈ b.turns)) (soonestF b (truthsF b []) (b.turns ++ [fromF b + (j : Int)]) b.secs.length)
    rw [hta] at hr
    refine WpL.path (G 70) hr ⟨decide_eq_true (by omega), hc, hd, by omega, by simp; omega, rfl, hso, decide_eq_false hgt, by simp only [inI64]; omega, trivial⟩ ⟨rfl, ?_⟩
    rw [hst (turnGo b (truthsF b []) (fromF b) j) (by simp only [turnGo, turnStep]; rw [if_neg hin, if_neg hgt])]
    rfl
 ·refine WpL.path (G 70) (turnA_2_end b m (truthsF b []) n _ _ _ k0 i) ⟨decide_eq_false (by omega), trivial⟩ ⟨.inl ⟨rfl, rfl⟩, rfl⟩
theorem turnA_con {b : Book} (hs : Small b) : Contract PR glob 54 [bookD b] (.tup [.int .i64 (turnAF b).1, .int .i64 (turnAF b).2]) := by
 have hc := err_cases hs true
 unfold turnAF
 generalize he : errF b true = e at hc
 rcases hc with ⟨hne, h12, h3⟩ | ⟨h0, hV, his, hcan⟩
 ·rw [if_neg hne]
  by_cases e12 : e = 12
  ·obtain ⟨hV, his, hcan⟩ := h12 e12
   have ha := asked_false_con hs hV hcan
   subst e12
   exact contract_of_path (G 70) turnA_fn (turnA_false b (.spot (openF b []))) ⟨ha, trivial⟩
  ·exact contract_of_path (G 70) turnA_fn (turnA_err b e) ⟨h3 e12, by simpa using hne, trivial⟩
 ·subst h0
  rw [if_pos rfl]
  have ha := asked_ok_con hs hV hcan
  have hdd := hV.days
  have h0 := turn_from hV (.spot (openF b [])) (truthsF b [])
  have hso := soonest_con b (.spot (openF b [])) (truthsF b []) b.turns (truths_ok hV []) (ne_of_can hcan) (by have := truths_len hV []; omega) hV.secs.2 (by have := hV.turns; omega) (by omega)
  obtain ⟨d, h2⟩ := turn_days hV (.spot (openF b [])) (ne_of_can hcan) (fromF b) _ b.svs.length rfl
  by_cases hz : (turnLF b (truthsF b [])).1 = 0
  ·rw [if_pos hz]
   exact contract_of_path (G 70) turnA_fn (turnA_none b (.spot (openF b [])) (truthsF b []) (fromF b) d _ _ _ b.svs.length) ⟨ha, h0, hso, h2, by simpa using hz, trivial⟩
  ·rw [if_neg hz]
   exact contract_of_path (G 70) turnA_fn (turnA_some b (.spot (openF b [])) (truthsF b []) (fromF b) d _ _ _ b.svs.length) ⟨ha, h0, hso, h2, by simpa using hz, trivial⟩
end Go.Di

