/- Part 26: an interpreter over plain data for this code, with the proof that it says what the model does, and the contracts of the functions. No condition. -/
import Derived.Test.YtfkmodcjddfeiaaDoorDi25
set_option linter.unusedVariables false
set_option linter.unusedSimpArgs false
namespace Go.Di

/-! ### What numbers choose -/
theorem choose_con (xs : List Int) (n : Int) (hl : xs.length ≤ 9223372036854775807) : Contract Proofs.Tryd.prog glob 75 [.sl false .int xs, .int .i64 n] (.int .i64 (chooseF xs n)) := by
  unfold chooseF
  by_cases h : xs.length = 0
  · rw [if_pos h]
    have d : ((xs.length : Int) == 0) = true := by rw [h]; rfl
    refine contract_of_path (G 15) choose_fn (choose_nil xs n) ?_
    repeat (first | exact trivial | refine ⟨by first | exact d | rfl, ?_⟩)
  · rw [if_neg h]
    have d : ((xs.length : Int) == 0) = false := by rw [beq_eq_false_iff_ne]; omega
    have hm := modB_con n xs.length (by omega)
    have hin := modF_in (n := n) (m := xs.length) (by omega)
    refine contract_of_path (G 15) choose_fn (choose_some xs n (modF n xs.length)) ?_
    repeat (first | exact trivial | refine ⟨by first | exact d | exact hm | exact hin | rfl | omega, ?_⟩)
theorem withinS_con (s : Span) (n : Int) (h : s.lo ≤ s.hi) (h0 : 0 ≤ s.lo) (h1 : s.hi ≤ 1000) : Contract Proofs.Tryd.prog glob 74 [spD s, .int .i64 n] (.int .i64 (withinSF s n)) := by
  have hm := modB_con n (s.hi - s.lo + 1) (by omega)
  have hin := modF_in (n := n) (m := s.hi - s.lo + 1) (by omega)
  have i1 : inI64 (s.hi - s.lo) := by simp only [inI64]; omega
  have i2 : inI64 (s.hi - s.lo + 1) := by simp only [inI64]; omega
  have i3 : inI64 (s.lo + modF n (s.hi - s.lo + 1)) := by simp only [inI64]; omega
  refine contract_of_path (G 16) withinS_fn (withinS_all s n (modF n (s.hi - s.lo + 1))) ?_
  repeat (first | exact trivial | refine ⟨by first | exact hm | exact i1 | exact i2 | exact i3 | rfl | omega, ?_⟩)
/-- A list of so many values. -/
def tol (f : Nat → Int) : Nat → List Int
  | 0 => []
  | i + 1 => tol f i ++ [f i]
theorem tol_eq (f : Nat → Int) : ∀ n, tol f n = (List.range n).map f
  | 0 => rfl
  | n + 1 => by
    simp only [tol]
    rw [tol_eq f n, List.range_succ, List.map_append]
    rfl
theorem tol_len (f : Nat → Int) (n : Nat) : (tol f n).length = n := by rw [tol_eq]; simp
theorem tol_cons {f : Nat → Int} {n : Nat} (h : 0 < n) : ∃ y r, tol f n = y :: r := by
  cases hq : tol f n with
  | nil =>
    have := tol_len f n
    rw [hq] at this
    simp at this
    omega
  | cons y r => exact ⟨y, r, rfl⟩
def truS (b : Book) (bits : List Int) (i : Nat) : List Int → List Int → List (Key × Val)
  | y :: r, z :: q => truB_S0 b bits i y r z q
  | _, _ => truA_S0 b bits
theorem tru_round {b : Book} (hV : Valid b) (bits : List Int) (hl : bits.length ≤ 9223372036854775807) (i : Nat) (o1 o2 : List Int) (h1 : o1.length = i) (h2 : o2.length = i) (hi : i < b.secs.length) :
    WpL Proofs.Tryd.prog (mk Proofs.Tryd.prog (lookN types) glob 49) (Code.at [1, 1, 0, 1, 0, 0] (body Proofs.Tryd.f34)) (truS b bits i o1 o2) fun e1 L1 => e1 = .normal ∧ L1 = truS b bits (i + 1) (o1 ++ [trT b bits i]) (o2 ++ [trW b bits i]) := by
  have h4 := hV.secs
  have hs := hV.sec _ (getD_mem b.secs i sec0 hi)
  have hst := hs.t
  have hsw := hs.w
  have c1 := choose_con bits (2 * i) hl
  have c2 := choose_con bits (2 * i + 1) hl
  have w1 := withinS_con (b.secs.getD i sec0).t (chooseF bits (2 * i)) (by omega) (by omega) (by omega)
  have w2 := withinS_con (b.secs.getD i sec0).w (chooseF bits (2 * i + 1)) (by omega) (by omega) (by omega)
  have hlt : decide ((i : Int) < b.secs.length) = true := decide_eq_true (by omega)
  have i1 : inI64 (2 * (i : Int)) := by simp only [inI64]; omega
  have i2 : inI64 (2 * (i : Int) + 1) := by simp only [inI64]; omega
  have i3 : inI64 ((i : Int) + 1) := by simp only [inI64]; omega
  cases o1 with
  | nil =>
    have : i = 0 := by simpa using h1.symm
    subst this
    have : o2 = [] := List.eq_nil_of_length_eq_zero h2
    subst this
    refine WpL.path (G 49) (truA_0_on b bits (chooseF bits (2 * ((0 : Nat) : Int))) (trT b bits 0) (chooseF bits (2 * ((0 : Nat) : Int) + 1)) (trW b bits 0)) ?_ ⟨rfl, rfl⟩
    repeat (first | exact trivial | refine ⟨by first | exact hlt | exact c1 | exact c2 | exact w1 | exact w2 | exact i1 | exact i2 | exact i3 | rfl | omega | (simp; omega), ?_⟩)
  | cons y r =>
    cases o2 with
    | nil => simp at h1 h2; omega
    | cons z q =>
      have z1 : (y :: r ++ [trT b bits i]).length * (8 + 1) ≤ 140737488355328 := by simp only [List.length_append, List.length_cons, List.length_nil] at h1 ⊢; omega
      have z2 : (z :: q ++ [trW b bits i]).length * (8 + 1) ≤ 140737488355328 := by simp only [List.length_append, List.length_cons, List.length_nil] at h2 ⊢; omega
      refine WpL.path (G 49) (truB_0_on b bits i y r z q (chooseF bits (2 * i)) (trT b bits i) (chooseF bits (2 * i + 1)) (trW b bits i)) ?_ ⟨rfl, rfl⟩
      repeat (first | exact trivial | refine ⟨by first | exact hlt | exact c1 | exact c2 | exact w1 | exact w2 | exact i1 | exact i2 | exact i3 | exact z1 | exact z2 | rfl | omega, ?_⟩)
theorem truly_con {b : Book} (hV : Valid b) (bits : List Int) (hl : bits.length ≤ 9223372036854775807) : Contract Proofs.Tryd.prog glob 34 [bookD b, .sl false .int bits] (.tup [.sl false .int (tol (trT b bits) b.secs.length), .sl false .int (tol (trW b bits) b.secs.length)]) := by
  have h4 := hV.secs
  obtain ⟨y, r, h1⟩ := tol_cons (f := trT b bits) (n := b.secs.length) (by omega)
  obtain ⟨z, q, h2⟩ := tol_cons (f := trW b bits) (n := b.secs.length) (by omega)
  have hloop : LoopT Proofs.Tryd.prog glob 49 (Code.at [1, 1, 0, 1] (body Proofs.Tryd.f34)) (truS b bits 0 [] []) .normal (truB_S0 b bits b.secs.length y r z q) := by
    refine LoopT.count (tt := lookN types) (id := 0) (c := Code.at [1, 1, 0, 1, 0, 0] (body Proofs.Tryd.f34)) (by kernel_rfl) b.secs.length (fun i => truS b bits i (tol (trT b bits) i) (tol (trW b bits) i)) (fun i hi => tru_round hV bits hl i _ _ (tol_len _ _) (tol_len _ _) hi) ?_
    show WpL _ _ _ (truS b bits b.secs.length (tol (trT b bits) b.secs.length) (tol (trW b bits) b.secs.length)) _
    rw [h1, h2]
    exact WpL.path (G 49) (truB_0_end b bits b.secs.length y r z q) ⟨decide_eq_false (Int.lt_irrefl _), trivial⟩ ⟨.inl ⟨rfl, rfl⟩, rfl⟩
  rw [h1, h2]
  refine contract_of_path (G 49) truB_fn (truB_some b bits b.secs.length y r z q) ?_
  repeat (first | exact trivial | refine ⟨by first | exact hloop | rfl | omega, ?_⟩)

/-! ### A list from its end -/
def pzn (n : Nat) : Nat → Int
  | 0 => (n : Int) - 1
  | i + 1 => pzn n i - 1
theorem pzn_eq (n : Nat) : ∀ i : Nat, pzn n i = (n : Int) - 1 - i
  | 0 => by simp [pzn]
  | i + 1 => by
    simp only [pzn]
    rw [pzn_eq n i]
    omega
def rvTo (xs : List Int) : Nat → List Int
  | 0 => []
  | i + 1 => rvTo xs i ++ [xs.getD (pzn xs.length i).toNat 0]
theorem rvTo_eq (xs : List Int) : ∀ i : Nat, i ≤ xs.length → rvTo xs i = xs.reverse.take i
  | 0, _ => by simp [rvTo]
  | i + 1, h => by
    simp only [rvTo]
    rw [rvTo_eq xs i (by omega), List.take_add_one, List.getElem?_reverse (by omega), List.getD_eq_getElem?_getD]
    have : (pzn xs.length i).toNat = xs.length - 1 - i := by rw [pzn_eq]; omega
    rw [this, List.getElem?_eq_getElem (by omega)]
    rfl
theorem rvTo_len (xs : List Int) : ∀ i : Nat, (rvTo xs i).length = i
  | 0 => rfl
  | i + 1 => by simp [rvTo, rvTo_len xs i]
def rvS (xs : List Int) (p : Int) : List Int → List (Key × Val)
  | [] => revA_S0 xs p
  | y :: r => revB_S0 xs p y r
theorem rv_round (xs : List Int) (p : Int) (o : List Int) (hp : 0 ≤ p ∧ p < xs.length) (h4 : xs.length ≤ 1000) (hsz : o.length ≤ 1000) :
    WpL Proofs.Tryd.prog (mk Proofs.Tryd.prog (lookN types) glob 21) (Code.at [1, 1, 0, 1, 0, 0] (body Proofs.Tryd.f118)) (rvS xs p o) fun e1 L1 => e1 = .normal ∧ L1 = rvS xs (p - 1) (o ++ [xs.getD p.toNat 0]) := by
  have hge : decide (p ≥ 0) = true := decide_eq_true hp.1
  have hi64 : inI64 (p - 1) := by simp only [inI64]; omega
  cases o with
  | nil =>
    refine WpL.path (G 21) (revA_0_on xs p) ?_ ⟨rfl, rfl⟩
    repeat (first | exact trivial | refine ⟨by first | exact hge | exact hi64 | exact hp | rfl | omega | (simp; omega), ?_⟩)
  | cons y r =>
    have hz : (y :: r ++ [xs.getD p.toNat 0]).length * (8 + 1) ≤ 140737488355328 := by simp only [List.length_append, List.length_cons, List.length_nil] at hsz ⊢; omega
    refine WpL.path (G 21) (revB_0_on xs p y r) ?_ ⟨rfl, rfl⟩
    repeat (first | exact trivial | refine ⟨by first | exact hge | exact hi64 | exact hp | exact hz | rfl | omega, ?_⟩)
theorem reversed_con (xs : List Int) (h0 : 0 < xs.length) (h4 : xs.length ≤ 1000) : Contract Proofs.Tryd.prog glob 118 [.sl false .int xs] (.sl false .int xs.reverse) := by
  have i1 : inI64 ((xs.length : Int) - 1) := by simp only [inI64]; omega
  obtain ⟨y, r, hyr⟩ : ∃ y r, rvTo xs xs.length = y :: r := by
    cases h : rvTo xs xs.length with
    | nil =>
      have := rvTo_len xs xs.length
      rw [h] at this
      simp at this
      omega
    | cons y r => exact ⟨y, r, rfl⟩
  have hrev : xs.reverse = y :: r := by
    rw [← hyr, rvTo_eq xs _ (Nat.le_refl _)]
    conv => rhs; arg 1; rw [← List.length_reverse]
    rw [List.take_length]
  have hloop : LoopT Proofs.Tryd.prog glob 21 (Code.at [1, 1, 0, 1] (body Proofs.Tryd.f118)) (rvS xs ((xs.length : Int) - 1) []) .normal (revB_S0 xs (pzn xs.length xs.length) y r) := by
    refine LoopT.count (tt := lookN types) (id := 0) (c := Code.at [1, 1, 0, 1, 0, 0] (body Proofs.Tryd.f118)) (by kernel_rfl) xs.length (fun i => rvS xs (pzn xs.length i) (rvTo xs i)) (fun i hi => ?_) ?_
    · have hp := pzn_eq xs.length i
      have := rvTo_len xs i
      exact rv_round xs (pzn xs.length i) _ (by omega) (by omega) (by omega)
    · have hp := pzn_eq xs.length xs.length
      show WpL _ _ _ (rvS xs (pzn xs.length xs.length) (rvTo xs xs.length)) _
      rw [hyr]
      exact WpL.path (G 21) (revB_0_end xs (pzn xs.length xs.length) y r) ⟨decide_eq_false (by omega), trivial⟩ ⟨.inl ⟨rfl, rfl⟩, rfl⟩
  rw [hrev]
  refine contract_of_path (G 21) revB_fn (revB_some xs (pzn xs.length xs.length) y r) ?_
  repeat (first | exact trivial | refine ⟨by first | exact hloop | exact i1 | rfl | omega, ?_⟩)

/-! ### A book whose surveys are right -/
def rtlS (b : Book) (ds : List (List Int)) (n : Int) (i : Nat) : List Sv → List (Key × Val)
  | [] => rgA_S0 b ds n i
  | y :: r => rgB_S0 b ds n i y r
theorem rtl_round (b : Book) (ds : List (List Int)) (n : Int) (i : Nat) (o : List Sv) (hi : i < b.svs.length) (h8 : b.svs.length ≤ 1000) (hsz : o.length ≤ 1000)
    (hd : 0 ≤ (svZ b i).d ∧ (svZ b i).d < ds.length) (hs : 0 ≤ (svZ b i).s ∧ (svZ b i).s < (ds.getD (svZ b i).d.toNat []).length) (he : 0 ≤ (svZ b i).e ∧ (svZ b i).e ≤ 1000)
    (hn : -1000 ≤ (ds.getD (svZ b i).d.toNat []).getD (svZ b i).s.toNat 0 ∧ (ds.getD (svZ b i).d.toNat []).getD (svZ b i).s.toNat 0 ≤ 1000) :
    WpL Proofs.Tryd.prog (mk Proofs.Tryd.prog (lookN types) glob 55) (Code.at [1, 1, 1, 0, 1, 0, 0] (body Proofs.Tryd.f36)) (rtlS b ds n i o) fun e1 L1 => e1 = .normal ∧ L1 = rtlS b ds n (i + 1) (o ++ [rgY ds n i (svZ b i)]) := by
  have hlt : decide ((i : Int) < b.svs.length) = true := decide_eq_true (by omega)
  have hi64 : inI64 ((i : Int) + 1) := by simp only [inI64]; omega
  have hm := modB_con (IntKind.i64.wrap (n + i)) (2 * (svZ b i).e + 1) (by omega)
  have hmi := modF_in (n := IntKind.i64.wrap (n + i)) (m := 2 * (svZ b i).e + 1) (by omega)
  have j1 : inI64 (2 * (svZ b i).e) := by simp only [inI64]; omega
  have j2 : inI64 (2 * (svZ b i).e + 1) := by simp only [inI64]; omega
  have j3 : inI64 ((ds.getD (svZ b i).d.toNat []).getD (svZ b i).s.toNat 0 + modF (IntKind.i64.wrap (n + i)) (2 * (svZ b i).e + 1)) := by simp only [inI64]; omega
  have j4 : inI64 ((ds.getD (svZ b i).d.toNat []).getD (svZ b i).s.toNat 0 + modF (IntKind.i64.wrap (n + i)) (2 * (svZ b i).e + 1) - (svZ b i).e) := by simp only [inI64]; omega
  cases o with
  | nil =>
    refine WpL.path (G 55) (rgA_0_on b ds n i (IntKind.i64.wrap (n + i)) (modF (IntKind.i64.wrap (n + i)) (2 * (svZ b i).e + 1))) ?_ ⟨rfl, rfl⟩
    repeat (first | exact trivial | refine ⟨by first | exact hlt | exact hi64 | exact hm | exact hd | exact hs | exact j1 | exact j2 | exact j3 | exact j4 | rfl | omega | (simp; omega), ?_⟩)
  | cons y r =>
    have hz : (y :: r ++ [rgY ds n i (svZ b i)]).length * (32 + 1) ≤ 140737488355328 := by simp only [List.length_append, List.length_cons, List.length_nil] at hsz ⊢; omega
    refine WpL.path (G 55) (rgB_0_on b ds n i y r (IntKind.i64.wrap (n + i)) (modF (IntKind.i64.wrap (n + i)) (2 * (svZ b i).e + 1))) ?_ ⟨rfl, rfl⟩
    repeat (first | exact trivial | refine ⟨by first | exact hlt | exact hi64 | exact hm | exact hd | exact hs | exact j1 | exact j2 | exact j3 | exact j4 | exact hz | rfl | omega, ?_⟩)
theorem rightly_con {b : Book} (hV : Valid b) {T : Nat → Int} {x : W4} (h : Feas0 b T x) (n : Int) : Contract Proofs.Tryd.prog glob 36 [bookD b, .sl false (.list .int) (daysF b T x), .int .i64 n] (bookD (rightlyF b (daysF b T x) n)) := by
  have h8 := hV.svs
  have hdd := hV.days
  have hloop : LoopT Proofs.Tryd.prog glob 55 (Code.at [1, 1, 1, 0, 1] (body Proofs.Tryd.f36)) (rtlS b (daysF b T x) n 0 []) .normal (rtlS b (daysF b T x) n b.svs.length (rgTo b (daysF b T x) n b.svs.length)) := by
    refine LoopT.count (tt := lookN types) (id := 0) (c := Code.at [1, 1, 1, 0, 1, 0, 0] (body Proofs.Tryd.f36)) (by kernel_rfl) b.svs.length (fun i => rtlS b (daysF b T x) n i (rgTo b (daysF b T x) n i)) (fun i hi => ?_) ?_
    · have := rgTo_len b (daysF b T x) n i
      obtain ⟨h1, h2, h3, h4⟩ := survey_iff.1 (hV.sv _ (svZ_mem hi))
      have hnow := days_now (b := b) (T := T) (x := x) (d := (svZ b i).d) (k := (svZ b i).s.toNat) h2 (by omega)
      have h200 := now_200 hV h (k := (svZ b i).s.toNat) (d := (svZ b i).d) (by omega) h2
      have hlen : ((daysF b T x).length : Int) = b.days + 1 := by simp [daysF]; omega
      have hrow : (((daysF b T x).getD (svZ b i).d.toNat []).length : Int) = b.secs.length := by rw [daysF_get (by omega), rowF_len]
      exact rtl_round b _ n i _ hi (by omega) (by omega) (by omega) (by omega) (by omega) (by rw [hnow]; omega)
    · cases rgTo b (daysF b T x) n b.svs.length with
      | nil => exact WpL.path (G 55) (rgA_0_end b (daysF b T x) n b.svs.length) ⟨decide_eq_false (Int.lt_irrefl _), trivial⟩ ⟨.inl ⟨rfl, rfl⟩, rfl⟩
      | cons y r => exact WpL.path (G 55) (rgB_0_end b (daysF b T x) n b.svs.length y r) ⟨decide_eq_false (Int.lt_irrefl _), trivial⟩ ⟨.inl ⟨rfl, rfl⟩, rfl⟩
  unfold rightlyF
  cases hw : rgTo b (daysF b T x) n b.svs.length with
  | nil =>
    rw [hw] at hloop
    refine (contract_of_path (G 55) rgA_fn (rgA_none b (daysF b T x) n b.svs.length) ?_).toWeak
    repeat (first | exact trivial | refine ⟨by first | exact hloop | rfl | omega, ?_⟩)
  | cons y r =>
    rw [hw] at hloop
    refine (contract_of_path (G 55) rgA_fn (rgA_some b (daysF b T x) n b.svs.length y r) ?_).toWeak
    repeat (first | exact trivial | refine ⟨by first | exact hloop | rfl | omega, ?_⟩)
end Go.Di

namespace Go.Di

/-! ### How thick sections are, day by day: the walk -/
def wn0S (b : Book) (th ws : List Int) (i : Nat) : List Int → List (Key × Val)
  | [] => wnA_S0 b th ws
  | y :: r => wnB_S0 b th ws i y r
theorem wn0_round (b : Book) (th ws : List Int) (i : Nat) (o : List Int) (ho : o.length = i) (hi : i < th.length) (h4 : th.length ≤ 1000) :
    WpL Proofs.Tryd.prog (mk Proofs.Tryd.prog (lookN types) glob 70) (Code.at [1, 1, 0, 1, 0, 0] (body Proofs.Tryd.f35)) (wn0S b th ws i o) fun e1 L1 => e1 = .normal ∧ L1 = wn0S b th ws (i + 1) (o ++ [(i : Int)]) := by
  have hlt : decide ((i : Int) < th.length) = true := decide_eq_true (by omega)
  have hi64 : inI64 ((i : Int) + 1) := by simp only [inI64]; omega
  cases o with
  | nil =>
    have : i = 0 := by simpa using ho.symm
    subst this
    refine WpL.path (G 70) (wnA_0_on b th ws) ?_ ⟨rfl, rfl⟩
    repeat (first | exact trivial | refine ⟨by first | exact hlt | exact hi64 | rfl | omega | (simp; omega), ?_⟩)
  | cons y r =>
    have hz : (y :: r ++ [(i : Int)]).length * (8 + 1) ≤ 140737488355328 := by simp only [List.length_append, List.length_cons, List.length_nil] at ho ⊢; omega
    refine WpL.path (G 70) (wnB_0_on b th ws i y r) ?_ ⟨rfl, rfl⟩
    repeat (first | exact trivial | refine ⟨by first | exact hlt | exact hi64 | exact hz | rfl | omega, ?_⟩)
theorem wn0_loop (b : Book) (th ws : List Int) (h4 : th.length ≤ 1000) {y : Int} {r : List Int} (hy : tol (fun k => (k : Int)) th.length = y :: r) :
    LoopT Proofs.Tryd.prog glob 70 (Code.at [1, 1, 0, 1] (body Proofs.Tryd.f35)) (wnA_S0 b th ws) .normal (wnB_S0 b th ws th.length y r) := by
  refine LoopT.count (tt := lookN types) (id := 0) (c := Code.at [1, 1, 0, 1, 0, 0] (body Proofs.Tryd.f35)) (by kernel_rfl) th.length (fun i => wn0S b th ws i (tol (fun k => (k : Int)) i)) (fun i hi => wn0_round b th ws i _ (tol_len _ _) hi h4) ?_
  show WpL _ _ _ (wn0S b th ws th.length (tol (fun k => (k : Int)) th.length)) _
  rw [hy]
  exact WpL.path (G 70) (wnB_0_end b th ws th.length y r) ⟨decide_eq_false (Int.lt_irrefl _), trivial⟩ ⟨.inl ⟨rfl, rfl⟩, rfl⟩
/-- What the places' loop needs. -/
structure Wear1 (b : Book) (f : Bool) (th ws ls zs : List Int) : Prop where
  hls : ls = liesL b f
  hth : th.length = b.secs.length
  hws : ws.length = b.secs.length
  hzs : zs.length = b.secs.length
  n4 : b.secs.length ≤ 4
  zin : ∀ k, k < b.secs.length → -1000 ≤ zs.getD k 0 ∧ zs.getD k 0 ≤ 1000
  win : ∀ k, k < b.secs.length → 0 ≤ ws.getD k 0 ∧ ws.getD k 0 ≤ 1000
structure WearAt (th ws ls zs : List Int) (p : Nat) : Prop where
  lt : decide ((p : Int) < ls.length) = true
  i1 : 0 ≤ (p : Int) ∧ (p : Int) < ls.length
  i2 : 0 ≤ ls.getD p 0 ∧ ls.getD p 0 < th.length
  i3 : (ls.getD p 0).toNat * 1 + 1 ≤ (wearIn zs ls ws p).length
  i4 : 0 ≤ (p : Int) ∧ (p : Int) < ws.length
  i5 : inI64 ((wearIn zs ls ws p).getD ((ls.getD p 0).toNat * 1) 0 - ws.getD p 0)
  i6 : (ls.getD p 0).toNat * 1 < (wearIn zs ls ws p).length
  i7 : inI64 ((p : Int) + 1)
theorem Wear1.at {b : Book} {f : Bool} {th ws ls zs : List Int} (h : Wear1 b f th ws ls zs) {p : Nat} (hp : p < b.secs.length) : WearAt th ws ls zs p := by
  have hll : ls.length = b.secs.length := by rw [h.hls, liesL_len]
  have hg : ls.getD p 0 = (piF b.secs.length f p : Nat) := by rw [h.hls, liesL_get hp]
  have hpi := piF_pi (f := f) (n := b.secs.length) (k := p) hp
  have hwl := wearIn_len zs ls ws p
  have h1 := h.hth
  have h2 := h.hws
  have h3 := h.hzs
  have h4 := h.n4
  have hv : (wearIn zs ls ws p).getD (piF b.secs.length f p) 0 = zs.getD (piF b.secs.length f p) 0 := by
    have := wearIn_get (f := f) (ws := ws) h.hzs p (by omega) (piF b.secs.length f p) hpi.2
    rw [← h.hls, hpi.1, if_neg (by omega)] at this
    omega
  have hz := h.zin _ hpi.2
  have hw := h.win _ hp
  refine ⟨decide_eq_true (by omega), by omega, by omega, by rw [hg]; omega, by omega, ?_, by rw [hg]; omega, by simp only [inI64]; omega⟩
  rw [hg, Nat.mul_one, Int.toNat_natCast, hv]
  simp only [inI64]
  omega
theorem wnB_in {b : Book} {f : Bool} {th ws zs : List Int} {y : Int} {r : List Int} (h : Wear1 b f th ws (y :: r) zs) (d : Nat) (rs : List (List Int)) :
    LoopT Proofs.Tryd.prog glob 70 (Code.at [1, 1, 1, 1, 0, 1, 0, 0, 1, 0, 0, 1, 0, 1] (body Proofs.Tryd.f35)) (wnB_S4 b th ws y r d zs rs 0) .normal (wnB_S4 b th ws y r d (wearIn zs (y :: r) ws b.secs.length) rs b.secs.length) := by
  refine LoopT.count (tt := lookN types) (id := 4) (c := Code.at [1, 1, 1, 1, 0, 1, 0, 0, 1, 0, 0, 1, 0, 1, 0, 0] (body Proofs.Tryd.f35)) (by kernel_rfl) b.secs.length (fun p => wnB_S4 b th ws y r d (wearIn zs (y :: r) ws p) rs p) (fun p hp => ?_) ?_
  · obtain ⟨k0, k1, k2, k3, k4, k5, k6, k7⟩ := h.at hp
    refine WpL.path (G 70) (wnB_4_on b th ws y r d (wearIn zs (y :: r) ws p) rs p) ?_ ⟨rfl, rfl⟩
    repeat (first | exact trivial | refine ⟨by first | exact k0 | exact k1 | exact k2 | exact k3 | exact k4 | exact k5 | exact k6 | exact k7 | rfl | omega, ?_⟩)
  · have hll : (y :: r).length = b.secs.length := by rw [h.hls, liesL_len]
    exact WpL.path (G 70) (wnB_4_end b th ws y r d (wearIn zs (y :: r) ws b.secs.length) rs b.secs.length) ⟨rfl, decide_eq_false (by omega), trivial⟩ ⟨.inl ⟨rfl, rfl⟩, rfl⟩
theorem wnC_in {b : Book} {f : Bool} {th ws zs : List Int} {y : Int} {r : List Int} (h : Wear1 b f th ws (y :: r) zs) (d : Nat) (rs : List (List Int)) :
    LoopT Proofs.Tryd.prog glob 70 (Code.at [1, 1, 1, 1, 0, 1, 0, 0, 1, 0, 0, 1, 0, 1] (body Proofs.Tryd.f35)) (wnC_S4 b th ws y r d zs rs 0) .normal (wnC_S4 b th ws y r d (wearIn zs (y :: r) ws b.secs.length) rs b.secs.length) := by
  refine LoopT.count (tt := lookN types) (id := 4) (c := Code.at [1, 1, 1, 1, 0, 1, 0, 0, 1, 0, 0, 1, 0, 1, 0, 0] (body Proofs.Tryd.f35)) (by kernel_rfl) b.secs.length (fun p => wnC_S4 b th ws y r d (wearIn zs (y :: r) ws p) rs p) (fun p hp => ?_) ?_
  · obtain ⟨k0, k1, k2, k3, k4, k5, k6, k7⟩ := h.at hp
    refine WpL.path (G 70) (wnC_4_on b th ws y r d (wearIn zs (y :: r) ws p) rs p) ?_ ⟨rfl, rfl⟩
    repeat (first | exact trivial | refine ⟨by first | exact k0 | exact k1 | exact k2 | exact k3 | exact k4 | exact k5 | exact k6 | exact k7 | rfl | omega, ?_⟩)
  · have hll : (y :: r).length = b.secs.length := by rw [h.hls, liesL_len]
    exact WpL.path (G 70) (wnC_4_end b th ws y r d (wearIn zs (y :: r) ws b.secs.length) rs b.secs.length) ⟨rfl, decide_eq_false (by omega), trivial⟩ ⟨.inl ⟨rfl, rfl⟩, rfl⟩
theorem wnD_in {b : Book} {f : Bool} {th ws zs : List Int} {y : Int} {r : List Int} (y0 : Int) (r0 : List Int) (h : Wear1 b f th ws (y :: r) zs) (d : Nat) (rs : List (List Int)) :
    LoopT Proofs.Tryd.prog glob 70 (Code.at [1, 1, 1, 1, 0, 1, 0, 0, 1, 0, 0, 1, 0, 1] (body Proofs.Tryd.f35)) (wnD_S4 b th ws y r y0 r0 d zs rs 0) .normal (wnD_S4 b th ws y r y0 r0 d (wearIn zs (y :: r) ws b.secs.length) rs b.secs.length) := by
  refine LoopT.count (tt := lookN types) (id := 4) (c := Code.at [1, 1, 1, 1, 0, 1, 0, 0, 1, 0, 0, 1, 0, 1, 0, 0] (body Proofs.Tryd.f35)) (by kernel_rfl) b.secs.length (fun p => wnD_S4 b th ws y r y0 r0 d (wearIn zs (y :: r) ws p) rs p) (fun p hp => ?_) ?_
  · obtain ⟨k0, k1, k2, k3, k4, k5, k6, k7⟩ := h.at hp
    refine WpL.path (G 70) (wnD_4_on b th ws y r y0 r0 d (wearIn zs (y :: r) ws p) rs p) ?_ ⟨rfl, rfl⟩
    repeat (first | exact trivial | refine ⟨by first | exact k0 | exact k1 | exact k2 | exact k3 | exact k4 | exact k5 | exact k6 | exact k7 | rfl | omega, ?_⟩)
  · have hll : (y :: r).length = b.secs.length := by rw [h.hls, liesL_len]
    exact WpL.path (G 70) (wnD_4_end b th ws y r y0 r0 d (wearIn zs (y :: r) ws b.secs.length) rs b.secs.length) ⟨decide_eq_false (by omega), trivial⟩ ⟨.inl ⟨rfl, rfl⟩, rfl⟩
/-! ### Day after day -/
def rowsF (b : Book) (T : Nat → Int) (x : W4) (m : Nat) : List (List Int) := (List.range m).map (rowF b T x)
theorem rowsF_next (b : Book) (T : Nat → Int) (x : W4) (m : Nat) : rowsF b T x (m + 1) = rowsF b T x m ++ [rowF b T x m] := by
  unfold rowsF
  rw [List.range_succ, List.map_append]
  rfl
theorem rowsF_len (b : Book) (T : Nat → Int) (x : W4) (m : Nat) : (rowsF b T x m).length = m := by simp [rowsF]
def hist (b : Book) (d : Nat) : Bool := (List.range d).any fun e => decide ((e : Int) ∈ b.turns)
theorem hist_next (b : Book) (d : Nat) : hist b (d + 1) = (hist b d || decide ((d : Int) ∈ b.turns)) := by
  unfold hist
  rw [List.range_succ, List.any_append]
  simp
theorem hist_false {b : Book} (hV : Valid b) : ∀ d : Nat, hist b d = false → liesP b d = false
  | 0, _ => rfl
  | d + 1, h => by
    rw [hist_next, Bool.or_eq_false_iff] at h
    show flips b.turns d = false
    rw [lies_next hV d, hist_false hV d h.1, h.2]
    rfl
def kindF (b : Book) (d : Nat) : Nat := if d = 0 then 0 else if hist b d = true then 2 else 1
def wnV (b : Book) (th ws : List Int) (k : Nat) (ls : List Int) (y0 : Int) (r0 : List Int) (d : Nat) (zs : List Int) (rs : List (List Int)) : List (Key × Val) := match ls with
  | y :: r => match k with
    | 0 => wnB_S2 b th ws y r d zs rs
    | 1 => wnC_S2 b th ws y r d zs rs
    | _ => wnD_S2 b th ws y r y0 r0 d zs rs
  | [] => []
theorem liesL_cons {b : Book} (h : 0 < b.secs.length) (f : Bool) : ∃ y r, liesL b f = y :: r := by
  cases hq : liesL b f with
  | nil =>
    have := liesL_len b f
    rw [hq] at this
    simp at this
    omega
  | cons y r => exact ⟨y, r, rfl⟩
theorem wn_round {b : Book} (hV : Valid b) {T : Nat → Int} {x : W4} (h0 : Feas0 b T x) {th ws : List Int} (hth : th.length = b.secs.length) (hwl : ws.length = b.secs.length) (hws : ∀ p, p < b.secs.length → ws.getD p 0 = x.at p) {y0 : Int} {r0 : List Int} (h00 : liesL b false = y0 :: r0) (d : Nat) (hd : (d : Int) < b.days) :
    WpL Proofs.Tryd.prog (mk Proofs.Tryd.prog (lookN types) glob 70) (Code.at [1, 1, 1, 1, 0, 1, 0, 0] (body Proofs.Tryd.f35)) (wnV b th ws (kindF b d) (liesL b (liesP b d)) y0 r0 d (rowF b T x d) (rowsF b T x (d + 1))) fun e1 L1 => e1 = .normal ∧ L1 = wnV b th ws (kindF b (d + 1)) (liesL b (liesP b (d + 1))) y0 r0 (d + 1) (rowF b T x (d + 1)) (rowsF b T x (d + 1 + 1)) := by
  have h4 := hV.secs
  have hdd := hV.days
  have ht := hV.turns
  have hat := atB_con b.turns d (by omega)
  have hge := indexF_ge (d : Int) b.turns 0
  have hlt : decide ((d : Int) < b.days) = true := decide_eq_true hd
  have hi64 : inI64 ((d : Int) + 1) := by simp only [inI64]; omega
  have hnext := row_next hV T x ws hws d
  have hfl := lies_next hV d
  have hzl := rowF_len b T x (d + 1)
  have hrl := rowsF_len b T x (d + 1)
  have hw1 : ∀ f : Bool, Wear1 b f th ws (liesL b f) (rowF b T x d) := fun f => ⟨rfl, hth, hwl, rowF_len b T x d, h4.2, fun k hk => by
    have := now_200 hV h0 hk (d := (d : Int)) (by omega)
    rw [rowF_get hk]
    omega, fun k hk => by
    rw [hws k hk]
    have := h0.wear k hk
    have := (hV.sec _ (getD_mem b.secs k sec0 hk)).w
    omega⟩
  have z1 : th.length = (rowF b T x (d + 1)).length ∧ 0 < th.length ∧ th.length * (8 + 1) ≤ 140737488355328 := by omega
  have z2 : (rowsF b T x (d + 1) ++ [rowF b T x (d + 1)]).length * (24 + 1) ≤ 140737488355328 := by rw [List.length_append, hrl]; simp; omega
  have z3 : (rowF b T x (d + 1)).length = (rowF b T x (d + 1)).length := rfl
  rw [rowsF_next b T x (d + 1)]
  have hl1 : liesP b (d + 1) = flips b.turns d := rfl
  rw [hl1]
  by_cases hm : (d : Int) ∈ b.turns
  · have hdm : decide (indexF (d : Int) b.turns 0 ≥ 0) = true := decide_eq_true (hge.2 hm)
    have hd0 : d ≠ 0 := fun e => by
      have := (hV.up.mem hm).1
      omega
    have hk' : kindF b (d + 1) = 2 := by
      unfold kindF
      rw [if_neg (by omega), if_pos (by rw [hist_next, decide_eq_true hm]; simp)]
    have hfl' : flips b.turns d = !liesP b d := by rw [hfl, decide_eq_true hm]; simp
    obtain ⟨y, r, hyr⟩ := liesL_cons (b := b) (by omega) (liesP b d)
    obtain ⟨y2, r2, hyr2⟩ := liesL_cons (b := b) (by omega) (flips b.turns d)
    have hrev := reversed_con (y :: r) (by simp) (by rw [← hyr, liesL_len]; omega)
    rw [← hyr, liesL_rev, ← hfl', hyr2, hyr] at hrev
    have hin := hw1 (flips b.turns d)
    rw [hyr2] at hin hnext
    have hloop := wnD_in y0 r0 hin d (rowsF b T x (d + 1))
    rw [hnext] at hloop
    rw [hk', hyr, hyr2]
    by_cases hh : hist b d = true
    · have hk : kindF b d = 2 := by unfold kindF; rw [if_neg hd0, if_pos hh]
      rw [hk]
      refine WpL.path (G 70) (wnD_2_turn b th ws y r y0 r0 d (rowF b T x d) (rowsF b T x (d + 1)) (indexF (d : Int) b.turns 0) y2 r2 (rowF b T x (d + 1)) b.secs.length) ?_ ⟨rfl, rfl⟩
      repeat (first | exact trivial | refine ⟨by first | exact hlt | exact hat | exact hdm | exact hrev | exact hloop | exact hi64 | exact z1 | exact z2 | exact z3 | rfl | omega, ?_⟩)
    · have hk : kindF b d = 1 := by unfold kindF; rw [if_neg hd0, if_neg hh]
      have hlf := hist_false hV d (Bool.eq_false_iff.2 hh)
      rw [hlf, h00] at hyr
      injection hyr with ey er
      subst ey er
      rw [hk]
      refine WpL.path (G 70) (wnC_2_turn b th ws y0 r0 d (rowF b T x d) (rowsF b T x (d + 1)) (indexF (d : Int) b.turns 0) y2 r2 (rowF b T x (d + 1)) b.secs.length) ?_ ⟨rfl, rfl⟩
      repeat (first | exact trivial | refine ⟨by first | exact hlt | exact hat | exact hdm | exact hrev | exact hloop | exact hi64 | exact z1 | exact z2 | exact z3 | rfl | omega, ?_⟩)
  · have hdm : decide (indexF (d : Int) b.turns 0 ≥ 0) = false := decide_eq_false fun h => hm (hge.1 h)
    have hfl' : flips b.turns d = liesP b d := by rw [hfl, decide_eq_false hm]; simp
    rw [hfl'] at hnext ⊢
    obtain ⟨y, r, hyr⟩ := liesL_cons (b := b) (by omega) (liesP b d)
    have hin := hw1 (liesP b d)
    rw [hyr] at hin hnext
    rw [hyr]
    by_cases hd0 : d = 0
    · have hk : kindF b d = 0 := by unfold kindF; rw [if_pos hd0]
      have hh : hist b d = false := by rw [hd0]; rfl
      have hk' : kindF b (d + 1) = 1 := by
        unfold kindF
        rw [if_neg (by omega), if_neg (by rw [hist_next, hh, decide_eq_false hm]; simp)]
      have hloop := wnB_in hin d (rowsF b T x (d + 1))
      rw [hnext] at hloop
      rw [hk, hk']
      refine WpL.path (G 70) (wnB_2_no b th ws y r d (rowF b T x d) (rowsF b T x (d + 1)) (indexF (d : Int) b.turns 0) (rowF b T x (d + 1)) b.secs.length) ?_ ⟨rfl, rfl⟩
      repeat (first | exact trivial | refine ⟨by first | exact hlt | exact hat | exact hdm | exact hloop | exact hi64 | exact z1 | exact z2 | exact z3 | rfl | omega, ?_⟩)
    · by_cases hh : hist b d = true
      · have hk : kindF b d = 2 := by unfold kindF; rw [if_neg hd0, if_pos hh]
        have hk' : kindF b (d + 1) = 2 := by
          unfold kindF
          rw [if_neg (by omega), if_pos (by rw [hist_next, hh]; rfl)]
        have hloop := wnD_in y0 r0 hin d (rowsF b T x (d + 1))
        rw [hnext] at hloop
        rw [hk, hk']
        refine WpL.path (G 70) (wnD_2_no b th ws y r y0 r0 d (rowF b T x d) (rowsF b T x (d + 1)) (indexF (d : Int) b.turns 0) (rowF b T x (d + 1)) b.secs.length) ?_ ⟨rfl, rfl⟩
        repeat (first | exact trivial | refine ⟨by first | exact hlt | exact hat | exact hdm | exact hloop | exact hi64 | exact z1 | exact z2 | exact z3 | rfl | omega, ?_⟩)
      · have hk : kindF b d = 1 := by unfold kindF; rw [if_neg hd0, if_neg hh]
        have hk' : kindF b (d + 1) = 1 := by
          unfold kindF
          rw [if_neg (by omega), if_neg (by rw [hist_next, decide_eq_false hm, Bool.or_false]; exact hh)]
        have hloop := wnC_in hin d (rowsF b T x (d + 1))
        rw [hnext] at hloop
        rw [hk, hk']
        refine WpL.path (G 70) (wnC_2_no b th ws y r d (rowF b T x d) (rowsF b T x (d + 1)) (indexF (d : Int) b.turns 0) (rowF b T x (d + 1)) b.secs.length) ?_ ⟨rfl, rfl⟩
        repeat (first | exact trivial | refine ⟨by first | exact hlt | exact hat | exact hdm | exact hloop | exact hi64 | exact z1 | exact z2 | exact z3 | rfl | omega, ?_⟩)
theorem wornl_con {b : Book} (hV : Valid b) {T : Nat → Int} {x : W4} (h0 : Feas0 b T x) (ws : List Int) (hwl : ws.length = b.secs.length) (hws : ∀ p, p < b.secs.length → ws.getD p 0 = x.at p) :
    Contract Proofs.Tryd.prog glob 35 [bookD b, .sl false .int (rowF b T x 0), .sl false .int ws] (.sl false (.list .int) (daysF b T x)) := by
  have h4 := hV.secs
  have hdd := hV.days
  have hth := rowF_len b T x 0
  have hid : tol (fun k => (k : Int)) (rowF b T x 0).length = liesL b (liesP b 0) := by rw [tol_eq, hth]; rfl
  obtain ⟨y, r, hyr⟩ := liesL_cons (b := b) (by omega) (liesP b 0)
  have hl0 := wn0_loop b (rowF b T x 0) ws (by omega) (y := y) (r := r) (by rw [hid, hyr])
  obtain ⟨N, hN⟩ : ∃ N : Nat, (N : Int) = b.days := ⟨b.days.toNat, by omega⟩
  obtain ⟨y2, r2, hyr2⟩ := liesL_cons (b := b) (by omega) (liesP b N)
  have hrs : daysF b T x = rowsF b T x (N + 1) := by unfold daysF rowsF; rw [show b.days.toNat = N by omega]
  have hend : decide ((N : Int) < b.days) = false := decide_eq_false (by omega)
  have z1 : 0 < (rowF b T x 0).length ∧ (rowF b T x 0).length * (8 + 1) ≤ 140737488355328 := by omega
  have z2 : (rowF b T x 0).length = (rowF b T x 0).length ∧ 0 < (rowF b T x 0).length ∧ (rowF b T x 0).length * (8 + 1) ≤ 140737488355328 := by omega
  have hrl := rowsF_len b T x (N + 1)
  have hcount : ∀ L', WpL Proofs.Tryd.prog (mk Proofs.Tryd.prog (lookN types) glob 70) (Code.at [1, 1, 1, 1, 0, 1, 0, 0] (body Proofs.Tryd.f35)) (wnV b (rowF b T x 0) ws (kindF b N) (liesL b (liesP b N)) y r N (rowF b T x N) (rowsF b T x (N + 1))) (fun e1 L1 => (e1 = .exit 2 ∧ Ex.normal = .normal ∨ e1 = .ret ∧ Ex.normal = .ret) ∧ L1 = L') →
      LoopT Proofs.Tryd.prog glob 70 (Code.at [1, 1, 1, 1, 0, 1] (body Proofs.Tryd.f35)) (wnB_S2 b (rowF b T x 0) ws y r 0 (rowF b T x 0) [rowF b T x 0]) .normal L' := fun L' hend' => by
    have := LoopT.count (tt := lookN types) (id := 2) (b := Code.at [1, 1, 1, 1, 0, 1] (body Proofs.Tryd.f35)) (c := Code.at [1, 1, 1, 1, 0, 1, 0, 0] (body Proofs.Tryd.f35)) (by kernel_rfl) N (fun d => wnV b (rowF b T x 0) ws (kindF b d) (liesL b (liesP b d)) y r d (rowF b T x d) (rowsF b T x (d + 1))) (e := .normal) (L' := L') (fun d hd => wn_round hV h0 hth hwl hws (show liesL b false = y :: r from hyr) d (by omega)) hend'
    have e : wnV b (rowF b T x 0) ws (kindF b 0) (liesL b (liesP b 0)) y r 0 (rowF b T x 0) (rowsF b T x (0 + 1)) = wnB_S2 b (rowF b T x 0) ws y r 0 (rowF b T x 0) [rowF b T x 0] := by rw [hyr]; rfl
    rw [← e]
    exact this
  rw [hrs]
  by_cases hh : hist b N = true
  · have hk : kindF b N = 2 := by unfold kindF; rw [if_neg (by omega), if_pos hh]
    have hloop := hcount (wnD_S2 b (rowF b T x 0) ws y2 r2 y r N (rowF b T x N) (rowsF b T x (N + 1))) (by
      rw [hk, hyr2]
      exact WpL.path (G 70) (wnD_2_end b (rowF b T x 0) ws y2 r2 y r N (rowF b T x N) (rowsF b T x (N + 1))) ⟨hend, trivial⟩ ⟨.inl ⟨rfl, rfl⟩, rfl⟩)
    refine contract_of_path (G 70) wnB_fn (wnB_finD b (rowF b T x 0) ws (rowF b T x 0).length y r y2 r2 y r N (rowF b T x N) (rowsF b T x (N + 1))) ?_
    repeat (first | exact trivial | refine ⟨by first | exact hl0 | exact hloop | exact z1 | exact z2 | rfl | omega, ?_⟩)
  · have hk : kindF b N = 1 := by unfold kindF; rw [if_neg (by omega), if_neg hh]
    have hloop := hcount (wnC_S2 b (rowF b T x 0) ws y2 r2 N (rowF b T x N) (rowsF b T x (N + 1))) (by
      rw [hk, hyr2]
      exact WpL.path (G 70) (wnC_2_end b (rowF b T x 0) ws y2 r2 N (rowF b T x N) (rowsF b T x (N + 1))) ⟨hend, trivial⟩ ⟨.inl ⟨rfl, rfl⟩, rfl⟩)
    refine contract_of_path (G 70) wnB_fn (wnB_finC b (rowF b T x 0) ws (rowF b T x 0).length y r y2 r2 N (rowF b T x N) (rowsF b T x (N + 1))) ?_
    repeat (first | exact trivial | refine ⟨by first | exact hl0 | exact hloop | exact z1 | exact z2 | rfl | omega, ?_⟩)
end Go.Di

namespace Go.Di

/-! ### The law ChainTrue -/
theorem tol_row (b : Book) (T : Nat → Int) (x : W4) : tol T b.secs.length = rowF b T x 0 := by
  rw [tol_eq]
  unfold rowF
  refine List.map_congr_left fun k _ => ?_
  show T k = T k - wornF _ _ _ _ _ _ _ (((0 : Nat) : Int)).toNat
  simp [wornF]
theorem ctrue_con {b : Book} (hs : Small b) (bits : List Int) (hl : bits.length ≤ 9223372036854775807) (n0 n1 : Int) : Contract Proofs.Tryd.prog glob 6 [bookD b, .sl false .int bits, .agg [.int .i64 n0, .int .i64 n1]] (.bool true) := by
  have hso := sound_con hs
  have hfg := forged_con
  cases hv : validF b with
  | false =>
    rw [hv] at hso
    refine contract_of_path (G 197) ctrue_fn (ctrue_bad b bits n0 n1) ?_
    repeat (first | exact trivial | refine ⟨by first | exact hso | exact hfg | rfl, ?_⟩)
  | true =>
    rw [hv] at hso
    have hV := valid_iff.1 hv
    have h4 := hV.secs
    have h8 := hV.svs
    have hdd := hV.days
    have h0 := tr_feas0 hV bits
    have hxat := trX_at h4.2 bits
    have c1 := truly_con hV bits hl
    have hws : ∀ p, p < b.secs.length → (tol (trW b bits) b.secs.length).getD p 0 = (trX b bits).at p := fun p hp => by
      rw [hxat, if_pos hp, tol_eq, range_getD hp]
    have c2 := wornl_con hV h0 (tol (trW b bits) b.secs.length) (tol_len _ _) hws
    rw [← tol_row b (trT b bits) (trX b bits)] at c2
    have c3 := rightly_con hV h0 n0
    have hVX := rightly_valid hV h0 n0
    have hF := rightly_feas hV h0 n0
    have hlen : ((daysF b (trT b bits) (trX b bits)).length : Int) = b.days + 1 := by simp [daysF]; omega
    have hnow : ∀ (d : Int) (k : Nat), 0 ≤ d ∧ d ≤ b.days → k < b.secs.length → ((daysF b (trT b bits) (trX b bits)).getD d.toNat []).getD k 0 = trT b bits k - wornX b b.turns (trX b bits) k d := fun d k hd hk => days_now hd hk
    have hrow : ∀ d : Int, 0 ≤ d ∧ d ≤ b.days → (((daysF b (trT b bits) (trX b bits)).getD d.toNat []).length : Int) = b.secs.length := fun d hd => by rw [daysF_get (by omega), rowF_len]
    generalize tol (trT b bits) b.secs.length = th at c1 c2
    have hwl := tol_len (trW b bits) b.secs.length
    generalize tol (trW b bits) b.secs.length = ws at c1 c2 hws hwl
    have hX : ∃ X, X = rightlyF b (daysF b (trT b bits) (trX b bits)) n0 ∧ X.secs = b.secs ∧ X.turns = b.turns ∧ X.days = b.days ∧ X.rule = b.rule ∧ X.svs.length = b.svs.length := ⟨_, rfl, rfl, rfl, rfl, rfl, rgTo_len _ _ _ _⟩
    obtain ⟨X, hXe, x1, x2, x3, x4, x5⟩ := hX
    rw [← hXe] at c3 hVX hF
    generalize daysF b (trT b bits) (trX b bits) = ds at c2 c3 hlen hnow hrow
    have hsX : Small X := ⟨by rw [x1]; exact hs.secs, by rw [x2]; exact hs.turns, by rw [x5]; exact hs.svs⟩
    have hvX : validF X = true := valid_iff.2 hVX
    have hne : truthsF X [] ≠ [] := (can_iff hVX.base []).2 ⟨_, _, hF⟩
    have hcX := can_true hne
    have heX := err_can hvX hcX
    have c4 := right_con' hsX
    unfold checkF at c4
    rw [hvX, hcX, if_pos rfl, Bool.and_self] at c4
    have c5 := wrong_con hsX
    unfold wrongAF checkF at c5
    rw [hvX, if_pos rfl, if_pos rfl, show (wrongGo X).1 = [] from (wrong_spec hVX).2.2.1.2 hne] at c5
    have hdn := modF_in (n := n1) (m := b.days + 1) (by omega)
    have m1 := modB_con n1 (b.days + 1) (by omega)
    obtain ⟨d, hd⟩ : ∃ d : Nat, (d : Int) = modF n1 (b.days + 1) := ⟨(modF n1 (b.days + 1)).toNat, by omega⟩
    rw [← hd] at hdn m1
    have hdi : 0 ≤ (d : Int) ∧ (d : Int) ≤ b.days := by omega
    have hi64 : inI64 (b.days + 1) := by simp only [inI64]; omega
    have hisd : isDayF X d = true := by simp only [isDayF, within_iff]; omega
    have c6 := cutA_con hsX d
    unfold cutAF at c6
    rw [hisd, heX, if_pos rfl] at c6
    have hcm := cutGo_mem X (truthsF X []) d X.secs.length
    have hcl := cutGo_len X (truthsF X []) d X.secs.length
    have hts := truths_ok hVX []
    generalize hcut : cutGo X (truthsF X []) d X.secs.length = cut at c6 hcm hcl
    have hloop : LoopT Proofs.Tryd.prog glob 197 (Code.at [1, 1, 1, 1, 1, 1, 1, 1, 1, 1, 1, 0, 1] (body Proofs.Tryd.f6)) (ctrue_S0 b bits n0 n1 th ws cut ds X d 0) .normal (ctrue_S0 b bits n0 n1 th ws cut ds X d b.secs.length) := by
      refine LoopT.count (tt := lookN types) (id := 0) (c := Code.at [1, 1, 1, 1, 1, 1, 1, 1, 1, 1, 1, 0, 1, 0, 0] (body Proofs.Tryd.f6)) (by kernel_rfl) b.secs.length (fun i => ctrue_S0 b bits n0 n1 th ws cut ds X d i) (fun i hi => ?_) (WpL.path (G 197) (ctrue_0_end b bits n0 n1 th ws cut ds X d _) ⟨decide_eq_false (Int.lt_irrefl _), trivial⟩ ⟨.inl ⟨rfl, rfl⟩, rfl⟩)
      have hk : i < X.secs.length := by rw [x1]; exact hi
      have his : isSectionF X i = true := by simp only [isSectionF, within_iff]; rw [x1]; omega
      have a1 := thickA_con hsX i d
      unfold askE at a1
      rw [his, hisd, Bool.and_self, heX, show spanOr 0 (thickF X (truthsF X []) X.turns i d) = _ from if_pos rfl] at a1
      have a2 := wearA_con hsX i
      rw [his, heX, show spanOr 0 (toldF (wearAt i) (truthsF X [])) = _ from if_pos rfl] at a2
      have a3 := thinA_con hsX i
      have a4 := goneA_con hsX i
      unfold thinAF thinF at a3
      unfold goneAF goneF at a4
      rw [his, heX] at a3 a4
      have g1 := thick_in hVX.base hF X.turns i hk d
      have g2 := wear_in hVX.base hF i
      have hw1 : wornX X X.turns (trX b bits) i d = wornX b b.turns (trX b bits) i d := by unfold wornX; rw [x1, x2]
      rw [hw1, ← hnow d i hdi hi, Int.toNat_natCast] at g1
      rw [← hws i hi] at g2
      have hth := days_iff (b := X) (may_stays (b := X) hts hne X.turns i) hVX.days.1 (d := d) (by omega)
      have hgo := days_iff (b := X) (surely_stays (b := X) hts hne X.turns i) hVX.days.1 (d := d) (by omega)
      have hmay : mayF X (truthsF X []) X.turns i d = decide ((thickF X (truthsF X []) X.turns i d).lo < X.rule) := rfl
      have hsur : surelyF X (truthsF X []) X.turns i d = decide ((thickF X (truthsF X []) X.turns i d).hi < X.rule) := rfl
      rw [hmay, x4] at hth
      rw [hsur, x4] at hgo
      have hci : ((i : Int) ∈ cut) ↔ (thickF X (truthsF X []) X.turns i d).lo < b.rule := by
        rw [hcm, x4]
        exact ⟨fun h => h.2.2, fun h => ⟨by omega, by omega, h⟩⟩
      have b1 := containsB_con (thickF X (truthsF X []) X.turns i d) ((ds.getD d []).getD i 0)
      rw [show insideF ((ds.getD d []).getD i 0) (thickF X (truthsF X []) X.turns i d).lo (thickF X (truthsF X []) X.turns i d).hi = true by simp only [insideF, Bool.and_eq_true, decide_eq_true_eq]; omega] at b1
      have b2 := containsB_con (toldF (wearAt i) (truthsF X [])) (ws.getD i 0)
      rw [show insideF (ws.getD i 0) (toldF (wearAt i) (truthsF X [])).lo (toldF (wearAt i) (truthsF X [])).hi = true by simp only [insideF, Bool.and_eq_true, decide_eq_true_eq]; omega] at b2
      have hat := atB_con cut i (by rw [x1] at hcl; omega)
      have hge := indexF_ge (i : Int) cut 0
      have hlt : decide ((i : Int) < b.secs.length) = true := decide_eq_true (by omega)
      have j1 : inI64 ((i : Int) + 1) := by simp only [inI64]; omega
      have k1 : 0 ≤ (d : Int) ∧ (d : Int) < ds.length := by omega
      have k2 : 0 ≤ (i : Int) ∧ (i : Int) < (ds.getD d []).length := by
        have := hrow d hdi
        rw [Int.toNat_natCast] at this
        omega
      have k3 : 0 ≤ (i : Int) ∧ (i : Int) < ws.length := by omega
      generalize thickF X (truthsF X []) X.turns i d = s at a1 g1 hth hgo hci b1
      generalize toldF (wearAt i) (truthsF X []) = u at a2 g2 b2
      by_cases hnr : (ds.getD d []).getD i 0 < b.rule
      · have d1 : decide ((ds.getD d []).getD i 0 < b.rule) = true := decide_eq_true hnr
        have d2 : decide ((ds.getD d []).getD i 0 ≥ b.rule) = false := decide_eq_false (by omega)
        have hlo : s.lo < b.rule := by omega
        have d3 : decide (indexF (i : Int) cut 0 < 0) = false := decide_eq_false (by have := hge.2 (hci.2 hlo); omega)
        rcases hth with ⟨t1, t2⟩ | ⟨k, t0, t1, t2⟩
        · rw [decide_eq_true hlo] at t2; cases t2
        rw [t1] at a3
        have hkd := t2.1 (decide_eq_true hlo)
        have d4 : decide ((d : Int) < (k : Int)) = false := decide_eq_false (by omega)
        rcases hgo with ⟨e1, e2⟩ | ⟨k', e0, e1, e2⟩ <;> rw [e1] at a4
        · refine WpL.path (G 197) (ctrue_0_lo4 b bits n0 n1 th ws cut ds X d i s u k 0 (indexF (i : Int) cut 0)) ?_ ⟨rfl, rfl⟩
          repeat (first | exact trivial | refine ⟨by first | exact hlt | exact a1 | exact a2 | exact a3 | exact a4 | exact b1 | exact b2 | exact hat | exact d1 | exact d2 | exact d3 | exact d4 | exact j1 | exact k1 | exact k2 | exact k3 | rfl | omega, ?_⟩)
        · refine WpL.path (G 197) (ctrue_0_lo0 b bits n0 n1 th ws cut ds X d i s u k k' (indexF (i : Int) cut 0)) ?_ ⟨rfl, rfl⟩
          repeat (first | exact trivial | refine ⟨by first | exact hlt | exact a1 | exact a2 | exact a3 | exact a4 | exact b1 | exact b2 | exact hat | exact d1 | exact d2 | exact d3 | exact d4 | exact j1 | exact k1 | exact k2 | exact k3 | rfl | omega, ?_⟩)
      · have d1 : decide ((ds.getD d []).getD i 0 < b.rule) = false := decide_eq_false hnr
        have d2 : decide ((ds.getD d []).getD i 0 ≥ b.rule) = true := decide_eq_true (by omega)
        have hhi : ¬ s.hi < b.rule := by omega
        rcases hth with ⟨t1, t2⟩ | ⟨k, t0, t1, t2⟩ <;> rw [t1] at a3 <;> rcases hgo with ⟨e1, e2⟩ | ⟨k', e0, e1, e2⟩ <;> rw [e1] at a4
        · refine WpL.path (G 197) (ctrue_0_hi44 b bits n0 n1 th ws cut ds X d i s u 0 0 (indexF (i : Int) cut 0)) ?_ ⟨rfl, rfl⟩
          repeat (first | exact trivial | refine ⟨by first | exact hlt | exact a1 | exact a2 | exact a3 | exact a4 | exact b1 | exact b2 | exact hat | exact d1 | exact d2 | exact j1 | exact k1 | exact k2 | exact k3 | rfl | omega, ?_⟩)
        · have d3 : decide ((d : Int) ≥ (k' : Int)) = false := decide_eq_false fun h => by
            have := e2.2 (by omega)
            rw [decide_eq_true_eq] at this
            exact hhi this
          refine WpL.path (G 197) (ctrue_0_hi40 b bits n0 n1 th ws cut ds X d i s u 0 k' (indexF (i : Int) cut 0)) ?_ ⟨rfl, rfl⟩
          repeat (first | exact trivial | refine ⟨by first | exact hlt | exact a1 | exact a2 | exact a3 | exact a4 | exact b1 | exact b2 | exact hat | exact d1 | exact d2 | exact d3 | exact j1 | exact k1 | exact k2 | exact k3 | rfl | omega, ?_⟩)
        · refine WpL.path (G 197) (ctrue_0_hi04 b bits n0 n1 th ws cut ds X d i s u k 0 (indexF (i : Int) cut 0)) ?_ ⟨rfl, rfl⟩
          repeat (first | exact trivial | refine ⟨by first | exact hlt | exact a1 | exact a2 | exact a3 | exact a4 | exact b1 | exact b2 | exact hat | exact d1 | exact d2 | exact j1 | exact k1 | exact k2 | exact k3 | rfl | omega, ?_⟩)
        · have d3 : decide ((d : Int) ≥ (k' : Int)) = false := decide_eq_false fun h => by
            have := e2.2 (by omega)
            rw [decide_eq_true_eq] at this
            exact hhi this
          refine WpL.path (G 197) (ctrue_0_hi00 b bits n0 n1 th ws cut ds X d i s u k k' (indexF (i : Int) cut 0)) ?_ ⟨rfl, rfl⟩
          repeat (first | exact trivial | refine ⟨by first | exact hlt | exact a1 | exact a2 | exact a3 | exact a4 | exact b1 | exact b2 | exact hat | exact d1 | exact d2 | exact d3 | exact j1 | exact k1 | exact k2 | exact k3 | rfl | omega, ?_⟩)
    refine contract_of_path (G 197) ctrue_fn (ctrue_ok b bits n0 n1 th ws cut ds X d b.secs.length) ?_
    repeat (first | exact trivial | refine ⟨by first | exact hso | exact hfg | exact c1 | exact c2 | exact c3 | exact c4 | exact c5 | exact c6 | exact m1 | exact hloop | exact hi64 | rfl | omega, ?_⟩)
end Go.Di

