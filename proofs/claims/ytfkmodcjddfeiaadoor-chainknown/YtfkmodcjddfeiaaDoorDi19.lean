/- Part 19: an interpreter over plain data for this code, with the proof that it says what the model does, and the contracts of the functions. No condition. -/
import Derived.Test.YtfkmodcjddfeiaaDoorDi18
set_option linter.unusedVariables false
set_option linter.unusedSimpArgs false
namespace Go.Di

theorem whole_slice {α : Type} (l : List α) : List.drop (Int.toNat (0 : Int)) (List.take (Int.toNat ((Nat.cast : Nat → Int) l.length)) l) = l := by simp
theorem mx_le3 {a b c : Int} (h1 : a ≤ c) (h2 : b ≤ c) : mx a b ≤ c := by
  unfold mx
  split <;> assumption
/-! ### Cut -/
def cutGo (b : Book) (ts : List TrC) (d : Int) : Nat → List Int
  | 0 => []
  | i + 1 => if (thickF b ts b.turns i d).lo < b.rule then cutGo b ts d i ++ [(i : Int)] else cutGo b ts d i
theorem cutGo_len (b : Book) (ts : List TrC) (d : Int) : ∀ i, (cutGo b ts d i).length ≤ i
  | 0 => Nat.le_refl _
  | i + 1 => by
    have h := cutGo_len b ts d i
    simp only [cutGo]
    split
    · simp only [List.length_append, List.length_singleton]; omega
    · omega
def cutAF (b : Book) (d : Int) : List Int × Int := if errF b (isDayF b d) = 0 then (cutGo b (truthsF b []) d b.secs.length, 0) else ([], errF b (isDayF b d))
def cutS (b : Book) (d : Int) (m : Mp) (ts : List TrC) (i : Nat) : List Int → List (Key × Val)
  | [] => cutA_S0 b d m ts i
  | y :: r => cutB_S0 b d m ts i y r
theorem cut_round (b : Book) (d : Int) (m : Mp) (ts : List TrC) (i : Nat) (o : Span) (l : List Int) (hi : i < b.secs.length) (hsz : l.length ≤ 1000) (h4 : b.secs.length ≤ 4)
    (hth : Contract Proofs.Tryd.prog glob 123 [bkD b m ts, .int .i64 i, .int .i64 d, .sl false .int b.turns] (spD o)) :
    WpL Proofs.Tryd.prog (mk Proofs.Tryd.prog (lookN types) glob 49) (Code.at [1, 1, 1, 1, 0, 1, 0, 0] (body Proofs.Tryd.f40)) (cutS b d m ts i l) fun e1 L1 => e1 = .normal ∧ L1 = cutS b d m ts (i + 1) (if o.lo < b.rule then l ++ [(i : Int)] else l) := by
  have hm := may_con o b.rule
  by_cases hlo : o.lo < b.rule
  · rw [if_pos hlo]
    have hm' : decide (o.lo < b.rule) = true := decide_eq_true hlo
    cases l with
    | nil =>
      refine WpL.path (G 49) (cutA_0_yes b d m ts i o (decide (o.lo < b.rule))) ?_ ⟨rfl, rfl⟩
      exact ⟨decide_eq_true (by omega), by omega, hth, hm, hm', by omega, by simp only [inI64]; omega, trivial⟩
    | cons y r =>
      refine WpL.path (G 49) (cutB_0_yes b d m ts i y r o (decide (o.lo < b.rule))) ?_ ⟨rfl, rfl⟩
      exact ⟨decide_eq_true (by omega), by omega, hth, hm, hm', rfl, by simp only [List.length_append, List.length_cons] at hsz ⊢; simp; omega, by simp only [inI64]; omega, trivial⟩
  · rw [if_neg hlo]
    have hm' : decide (o.lo < b.rule) = false := decide_eq_false hlo
    cases l with
    | nil =>
      refine WpL.path (G 49) (cutA_0_no b d m ts i o (decide (o.lo < b.rule))) ?_ ⟨rfl, rfl⟩
      exact ⟨decide_eq_true (by omega), by omega, hth, hm, hm', by simp only [inI64]; omega, trivial⟩
    | cons y r =>
      refine WpL.path (G 49) (cutB_0_no b d m ts i y r o (decide (o.lo < b.rule))) ?_ ⟨rfl, rfl⟩
      exact ⟨decide_eq_true (by omega), by omega, hth, hm, hm', by simp only [inI64]; omega, trivial⟩
theorem cut_loop {b : Book} (hV : Valid b) (d : Int) (hd : d ≤ 1000) (m : Mp) (hne : truthsF b [] ≠ []) :
    LoopT Proofs.Tryd.prog glob 49 (Code.at [1, 1, 1, 1, 0, 1] (body Proofs.Tryd.f40)) (cutS b d m (truthsF b []) 0 []) .normal (cutS b d m (truthsF b []) b.secs.length (cutGo b (truthsF b []) d b.secs.length)) := by
  refine LoopT.count (tt := lookN types) (id := 0) (c := Code.at [1, 1, 1, 1, 0, 1, 0, 0] (body Proofs.Tryd.f40)) (by kernel_rfl) b.secs.length (fun i => cutS b d m (truthsF b []) i (cutGo b (truthsF b []) d i)) (fun i hi => ?_) ?_
  · have h4 := hV.secs.2
    have hl := cutGo_len b (truthsF b []) d i
    exact cut_round b d m (truthsF b []) i _ _ hi (by omega) h4 (thick_con b m (truthsF b []) i d b.turns (truths_ok hV []) hne (by have := truths_len hV []; omega) (by omega) h4 (by have := hV.turns; omega) hd)
  · cases cutGo b (truthsF b []) d b.secs.length with
    | nil => exact WpL.path (G 49) (cutA_0_end b d m _ _) ⟨decide_eq_false (Int.lt_irrefl _), trivial⟩ ⟨.inl ⟨rfl, rfl⟩, rfl⟩
    | cons y r => exact WpL.path (G 49) (cutB_0_end b d m _ _ y r) ⟨decide_eq_false (Int.lt_irrefl _), trivial⟩ ⟨.inl ⟨rfl, rfl⟩, rfl⟩
theorem cutA_con {b : Book} (hs : Small b) (d : Int) : Contract Proofs.Tryd.prog glob 40 [bookD b, .int .i64 d] (.tup [.sl true .int (cutAF b d).1, .int .i64 (cutAF b d).2]) := by
  have h1 := isDay_con b d
  have hc := err_cases hs (isDayF b d)
  unfold cutAF
  generalize he : errF b (isDayF b d) = e at hc
  rcases hc with ⟨hne, h12, h3⟩ | ⟨h0, hV, his, hcan⟩
  · rw [if_neg hne]
    by_cases e12 : e = 12
    · obtain ⟨hV, his, hcan⟩ := h12 e12
      have ha := asked_false_con hs hV hcan
      subst e12
      have hr := cutA_false b d (.spot (openF b []))
      rw [his] at hr h1
      exact contract_of_path (G 49) cutA_fn hr ⟨h1, ha, trivial⟩
    · exact contract_of_path (G 49) cutA_fn (cutA_err b d e) ⟨h1, h3 e12, by simpa using hne, trivial⟩
  · subst h0
    rw [if_pos rfl]
    have hday := within_iff.1 his
    have hdd := hV.days
    have ha := asked_ok_con hs hV hcan
    have hl := cut_loop hV d (by omega) (.spot (openF b [])) (ne_of_can hcan)
    cases hcut : cutGo b (truthsF b []) d b.secs.length with
    | nil =>
      rw [hcut] at hl
      have hr := cutA_none b d (.spot (openF b [])) (truthsF b []) b.secs.length
      rw [his] at hr h1
      exact contract_of_path (G 49) cutA_fn hr ⟨h1, ha, hl, by omega, trivial⟩
    | cons y r =>
      rw [hcut] at hl
      have hr := cutA_some b d (.spot (openF b [])) (truthsF b []) b.secs.length y r
      rw [his] at hr h1
      refine Eq.subst (motive := fun l : List Int => Contract Proofs.Tryd.prog glob 40 [bookD b, .int .i64 d] (.tup [.sl true .int l, .int .i64 0])) ?_ (contract_of_path (G 49) cutA_fn hr ⟨h1, ha, hl, rfl, rfl, rfl, ⟨by omega, by omega, by omega, rfl⟩, trivial⟩)
      exact whole_slice (y :: r)

/-! ### Turn -/
def fromGo (b : Book) (i : Nat) : Int := (b.svs.take i).foldl (fun n y => mx n y.d) 1
def fromF (b : Book) : Int := fromGo b b.svs.length
theorem fromGo_in {b : Book} (hd : ∀ y ∈ b.svs, 0 ≤ y.d ∧ y.d ≤ 1000) : ∀ i, i ≤ b.svs.length → 1 ≤ fromGo b i ∧ fromGo b i ≤ 1000
  | 0, _ => by simp [fromGo]
  | i + 1, h => by
    have ih := fromGo_in hd i (by omega)
    have hf := take_foldl (fun n (y : Sv) => mx n y.d) b.svs (1 : Int) i sv0 (by omega)
    have hm : b.svs.getD i sv0 ∈ b.svs := by
      rw [List.getD_eq_getElem?_getD, List.getElem?_eq_getElem (by omega)]
      exact List.getElem_mem _
    have := hd _ hm
    unfold fromGo at *
    rw [hf]
    exact ⟨Int.le_trans ih.1 mx_ge.1, mx_le3 ih.2 this.2⟩
def turnStep (b : Book) (ts : List TrC) (p : Int × Int) (d : Int) : Int × Int :=
  if d ∈ b.turns then p else if soonestF b ts (b.turns ++ [d]) b.secs.length > p.2 then (d, soonestF b ts (b.turns ++ [d]) b.secs.length) else p
def turnGo (b : Book) (ts : List TrC) (from_ : Int) : Nat → Int × Int
  | 0 => (0, soonestF b ts b.turns b.secs.length)
  | i + 1 => turnStep b ts (turnGo b ts from_ i) (from_ + i)
def turnLF (b : Book) (ts : List TrC) : Int × Int := turnGo b ts (fromF b) (b.days + 1 - fromF b).toNat
def turnAF (b : Book) : Int × Int := if errF b true = 0 then (if (turnLF b (truthsF b [])).1 = 0 then (0, 4) else ((turnLF b (truthsF b [])).1, 0)) else (0, errF b true)
theorem turn_from {b : Book} (hV : Valid b) (m : Mp) (ts : List TrC) :
    LoopT Proofs.Tryd.prog glob 70 (Code.at [1, 1, 1, 1, 0, 1] (body Proofs.Tryd.f54)) (turnA_S0 b m ts 0 1) .normal (turnA_S0 b m ts b.svs.length (fromF b)) := by
  refine LoopT.count (tt := lookN types) (id := 0) (c := Code.at [1, 1, 1, 1, 0, 1, 0, 0] (body Proofs.Tryd.f54)) (by kernel_rfl) b.svs.length (fun i => turnA_S0 b m ts i (fromGo b i)) (fun i hi => ?_) ?_
  · have h8 := hV.svs
    have hf := take_foldl (fun n (y : Sv) => mx n y.d) b.svs (1 : Int) i sv0 hi
    refine WpL.path (G 70) (turnA_0_on b m ts i _) ⟨decide_eq_true (by omega), by omega, by omega, by omega, by simp only [inI64]; omega, trivial⟩ ⟨rfl, ?_⟩
    rw [show fromGo b (i + 1) = _ from hf]
    rfl
  · refine WpL.path (G 70) (turnA_0_end b m ts _ _) ⟨decide_eq_false (Int.lt_irrefl _), trivial⟩ ⟨.inl ⟨rfl, rfl⟩, rfl⟩
theorem turn_days {b : Book} (hV : Valid b) (m : Mp) (hne : truthsF b [] ≠ []) (n k0 : Int) (i : Nat) (hk : k0 = soonestF b (truthsF b []) b.turns b.secs.length) :
    ∃ d, LoopT Proofs.Tryd.prog glob 70 (Code.at [1, 1, 1, 1, 1, 1, 0, 1] (body Proofs.Tryd.f54)) (turnA_S2 b m (truthsF b []) n (fromF b) 0 k0 k0 i) .normal (turnA_S2 b m (truthsF b []) n d (turnLF b (truthsF b [])).1 (turnLF b (truthsF b [])).2 k0 i) := by
  have hfr := fromGo_in (b := b) (fun y hy => by have := (survey_iff.1 (hV.sv y hy)).2.1; have := hV.days; omega) b.svs.length (Nat.le_refl _)
  have hfr : 1 ≤ fromF b ∧ fromF b ≤ 1000 := hfr
  have hdd := hV.days
  have ht4 := hV.turns
  refine ⟨fromF b + (b.days + 1 - fromF b).toNat, ?_⟩
  have := LoopT.count (P := Proofs.Tryd.prog) (glob := glob) (n := 70) (tt := lookN types) (id := 2) (b := Code.at [1, 1, 1, 1, 1, 1, 0, 1] (body Proofs.Tryd.f54)) (c := Code.at [1, 1, 1, 1, 1, 1, 0, 1, 0, 0] (body Proofs.Tryd.f54)) (by kernel_rfl) (b.days + 1 - fromF b).toNat
    (fun j => turnA_S2 b m (truthsF b []) n (fromF b + j) (turnGo b (truthsF b []) (fromF b) j).1 (turnGo b (truthsF b []) (fromF b) j).2 k0 i) (e := .normal) (L' := turnA_S2 b m (truthsF b []) n (fromF b + (b.days + 1 - fromF b).toNat) (turnLF b (truthsF b [])).1 (turnLF b (truthsF b [])).2 k0 i) (fun j hj => ?_) ?_
  · subst hk
    simpa [turnGo] using this
  · have hc := contains_con b.turns (fromF b + j) (by omega)
    have hst : ∀ p : Int × Int, turnGo b (truthsF b []) (fromF b) (j + 1) = p → turnA_S2 b m (truthsF b []) n (fromF b + (j + 1 : Nat)) (turnGo b (truthsF b []) (fromF b) (j + 1)).1 (turnGo b (truthsF b []) (fromF b) (j + 1)).2 k0 i = turnA_S2 b m (truthsF b []) n (fromF b + j + 1) p.1 p.2 k0 i := fun p hp => by
      rw [hp]
      congr 1
      omega
    by_cases hin : fromF b + (j : Int) ∈ b.turns
    · have hd : decide (fromF b + (j : Int) ∈ b.turns) = true := decide_eq_true hin
      refine WpL.path (G 70) (turnA_2_has b m (truthsF b []) n _ _ _ k0 i _) ⟨decide_eq_true (by omega), hc, hd, by simp only [inI64]; omega, trivial⟩ ⟨rfl, ?_⟩
      rw [hst (turnGo b (truthsF b []) (fromF b) j) (by simp only [turnGo, turnStep]; rw [if_pos hin])]
      rfl
    · have hd : decide (fromF b + (j : Int) ∈ b.turns) = false := decide_eq_false hin
      have hta : List.drop (Int.toNat (0 : Int)) (List.take (Int.toNat ((Nat.cast : Nat → Int) (List.length b.turns))) b.turns) = b.turns := by simp
      have hso := soonest_con b m (truthsF b []) (b.turns ++ [fromF b + j]) (truths_ok hV []) hne (by have := truths_len hV []; omega) hV.secs.2 (by simp; omega) (by omega)
      by_cases hgt : soonestF b (truthsF b []) (b.turns ++ [fromF b + (j : Int)]) b.secs.length > (turnGo b (truthsF b []) (fromF b) j).2
      · have hr := turnA_2_yes b m (truthsF b []) n (fromF b + j) (turnGo b (truthsF b []) (fromF b) j).1 (turnGo b (truthsF b []) (fromF b) j).2 k0 i (decide (fromF b + (j : Int) ∈ b.turns)) (soonestF b (truthsF b []) (b.turns ++ [fromF b + (j : Int)]) b.secs.length)
        rw [hta] at hr
        refine WpL.path (G 70) hr ⟨decide_eq_true (by omega), hc, hd, by omega, by simp; omega, rfl, hso, decide_eq_true hgt, by simp only [inI64]; omega, trivial⟩ ⟨rfl, ?_⟩
        rw [hst (fromF b + j, soonestF b (truthsF b []) (b.turns ++ [fromF b + (j : Int)]) b.secs.length) (by simp only [turnGo, turnStep]; rw [if_neg hin, if_pos hgt])]
        rfl
      · have hr := turnA_2_no b m (truthsF b []) n (fromF b + j) (turnGo b (truthsF b []) (fromF b) j).1 (turnGo b (truthsF b []) (fromF b) j).2 k0 i (decide (fromF b + (j : Int) ∈ b.turns)) (soonestF b (truthsF b []) (b.turns ++ [fromF b + (j : Int)]) b.secs.length)
        rw [hta] at hr
        refine WpL.path (G 70) hr ⟨decide_eq_true (by omega), hc, hd, by omega, by simp; omega, rfl, hso, decide_eq_false hgt, by simp only [inI64]; omega, trivial⟩ ⟨rfl, ?_⟩
        rw [hst (turnGo b (truthsF b []) (fromF b) j) (by simp only [turnGo, turnStep]; rw [if_neg hin, if_neg hgt])]
        rfl
  · refine WpL.path (G 70) (turnA_2_end b m (truthsF b []) n _ _ _ k0 i) ⟨decide_eq_false (by omega), trivial⟩ ⟨.inl ⟨rfl, rfl⟩, rfl⟩
theorem turnA_con {b : Book} (hs : Small b) : Contract Proofs.Tryd.prog glob 54 [bookD b] (.tup [.int .i64 (turnAF b).1, .int .i64 (turnAF b).2]) := by
  have hc := err_cases hs true
  unfold turnAF
  generalize he : errF b true = e at hc
  rcases hc with ⟨hne, h12, h3⟩ | ⟨h0, hV, his, hcan⟩
  · rw [if_neg hne]
    by_cases e12 : e = 12
    · obtain ⟨hV, his, hcan⟩ := h12 e12
      have ha := asked_false_con hs hV hcan
      subst e12
      exact contract_of_path (G 70) turnA_fn (turnA_false b (.spot (openF b []))) ⟨ha, trivial⟩
    · exact contract_of_path (G 70) turnA_fn (turnA_err b e) ⟨h3 e12, by simpa using hne, trivial⟩
  · subst h0
    rw [if_pos rfl]
    have ha := asked_ok_con hs hV hcan
    have hdd := hV.days
    have h0 := turn_from hV (.spot (openF b [])) (truthsF b [])
    have hso := soonest_con b (.spot (openF b [])) (truthsF b []) b.turns (truths_ok hV []) (ne_of_can hcan) (by have := truths_len hV []; omega) hV.secs.2 (by have := hV.turns; omega) (by omega)
    obtain ⟨d, h2⟩ := turn_days hV (.spot (openF b [])) (ne_of_can hcan) (fromF b) _ b.svs.length rfl
    by_cases hz : (turnLF b (truthsF b [])).1 = 0
    · rw [if_pos hz]
      exact contract_of_path (G 70) turnA_fn (turnA_none b (.spot (openF b [])) (truthsF b []) (fromF b) d _ _ _ b.svs.length) ⟨ha, h0, hso, h2, by simpa using hz, trivial⟩
    · rw [if_neg hz]
      exact contract_of_path (G 70) turnA_fn (turnA_some b (.spot (openF b [])) (truthsF b []) (fromF b) d _ _ _ b.svs.length) ⟨ha, h0, hso, h2, by simpa using hz, trivial⟩
end Go.Di

namespace Go.Di
theorem leaveB_fn : FnOk Proofs.Tryd.prog (mk Proofs.Tryd.prog (lookN types) glob 56) 120 (body Proofs.Tryd.f120) [.tmp 6, .tmp 7] := ⟨Proofs.Tryd.f120, by kernel_rfl, by kernel_rfl, by kernel_rfl, by kernel_rfl, by kernel_rfl⟩
theorem leave_fn : FnOk Proofs.Tryd.prog (mk Proofs.Tryd.prog (lookN types) glob 56) 120 (body Proofs.Tryd.f120) [.tmp 6, .tmp 7] := ⟨Proofs.Tryd.f120, by kernel_rfl, by kernel_rfl, by kernel_rfl, by kernel_rfl, by kernel_rfl⟩
def leave_S0 (b : Book) (sm : List Int) (many : Int) (n : Nat) (j : Int) : List (Key × Val) :=
  [(.tmp 0, .d (D.sl false E.int sm)),
   (.tmp 1, .d (D.int .i64 many)),
   (.tmp 2, .d (D.ref (cellsOf (bookD b)) 0)),
   (.tmp 3, .d (D.ref [D.self 120 (n + 1) (cellsOf (bookD b))] 0)),
   (.tmp 8, .d (D.int .i64 ((Nat.cast : Nat → Int) (List.length sm)))),
   (.tmp 10, .d (.int .i64 j))]
def leave_K0 : List Key := [.tmp 0, .tmp 1, .tmp 2, .tmp 3, .tmp 8, .tmp 10]
theorem leave_0_no (b : Book) (sm : List Int) (many : Int) (n : Nat) (j : Int) (l : List Int) (is : Bool) :
    runK (mk Proofs.Tryd.prog (lookN types) glob 56) [(38, true), (54, false)] [(51, .tup [.sl false .int l, .bool is])] [] (Code.at [1, 1, 1, 1, 1, 0, 1, 0, 0] (body Proofs.Tryd.f120)) (leave_S0 b sm many n j) leave_K0 =
      some ([decide (j < (Nat.cast : Nat → Int) (List.length (Book.svs b))) = true, (0 : Int) ≤ (0 : Int) ∧ (0 : Int) ≤ (Nat.cast : Nat → Int) (List.length sm) ∧ (Nat.cast : Nat → Int) (List.length sm) ≤ (Nat.cast : Nat → Int) (List.length sm) ∧ (Nat.cast : Nat → Int) (List.length sm) = (Nat.cast : Nat → Int) (List.length sm), List.length (List.drop (Int.toNat (0 : Int)) (List.take (Int.toNat ((Nat.cast : Nat → Int) (List.length sm))) sm) ++ [j]) * (8 + 1) ≤ 140737488355328, List.length (List.drop (Int.toNat (0 : Int)) (List.take (Int.toNat ((Nat.cast : Nat → Int) (List.length sm))) sm) ++ [j]) = List.length ((List.drop (Int.toNat (0 : Int)) (List.take (Int.toNat ((Nat.cast : Nat → Int) (List.length sm))) sm) ++ [j])), Contract Proofs.Tryd.prog glob 120 [D.sl false E.int ((List.drop (Int.toNat (0 : Int)) (List.take (Int.toNat ((Nat.cast : Nat → Int) (List.length sm))) sm) ++ [j])), D.int .i64 many, D.ref (cellsOf (bookD b)) 0, D.ref [D.self 120 n (cellsOf (bookD b))] 0] (D.tup [D.sl false E.int l, D.bool is]), is = false, inI64 (j + (1 : Int))], Ex.normal, [(.tmp 0, .d (D.sl false E.int sm)), (.tmp 1, .d (D.int .i64 many)), (.tmp 2, .d (D.ref (cellsOf (bookD b)) 0)), (.tmp 3, .d (D.ref [D.self 120 (n + 1) (cellsOf (bookD b))] 0)), (.tmp 8, .d (D.int .i64 ((Nat.cast : Nat → Int) (List.length sm)))), (.tmp 10, .d (D.int .i64 (j + (1 : Int))))]) := by kernel_rfl
theorem leave_0_hit (b : Book) (sm : List Int) (many : Int) (n : Nat) (j : Int) (l : List Int) (is : Bool) :
    runK (mk Proofs.Tryd.prog (lookN types) glob 56) [(38, true), (54, true)] [(51, .tup [.sl false .int l, .bool is])] [] (Code.at [1, 1, 1, 1, 1, 0, 1, 0, 0] (body Proofs.Tryd.f120)) (leave_S0 b sm many n j) [.tmp 0, .tmp 1, .tmp 2, .tmp 3, .tmp 8, .tmp 10, .tmp 6, .tmp 7] =
      some ([decide (j < (Nat.cast : Nat → Int) (List.length (Book.svs b))) = true, (0 : Int) ≤ (0 : Int) ∧ (0 : Int) ≤ (Nat.cast : Nat → Int) (List.length sm) ∧ (Nat.cast : Nat → Int) (List.length sm) ≤ (Nat.cast : Nat → Int) (List.length sm) ∧ (Nat.cast : Nat → Int) (List.length sm) = (Nat.cast : Nat → Int) (List.length sm), List.length (List.drop (Int.toNat (0 : Int)) (List.take (Int.toNat ((Nat.cast : Nat → Int) (List.length sm))) sm) ++ [j]) * (8 + 1) ≤ 140737488355328, List.length (List.drop (Int.toNat (0 : Int)) (List.take (Int.toNat ((Nat.cast : Nat → Int) (List.length sm))) sm) ++ [j]) = List.length ((List.drop (Int.toNat (0 : Int)) (List.take (Int.toNat ((Nat.cast : Nat → Int) (List.length sm))) sm) ++ [j])), Contract Proofs.Tryd.prog glob 120 [D.sl false E.int ((List.drop (Int.toNat (0 : Int)) (List.take (Int.toNat ((Nat.cast : Nat → Int) (List.length sm))) sm) ++ [j])), D.int .i64 many, D.ref (cellsOf (bookD b)) 0, D.ref [D.self 120 n (cellsOf (bookD b))] 0] (D.tup [D.sl false E.int l, D.bool is]), is = true], Ex.ret, [(.tmp 0, .d (D.sl false E.int sm)), (.tmp 1, .d (D.int .i64 many)), (.tmp 2, .d (D.ref (cellsOf (bookD b)) 0)), (.tmp 3, .d (D.ref [D.self 120 (n + 1) (cellsOf (bookD b))] 0)), (.tmp 8, .d (D.int .i64 ((Nat.cast : Nat → Int) (List.length sm)))), (.tmp 10, .d (D.int .i64 j)), (.tmp 6, .d (D.sl false E.int l)), (.tmp 7, .d (D.bool true))]) := by kernel_rfl
theorem leave_0_end (b : Book) (sm : List Int) (many : Int) (n : Nat) (j : Int) :
    runK (mk Proofs.Tryd.prog (lookN types) glob 56) [(38, false)] [] [] (Code.at [1, 1, 1, 1, 1, 0, 1, 0, 0] (body Proofs.Tryd.f120)) (leave_S0 b sm many n j) leave_K0 =
      some ([decide (j < (Nat.cast : Nat → Int) (List.length (Book.svs b))) = false], Ex.exit 0, [(.tmp 0, .d (D.sl false E.int sm)), (.tmp 1, .d (D.int .i64 many)), (.tmp 2, .d (D.ref (cellsOf (bookD b)) 0)), (.tmp 3, .d (D.ref [D.self 120 (n + 1) (cellsOf (bookD b))] 0)), (.tmp 8, .d (D.int .i64 ((Nat.cast : Nat → Int) (List.length sm)))), (.tmp 10, .d (D.int .i64 j))]) := by kernel_rfl
def leave_T0_hit (b : Book) (sm : List Int) (many : Int) (n : Nat) (j : Int) (l : List Int) (is : Bool) : List (Key × Val) :=
  [(.tmp 0, .d (D.sl false E.int sm)), (.tmp 1, .d (D.int .i64 many)), (.tmp 2, .d (D.ref (cellsOf (bookD b)) 0)), (.tmp 3, .d (D.ref [D.self 120 (n + 1) (cellsOf (bookD b))] 0)), (.tmp 8, .d (D.int .i64 ((Nat.cast : Nat → Int) (List.length sm)))), (.tmp 10, .d (D.int .i64 j)), (.tmp 6, .d (D.sl false E.int l)), (.tmp 7, .d (D.bool true))]
theorem leaveB_all (b : Book) (sm : List Int) (many : Int) (n : Nat) (m : Mp) (ts : List TrC) :
    callF (mk Proofs.Tryd.prog (lookN types) glob 56) [(17, true)] [(21, bkD b m ts)] [] (body Proofs.Tryd.f120) [.tmp 6, .tmp 7] [.sl false .int sm, .int .i64 many, .ref (cellsOf (bookD b)) 0, .ref [.self 120 n (cellsOf (bookD b))] 0] =
      some ([((Nat.cast : Nat → Int) (List.length sm) == many) = true, Contract Proofs.Tryd.prog glob 119 [bookD b, D.sl false E.int sm] (bkD b m ts)], D.tup [D.sl false E.int sm, D.bool (decide ((Nat.cast : Nat → Int) (List.length ts) > (0 : Int)))]) := by kernel_rfl
theorem leave_end0 (b : Book) (sm : List Int) (many : Int) (n : Nat) (j : Int) :
    callF (mk Proofs.Tryd.prog (lookN types) glob 56) [(17, false), (26, false)] [] [(0, (leave_K0, (.normal, leave_S0 b sm many n j)))] (body Proofs.Tryd.f120) [.tmp 6, .tmp 7] [.sl false .int sm, .int .i64 many, .ref (cellsOf (bookD b)) 0, .ref [.self 120 (n + 1) (cellsOf (bookD b))] 0] =
      some ([((Nat.cast : Nat → Int) (List.length sm) == many) = false, decide ((Nat.cast : Nat → Int) (List.length sm) > (0 : Int)) = false, LoopT Proofs.Tryd.prog glob 56 (Code.at [1, 1, 1, 1, 1, 0, 1] (body Proofs.Tryd.f120)) [(.tmp 0, .d (D.sl false E.int sm)), (.tmp 1, .d (D.int .i64 many)), (.tmp 2, .d (D.ref (cellsOf (bookD b)) 0)), (.tmp 3, .d (D.ref [D.self 120 (n + 1) (cellsOf (bookD b))] 0)), (.tmp 8, .d (D.int .i64 ((Nat.cast : Nat → Int) (List.length sm)))), (.tmp 10, .d (D.int .i64 (0 : Int)))] Ex.normal (leave_S0 b sm many n j)], D.tup [D.sl true E.int [], D.bool false]) := by kernel_rfl
theorem leave_hit0 (b : Book) (sm : List Int) (many : Int) (n : Nat) (j : Int) (l : List Int) (is : Bool) :
    callF (mk Proofs.Tryd.prog (lookN types) glob 56) [(17, false), (26, false)] [] [(0, (leave_K0, (.ret, leave_T0_hit b sm many n j l is)))] (body Proofs.Tryd.f120) [.tmp 6, .tmp 7] [.sl false .int sm, .int .i64 many, .ref (cellsOf (bookD b)) 0, .ref [.self 120 (n + 1) (cellsOf (bookD b))] 0] =
      some ([((Nat.cast : Nat → Int) (List.length sm) == many) = false, decide ((Nat.cast : Nat → Int) (List.length sm) > (0 : Int)) = false, LoopT Proofs.Tryd.prog glob 56 (Code.at [1, 1, 1, 1, 1, 0, 1] (body Proofs.Tryd.f120)) [(.tmp 0, .d (D.sl false E.int sm)), (.tmp 1, .d (D.int .i64 many)), (.tmp 2, .d (D.ref (cellsOf (bookD b)) 0)), (.tmp 3, .d (D.ref [D.self 120 (n + 1) (cellsOf (bookD b))] 0)), (.tmp 8, .d (D.int .i64 ((Nat.cast : Nat → Int) (List.length sm)))), (.tmp 10, .d (D.int .i64 (0 : Int)))] Ex.ret (leave_T0_hit b sm many n j l is)], D.tup [D.sl false E.int l, D.bool true]) := by kernel_rfl
theorem leave_end1 (b : Book) (sm : List Int) (many : Int) (n : Nat) (j : Int) :
    callF (mk Proofs.Tryd.prog (lookN types) glob 56) [(17, false), (26, true)] [] [(0, (leave_K0, (.normal, leave_S0 b sm many n j)))] (body Proofs.Tryd.f120) [.tmp 6, .tmp 7] [.sl false .int sm, .int .i64 many, .ref (cellsOf (bookD b)) 0, .ref [.self 120 (n + 1) (cellsOf (bookD b))] 0] =
      some ([((Nat.cast : Nat → Int) (List.length sm) == many) = false, decide ((Nat.cast : Nat → Int) (List.length sm) > (0 : Int)) = true, inI64 ((Nat.cast : Nat → Int) (List.length sm) - (1 : Int)), (0 : Int) ≤ (Nat.cast : Nat → Int) (List.length sm) - (1 : Int) ∧ (Nat.cast : Nat → Int) (List.length sm) - (1 : Int) < (Nat.cast : Nat → Int) (List.length sm), 0 + 1 ≤ 1, inI64 (List.getD sm (Int.toNat ((Nat.cast : Nat → Int) (List.length sm) - (1 : Int))) (E.z E.int) + (1 : Int)), LoopT Proofs.Tryd.prog glob 56 (Code.at [1, 1, 1, 1, 1, 0, 1] (body Proofs.Tryd.f120)) [(.tmp 0, .d (D.sl false E.int sm)), (.tmp 1, .d (D.int .i64 many)), (.tmp 2, .d (D.ref (cellsOf (bookD b)) 0)), (.tmp 3, .d (D.ref [D.self 120 (n + 1) (cellsOf (bookD b))] 0)), (.tmp 8, .d (D.int .i64 ((Nat.cast : Nat → Int) (List.length sm)))), (.tmp 10, .d (D.int .i64 (List.getD sm (Int.toNat ((Nat.cast : Nat → Int) (List.length sm) - (1 : Int))) (E.z E.int) + (1 : Int))))] Ex.normal (leave_S0 b sm many n j)], D.tup [D.sl true E.int [], D.bool false]) := by kernel_rfl
theorem leave_hit1 (b : Book) (sm : List Int) (many : Int) (n : Nat) (j : Int) (l : List Int) (is : Bool) :
    callF (mk Proofs.Tryd.prog (lookN types) glob 56) [(17, false), (26, true)] [] [(0, (leave_K0, (.ret, leave_T0_hit b sm many n j l is)))] (body Proofs.Tryd.f120) [.tmp 6, .tmp 7] [.sl false .int sm, .int .i64 many, .ref (cellsOf (bookD b)) 0, .ref [.self 120 (n + 1) (cellsOf (bookD b))] 0] =
      some ([((Nat.cast : Nat → Int) (List.length sm) == many) = false, decide ((Nat.cast : Nat → Int) (List.length sm) > (0 : Int)) = true, inI64 ((Nat.cast : Nat → Int) (List.length sm) - (1 : Int)), (0 : Int) ≤ (Nat.cast : Nat → Int) (List.length sm) - (1 : Int) ∧ (Nat.cast : Nat → Int) (List.length sm) - (1 : Int) < (Nat.cast : Nat → Int) (List.length sm), 0 + 1 ≤ 1, inI64 (List.getD sm (Int.toNat ((Nat.cast : Nat → Int) (List.length sm) - (1 : Int))) (E.z E.int) + (1 : Int)), LoopT Proofs.Tryd.prog glob 56 (Code.at [1, 1, 1, 1, 1, 0, 1] (body Proofs.Tryd.f120)) [(.tmp 0, .d (D.sl false E.int sm)), (.tmp 1, .d (D.int .i64 many)), (.tmp 2, .d (D.ref (cellsOf (bookD b)) 0)), (.tmp 3, .d (D.ref [D.self 120 (n + 1) (cellsOf (bookD b))] 0)), (.tmp 8, .d (D.int .i64 ((Nat.cast : Nat → Int) (List.length sm)))), (.tmp 10, .d (D.int .i64 (List.getD sm (Int.toNat ((Nat.cast : Nat → Int) (List.length sm) - (1 : Int))) (E.z E.int) + (1 : Int))))] Ex.ret (leave_T0_hit b sm many n j l is)], D.tup [D.sl false E.int l, D.bool true]) := by kernel_rfl
end Go.Di

namespace Go.Di

theorem relA_weaken {R : Foot} {w : World} {e : E} {xs : List e.α} {v : Value} (h : RelA R w (.sl true e xs) v) : RelA R w (.sl false e xs) v := by
  obtain ⟨A, c, hv, hc, hm, _, hr⟩ := h
  exact ⟨A, c, hv, hc, hm, fun h => (by cases h), hr⟩

/-! ### Wrong: surveys that are left out -/
/-- The first number from j on, of c, that g takes. -/
def lvFind (g : Int → List Int × Bool) : Nat → Int → List Int × Bool
  | 0, _ => ([], false)
  | c + 1, j => if (g j).2 = true then ((g j).1, true) else lvFind g c (j + 1)
def lvFrom (sm : List Int) : Int := if sm.length > 0 then sm.getD (sm.length - 1) 0 + 1 else 0
def lvGo (b : Book) : Nat → List Int → List Int × Bool
  | 0, sm => (sm, !(truthsF b sm).isEmpty)
  | f + 1, sm => lvFind (fun j => lvGo b f (sm ++ [j])) ((b.svs.length : Int) - lvFrom sm).toNat (lvFrom sm)
/-- Where lvFind stops. -/
theorem lvFind_at (g : Int → List Int × Bool) : ∀ (c : Nat) (j : Int), ∃ k, k ≤ c ∧ (∀ i < k, (g (j + i)).2 = false) ∧ (k < c ∧ (g (j + k)).2 = true ∧ lvFind g c j = ((g (j + k)).1, true) ∨ k = c ∧ lvFind g c j = ([], false))
  | 0, j => ⟨0, Nat.le_refl _, fun i hi => by omega, .inr ⟨rfl, rfl⟩⟩
  | c + 1, j => by
    by_cases h : (g j).2 = true
    · refine ⟨0, Nat.zero_le _, fun i hi => by omega, .inl ⟨by omega, by simpa using h, ?_⟩⟩
      simp only [lvFind]
      rw [if_pos h]
      simp
    · obtain ⟨k, h1, h2, h3⟩ := lvFind_at g c (j + 1)
      refine ⟨k + 1, by omega, fun i hi => ?_, ?_⟩
      · cases i with
        | zero => simpa using h
        | succ i =>
          have := h2 i (by omega)
          rwa [show j + 1 + (i : Int) = j + (i + 1 : Nat) by omega] at this
      · simp only [lvFind]
        rw [if_neg h]
        rw [show j + ((k + 1 : Nat) : Int) = j + 1 + (k : Int) by omega]
        rcases h3 with ⟨h4, h5, h6⟩ | ⟨h4, h5⟩
        · exact .inl ⟨by omega, h5, h6⟩
        · exact .inr ⟨by omega, h5⟩
/-- Numbers of surveys. -/
def LvOk (b : Book) (sm : List Int) : Prop := ∀ x ∈ sm, 0 ≤ x ∧ x < b.svs.length
theorem lvFrom_in {b : Book} {sm : List Int} (h : LvOk b sm) : 0 ≤ lvFrom sm ∧ lvFrom sm ≤ b.svs.length := by
  unfold lvFrom
  split
  · rename_i hp
    have hm : sm.getD (sm.length - 1) 0 ∈ sm := by
      rw [List.getD_eq_getElem?_getD, List.getElem?_eq_getElem (by omega)]
      exact List.getElem_mem _
    have := h _ hm
    omega
  · omega
theorem opened_valid' {b : Book} (hV : Valid b) (sm : List Int) (hl : sm.length ≤ 1000) : Contract Proofs.Tryd.prog glob 119 [bookD b, .sl false .int sm] (bkD b (.spot (openF b sm)) (truthsF b sm)) :=
  opened_con b hV.book sm (by omega) (by have := truths_len hV sm; omega)

theorem leave_con {b : Book} (hV : Valid b) : ∀ (f n : Nat) (sm : List Int), f ≤ n → LvOk b sm → sm.length + f ≤ 20 →
    Contract Proofs.Tryd.prog glob 120 [.sl false .int sm, .int .i64 (sm.length + f : Nat), .ref (cellsOf (bookD b)) 0, .ref [.self 120 n (cellsOf (bookD b))] 0] (.tup [.sl false .int (lvGo b f sm).1, .bool (lvGo b f sm).2])
  | 0, n, sm, _, hok, hlen => by
    have h := leaveB_all b sm (sm.length + 0 : Nat) n (.spot (openF b sm)) (truthsF b sm)
    rw [len_pos'] at h
    exact contract_of_path (G 56) leaveB_fn h ⟨by simp, opened_valid' hV sm (by omega), trivial⟩
  | f + 1, 0, sm, h, _, _ => by omega
  | f + 1, n + 1, sm, hfn, hok, hlen => by
    have h8 := hV.svs
    have hfr := lvFrom_in hok
    have ih : ∀ j : Int, 0 ≤ j → j < b.svs.length → Contract Proofs.Tryd.prog glob 120 [.sl false .int (sm ++ [j]), .int .i64 (sm.length + (f + 1) : Nat), .ref (cellsOf (bookD b)) 0, .ref [.self 120 n (cellsOf (bookD b))] 0] (.tup [.sl false .int (lvGo b f (sm ++ [j])).1, .bool (lvGo b f (sm ++ [j])).2]) := fun j h0 h1 => by
      have := leave_con hV f n (sm ++ [j]) (by omega) (fun x hx => by
        rcases List.mem_append.1 hx with hx | hx
        · exact hok x hx
        · simp only [List.mem_singleton] at hx
          subst hx
          exact ⟨h0, h1⟩) (by simp; omega)
      rw [show (sm ++ [j]).length + f = sm.length + (f + 1) by simp; omega] at this
      exact this
    have hta : List.drop (Int.toNat (0 : Int)) (List.take (Int.toNat ((Nat.cast : Nat → Int) (List.length sm))) sm) = sm := whole_slice sm
    have hon : ∀ (j : Int), 0 ≤ j → j < b.svs.length → (lvGo b f (sm ++ [j])).2 = false → WpL Proofs.Tryd.prog (mk Proofs.Tryd.prog (lookN types) glob 56) (Code.at [1, 1, 1, 1, 1, 0, 1, 0, 0] (body Proofs.Tryd.f120)) (leave_S0 b sm (sm.length + (f + 1) : Nat) n j) fun e1 L1 => e1 = .normal ∧ L1 = leave_S0 b sm (sm.length + (f + 1) : Nat) n (j + 1) := fun j h0 h1 h2 => by
      have hr := leave_0_no b sm (sm.length + (f + 1) : Nat) n j (lvGo b f (sm ++ [j])).1 (lvGo b f (sm ++ [j])).2
      rw [hta] at hr
      exact WpL.path (G 56) hr ⟨decide_eq_true (by omega), by omega, by simp; omega, rfl, ih j h0 h1, h2, by simp only [inI64]; omega, trivial⟩ ⟨rfl, rfl⟩
    obtain ⟨k, hk, hno, hat⟩ := lvFind_at (fun j => lvGo b f (sm ++ [j])) ((b.svs.length : Int) - lvFrom sm).toNat (lvFrom sm)
    have hb : Code.at [1, 1, 1, 1, 1, 0, 1] (body Proofs.Tryd.f120) = .block 0 (.loop (Code.at [1, 1, 1, 1, 1, 0, 1, 0, 0] (body Proofs.Tryd.f120))) := by kernel_rfl
    have hne : ((sm.length : Int) == ((sm.length + (f + 1) : Nat) : Int)) = false := by simp; omega
    have hcount : ∀ (e : Ex) (L' : List (Key × Val)), WpL Proofs.Tryd.prog (mk Proofs.Tryd.prog (lookN types) glob 56) (Code.at [1, 1, 1, 1, 1, 0, 1, 0, 0] (body Proofs.Tryd.f120)) (leave_S0 b sm (sm.length + (f + 1) : Nat) n (lvFrom sm + k)) (fun e1 L1 => (e1 = .exit 0 ∧ e = .normal ∨ e1 = .ret ∧ e = .ret) ∧ L1 = L') →
        LoopT Proofs.Tryd.prog glob 56 (Code.at [1, 1, 1, 1, 1, 0, 1] (body Proofs.Tryd.f120)) (leave_S0 b sm (sm.length + (f + 1) : Nat) n (lvFrom sm)) e L' := fun e L' hend => by
      have := LoopT.count (P := Proofs.Tryd.prog) (glob := glob) (n := 56) (tt := lookN types) hb k (fun i => leave_S0 b sm (sm.length + (f + 1) : Nat) n (lvFrom sm + i)) (e := e) (L' := L') (fun i hi => by
        have := hon (lvFrom sm + i) (by omega) (by omega) (hno i hi)
        rwa [show lvFrom sm + (i : Int) + 1 = lvFrom sm + (i + 1 : Nat) by omega] at this) hend
      rwa [show lvFrom sm + ((0 : Nat) : Int) = lvFrom sm by omega] at this
    have hgo : lvGo b (f + 1) sm = lvFind (fun j => lvGo b f (sm ++ [j])) ((b.svs.length : Int) - lvFrom sm).toNat (lvFrom sm) := rfl
    rw [hgo]
    rcases hat with ⟨hlt, hit, he⟩ | ⟨hk', he⟩
    · rw [he]
      have hin : lvFrom sm + (k : Int) < b.svs.length := by omega
      have hr := leave_0_hit b sm (sm.length + (f + 1) : Nat) n (lvFrom sm + k) (lvGo b f (sm ++ [lvFrom sm + (k : Int)])).1 (lvGo b f (sm ++ [lvFrom sm + (k : Int)])).2
      rw [hta] at hr
      have hloop := hcount .ret (leave_T0_hit b sm (sm.length + (f + 1) : Nat) n (lvFrom sm + k) (lvGo b f (sm ++ [lvFrom sm + (k : Int)])).1 (lvGo b f (sm ++ [lvFrom sm + (k : Int)])).2)
        (WpL.path (G 56) hr ⟨decide_eq_true (by omega), by omega, by simp; omega, rfl, ih _ (by omega) hin, hit, trivial⟩ ⟨.inr ⟨rfl, rfl⟩, rfl⟩)
      by_cases hp : sm.length > 0
      · have hF : lvFrom sm = sm.getD (sm.length - 1) 0 + 1 := if_pos hp
        have hix : ((sm.length : Int) - 1).toNat = sm.length - 1 := by omega
        have hfr' := hfr
        rw [hF] at hloop hfr'
        have hr := leave_hit1 b sm (sm.length + (f + 1) : Nat) n (lvFrom sm + k) (lvGo b f (sm ++ [lvFrom sm + (k : Int)])).1 (lvGo b f (sm ++ [lvFrom sm + (k : Int)])).2
        rw [hix] at hr
        rw [hF] at hr ⊢
        exact contract_of_path (G 56) leave_fn hr ⟨hne, decide_eq_true (by omega), by simp only [inI64]; omega, by omega, by omega, by simp only [inI64, E.z]; omega, hloop, trivial⟩
      · have hF : lvFrom sm = 0 := if_neg hp
        rw [hF] at hloop ⊢
        exact contract_of_path (G 56) leave_fn (leave_hit0 b sm (sm.length + (f + 1) : Nat) n (0 + k) _ _) ⟨hne, decide_eq_false (by omega), hloop, trivial⟩
    · rw [he]
      have hloop := hcount .normal (leave_S0 b sm (sm.length + (f + 1) : Nat) n (lvFrom sm + k))
        (WpL.path (G 56) (leave_0_end b sm (sm.length + (f + 1) : Nat) n (lvFrom sm + k)) ⟨decide_eq_false (by omega), trivial⟩ ⟨.inl ⟨rfl, rfl⟩, rfl⟩)
      refine Contract.toRes (r := .tup [.sl true .int [], .bool false]) ?_ fun R w v hv => ?_
      · by_cases hp : sm.length > 0
        · have hF : lvFrom sm = sm.getD (sm.length - 1) 0 + 1 := if_pos hp
          have hix : ((sm.length : Int) - 1).toNat = sm.length - 1 := by omega
          have hfr' := hfr
          rw [hF] at hloop hfr'
          have hr := leave_end1 b sm (sm.length + (f + 1) : Nat) n (lvFrom sm + k)
          rw [hix] at hr
          rw [hF] at hr
          exact contract_of_path (G 56) leave_fn hr ⟨hne, decide_eq_true (by omega), by simp only [inI64]; omega, by omega, by omega, by simp only [inI64, E.z]; omega, hloop, trivial⟩
        · have hF : lvFrom sm = 0 := if_neg hp
          rw [hF] at hloop
          exact contract_of_path (G 56) leave_fn (leave_end0 b sm (sm.length + (f + 1) : Nat) n (0 + k)) ⟨hne, decide_eq_false (by omega), hloop, trivial⟩
      · obtain ⟨vs, hv, h1⟩ := hv
        obtain ⟨v1, l1, hl, h2, h3⟩ := all2_cons h1
        refine ⟨_, hv, ?_⟩
        rw [hl]
        exact ⟨relA_weaken h2, h3⟩
end Go.Di

/-
  DI, part Y: a function that captures a box and its own variable.
-/
namespace Go.Di
open Go.RowKit

section
variable {P : Program} {C : Cfg} {w0 w w' : World} {R0 R : Foot} {a : Act} {s : St} {β : Nat → Nat} {σ : Sig} {Q : Exit → Act → World → Prop}

theorem wpOps_pass {ops : Array Oper} {i : Nat} {l : List Nat} {o : Oper} (ho : ops[i]? = some o) (hg : o.guard = none) (hrun : (execOp a.eval o).run P w = .ok .skip w') (hK : wpOps P ops Q l (a.put o.dst undef) w') : wpOps P ops Q (i :: l) a w := by
  rw [wpOps_cons]
  unfold wpOp
  rw [ho]
  have : Region.wanted o (yielded ops a.tmps) = true := by simp [Region.wanted, hg]
  simp only [this, if_true]
  refine .inl ?_
  unfold Oper.wp
  rw [hrun]
  exact hK
theorem relTC_0 : ∀ {d : D} {v : Value}, is0 d = true → RelTC β σ s R w d v → RelC0 R w d v
  | .int _ _, _, _, h => h | .bool _, _, _, h => h | .nil, _, _, h => h | .nilmap, _, _, h => h | .nilfn, _, _, h => h | .sl _ _ _, _, _, h => h | .map _, _, _, h => h
theorem all_relTC_0 : ∀ {ds : List D} {vs : List Value}, ds.all is0 = true → All2 (RelTC β σ s R w) ds vs → All2 (RelC0 R w) ds vs
  | [], [], _, _ => trivial
  | d :: ds, v :: vs, h, ⟨h1, h2⟩ => by
    rw [List.all_cons, Bool.and_eq_true] at h
    exact ⟨relTC_0 h.1 h1, all_relTC_0 h.2 h2⟩
  | [], _ :: _, _, h => h.elim
  | _ :: _, [], _, h => h.elim

theorem cell_same' {w w' : World} {b o : Nat} (h : w'.heap[b]? = w.heap[b]?) : w'.cell? ⟨b, o, none⟩ = w.cell? ⟨b, o, none⟩ := by simp [World.cell?, h]

theorem SelfR.make {f : FuncId} {cells : List D} {p v : Value} {b : Nat} (hv : v = .func (.func f) #[] #[p, .pointer (some ⟨b, 0, none⟩)]) (hp : RelCap R w cells p) (hR : R b 0) (hc : w.cell? ⟨b, 0, none⟩ = some v) : ∀ n, SelfR R w f cells n v
  | 0 => trivial
  | n + 1 => ⟨p, b, 0, v, hv, hp, hR, hc, ⟨_, _, hv⟩, SelfR.make hv hp hR hc n⟩

/-- var f func(..); f = func(..) { .. x .. f .. } -/
theorem WpL.selfFn {ops : Array Oper} {id : Nat} (hnd : noDefer ops.toList = true) (hs : ops.size = 2) {f : FuncId} {i j d : Nat} {t : TypeId} (h0 : OpAt ops 0 (some d) (.makeFunc (.func f) #[] #[.tmp i, .tmp j])) (h1 : OpAt ops 1 none (.store t (.tmp j) (.tmp d)))
    (hT : TabOk P C.tt) (hti : C.tt t = some ⟨.other, 1, 8, [.nilfn], none, false⟩) {L : List (Key × Val)} {cells : List D} (hi : (ofL L).tmp i = .ptr i 0) (hbi : (ofL L).bx i = some ⟨false, cells⟩) (hc0 : cells.all is0 = true) (hj : (ofL L).tmp j = .ptr j 0) (hbj : (ofL L).bx j = some ⟨false, [.nilfn]⟩)
    (hij : i ≠ j) (hdi : d ≠ i) (hdj : d ≠ j) (hdn : d < C.nt) (hke : ∀ b, ¬ C.ke b) (hno : ∀ b, ¬ C.no b) (hfx : C.fixed = []) {k : Nat} {Post : Ex → List (Key × Val) → Prop} (hpost : Post .normal [(.tmp i, .d (.ref cells 0)), (.tmp j, .d (.ref [.self f k cells] 0))]) : WpL P C (.region id ops false) L Post := by
  intro w0 R0 a w Q ro n hro ⟨β, σ, R, hI⟩ hQ
  refine wp_text hnd ?_
  rw [hs]
  show wpOps _ _ _ (0 :: [1]) _ _
  obtain ⟨o1, h10, h11, h12, h13⟩ := h0.at_
  obtain ⟨o2, h20, h21, h22, h23⟩ := h1.at_
  have ti : RelT β σ (ofL L) R w (.ptr i 0) (a.tmps.getD i undef) := by have := hI.tmps i; rwa [hi] at this
  have tj : RelT β σ (ofL L) R w (.ptr j 0) (a.tmps.getD j undef) := by have := hI.tmps j; rwa [hj] at this
  obtain ⟨_, ti⟩ := ti
  obtain ⟨_, tj⟩ := tj
  obtain ⟨p1, ⟨arri, eli, p2, _, p3, _⟩, p4⟩ := hI.box i _ hbi
  obtain ⟨q1, ⟨arrj, elj, q2, _, q3, _⟩, q4⟩ := hI.box j _ hbj
  have hne : β i ≠ β j := fun e => hij (hI.inj i j _ _ hbi hbj e)
  have hsj : 0 < arrj.size := by
    have := All2.length (q3 rfl)
    rw [List.length_take, Array.length_toList] at this
    simp at this
    omega
  obtain ⟨wv, hwv⟩ : ∃ wv : Value, wv = .func (.func f) #[] #[.pointer (some ⟨β i, 0, none⟩), .pointer (some ⟨β j, 0, none⟩)] := ⟨_, rfl⟩
  refine wpOps_hand (v := wv) (w' := w) h10 h11 (by
    have : #[Operand.tmp i, .tmp j].map a.eval = #[.pointer (some ⟨β i, 0, none⟩), .pointer (some ⟨β j, 0, none⟩)] := by
      simp only [List.map_toArray, List.map_cons, List.map_nil]
      show #[a.tmps.getD i undef, a.tmps.getD j undef] = _
      rw [ti, tj]
    rw [hwv]
    simp only [execOp, h13, this]
    simp [Instr.makeFunc]) ?_
  rw [h12]
  have hst := storeAt_run (P := P) (C := C) (w := w) (t := t) (ti := ⟨.other, 1, 8, [.nilfn], none, false⟩) (hT t _ hti) (g := β j) (off := 0) (v := wv) q2 (by rw [hwv]; rfl) (by show 0 + 1 ≤ _; omega) (by rw [hwv]; intro u hu; simp [Value.cells] at hu; subst hu; rfl)
  rw [show wv.cells.toList = [wv] by rw [hwv]; rfl] at hst
  obtain ⟨r1, r2, r3, r4⟩ := setCells_rest (β j) [wv] 0 w
  have r5 := setCells_get (β j) [wv] 0 w _ _ _ q2
  have r6 := fun k hk => setCells_other (β j) [wv] 0 w k hk
  obtain ⟨V, hV⟩ : ∃ V, V = w.setCells (β j) 0 [wv] := ⟨_, rfl⟩
  rw [← hV] at hst r1 r2 r3 r4 r5 r6
  have hcV : V.heap[β j]? = some (.cells (putAll arrj 0 [wv]) elj (0, 0)) := r5
  have hp0 : (putAll arrj 0 [wv])[0]? = some wv := by rw [putAll_get, if_pos ⟨Nat.le_refl _, by simp, hsj⟩]; rfl
  have hnt := hI.nt
  have hd : d < a.tmps.size := by omega
  have gd : ∀ x, (a.put (some d) wv).tmps.getD x undef = if d = x then wv else a.tmps.getD x undef := fun x => getD_put a d wv x hd
  refine wpOps_pass (w' := V) h20 h21 (by
    have hevj : (a.put (some d) wv).eval (.tmp j) = .pointer (some ⟨β j, 0, none⟩) := by
      show (a.put (some d) wv).tmps.getD j undef = _
      rw [gd, if_neg hdj]
      exact tj
    have hevd : (a.put (some d) wv).eval (.tmp d) = wv := by
      show (a.put (some d) wv).tmps.getD d undef = _
      rw [gd, if_pos rfl]
    simp only [execOp, h23, hevj, hevd]
    simp [hst]) ?_
  rw [h22]
  show noOut Q .normal ((a.put (some d) wv).put none undef) V
  have hput : (a.put (some d) wv).put none undef = a.put (some d) wv := rfl
  rw [hput]
  have hvb : V.cell? ⟨β j, 0, none⟩ = some wv := by simp [World.cell?, hcV, hp0]
  have hbel : Below w0.heap.size w V := ⟨r1, r2, r3, by omega, fun b hb => r6 b (by omega)⟩
  have hkk : Keeps R (fun b o => R b o ∨ b = β i ∧ o < arri.size ∨ b = β j ∧ o = 0) w V := by
    have hh : ∀ b, (∃ o, R b o) → V.heap[b]? = w.heap[b]? := fun b ⟨o, hr⟩ => r6 b fun e => q4 rfl o (e ▸ hr)
    exact ⟨fun b o h => .inl h, fun b o u hr hc => by rw [cell_same' (hh b ⟨o, hr⟩)]; exact hc, fun b es c hr hm => by rw [hh b ⟨0, hr⟩]; exact hm⟩
  have hcap : RelCap (fun b o => R b o ∨ b = β i ∧ o < arri.size ∨ b = β j ∧ o = 0) V cells (.pointer (some ⟨β i, 0, none⟩)) := by
    refine ⟨β i, 0, rfl, fun m x hm => ?_⟩
    obtain ⟨u, hu, hr⟩ := All2.get (all_relTC_0 hc0 (p3 rfl)) m x hm
    have hu : arri.toList[m]? = some u := by
      rw [List.getElem?_take] at hu
      split at hu
      · exact hu
      · cases hu
    have hlt : m < arri.size := by
      have := (List.getElem?_eq_some_iff.1 hu).1
      simpa using this
    refine ⟨u, RelC0.keep hkk _ _ hr, .inr (.inl ⟨rfl, by omega⟩), ?_⟩
    have : V.heap[β i]? = some (.cells arri eli (0, 0)) := by rw [r6 _ hne]; exact p2
    have hu' : arri[m]? = some u := by simpa using hu
    simp [World.cell?, this, hu']
  have hself := SelfR.make (R := fun b o => R b o ∨ b = β i ∧ o < arri.size ∨ b = β j ∧ o = 0) (w := V) (f := f) (cells := cells) hwv hcap (.inr (.inr ⟨rfl, rfl⟩)) hvb k
  have lti : β i < w.heap.size := (Array.getElem?_eq_some_iff.1 p2).1
  have ltj : β j < w.heap.size := (Array.getElem?_eq_some_iff.1 q2).1
  refine hQ .normal _ (a.put (some d) wv) V hpost ⟨fun _ => 0, fun _ => (none, 0), fun b o => R b o ∨ b = β i ∧ o < arri.size ∨ b = β j ∧ o = 0, ?_⟩
  have hbx : ∀ x, (ofL [(Key.tmp i, Val.d (.ref cells 0)), (.tmp j, .d (.ref [.self f k cells] 0))]).bx x = none := fun x => rfl
  have hob : ∀ x, (ofL [(Key.tmp i, Val.d (.ref cells 0)), (.tmp j, .d (.ref [.self f k cells] 0))]).ob x = none := fun x => rfl
  have hmp : ∀ x, (ofL [(Key.tmp i, Val.d (.ref cells 0)), (.tmp j, .d (.ref [.self f k cells] 0))]).mp x = none := fun x => rfl
  refine ⟨hI.below.trans hbel, hI.defers, fun x hx => (by rw [hfx] at hx; cases hx), by simpa [Act.put] using hnt, fun b o h => .inl (hI.sub b o h), fun b o h => ?_, fun g cs hg => Rel.keep hkk _ _ (hI.glob g cs hg), fun x => ?_, fun x b hb => (by rw [hbx] at hb; cases hb), fun x y bi bj hx => (by rw [hbx] at hx; cases hx), fun x o ho => (by rw [hob] at ho; cases ho), ⟨by have := hI.far.sz; omega, fun b hb => absurd hb (hke b), fun b hb => absurd hb (hno b)⟩, .none hmp⟩
  · rw [r4]
    rcases h with h | ⟨rfl, _⟩ | ⟨rfl, _⟩
    · exact hI.dom b o h
    · exact ⟨lti, .inr p1⟩
    · exact ⟨ltj, .inr q1⟩
  · have etmp : (ofL [(Key.tmp i, Val.d (.ref cells 0)), (.tmp j, .d (.ref [.self f k cells] 0))]).tmp x = if i = x then .ref cells 0 else if j = x then .ref [.self f k cells] 0 else .undef := by
      simp only [ofL, St.tmp]
      rw [set_tmp_tmp]
      by_cases h : i = x
      · rw [if_pos h, if_pos h]
      · rw [if_neg h, if_neg h, set_tmp_tmp]
        by_cases h2 : j = x
        · rw [if_pos h2, if_pos h2]
        · rw [if_neg h2, if_neg h2]
          rfl
    rw [gd, etmp]
    by_cases hxi : i = x
    · subst hxi
      rw [if_neg hdi, if_pos rfl, ti]
      obtain ⟨b', o', hb', hr⟩ := hcap
      refine ⟨b', o', hb', fun m y hm => ?_⟩
      obtain ⟨u, s1, s2, s3⟩ := hr m y hm
      exact ⟨u, RelC.of0 s1, s2, s3⟩
    · by_cases hxj : j = x
      · subst hxj
        rw [if_neg hdj, if_neg hij, if_pos rfl, tj]
        refine ⟨β j, 0, rfl, fun m y hm => ?_⟩
        match m, hm with
        | 0, hm =>
          cases hm
          exact ⟨wv, ⟨⟨_, _, hwv⟩, hself⟩, .inr (.inr ⟨rfl, rfl⟩), hvb⟩
      · rw [if_neg hxi, if_neg hxj]
        trivial
end
end Go.Di

namespace Go.Di
def wr0 (b : Book) : List (Key × Val) := [(.tmp 1, .d (.ptr 1 0)), (.box 1, .bx (some ⟨false, cellsOf (bookD b)⟩))]
def wr0K : List Key := [.tmp 1, .box 1]
def wr4 (b : Book) : List (Key × Val) := wr0 b ++ [(.tmp 5, .d (.ptr 5 0)), (.box 5, .bx (some ⟨false, [.nilfn]⟩))]
def wr4K : List Key := wr0K ++ [.tmp 5, .box 5]
def wr5 (b : Book) : List (Key × Val) := [(.tmp 1, .d (.ref (cellsOf (bookD b)) 0)), (.tmp 5, .d (.ref [.self 120 100 (cellsOf (bookD b))] 0))]
def wrS (b : Book) (i : Int) : List (Key × Val) := wr5 b ++ [(.tmp 18, .d (.int .i64 (b.svs.length + 1))), (.tmp 19, .d (.int .i64 i))]
def wrK : List Key := [.tmp 1, .tmp 5, .tmp 18, .tmp 19]
def wrT (l : List Int) : List (Key × Val) := [(.tmp 2, .d (.sl true .int l)), (.tmp 3, .d (.int .i64 0))]
def wrTK : List Key := [.tmp 2, .tmp 3]
theorem wr_0 (b : Book) :
    runK (mk Proofs.Tryd.prog (lookN types) glob 36) [] [] [] (Code.at [0] (body Proofs.Tryd.f38)) (entry 0 [bookD b]) wr0K =
      some ([], .normal, wr0 b) := by kernel_rfl
theorem wr_1 (b : Book) :
    runK (mk Proofs.Tryd.prog (lookN types) glob 36) [] [(10, .int .i64 0)] [] (Code.at [1, 0] (body Proofs.Tryd.f38)) (wr0 b) wr0K =
      some ([Contract Proofs.Tryd.prog glob 64 [bookD b] (D.int .i64 (0 : Int))], .normal, wr0 b) := by kernel_rfl
theorem wr_4 (b : Book) :
    runK (mk Proofs.Tryd.prog (lookN types) glob 36) [] [] [] (Code.at [1, 1, 0] (body Proofs.Tryd.f38)) (wr0 b) wr4K =
      some ([], .normal, wr4 b) := by kernel_rfl
theorem wr_no (b : Book) (i : Int) (l : List Int) (t : Bool) :
    runK (mk Proofs.Tryd.prog (lookN types) glob 36) [(20, true), (28, false)] [(25, .tup [.sl false .int l, .bool t])] [] (Code.at [1, 1, 1, 1, 0, 1, 0, 0] (body Proofs.Tryd.f38)) (wrS b i) wrK =
      some ([decide (i < (Nat.cast : Nat → Int) (List.length (Book.svs b)) + (1 : Int)) = true, Contract Proofs.Tryd.prog glob 120 [D.sl false E.int [], D.int .i64 i, D.ref (cellsOf (bookD b)) 0, D.ref [D.self 120 99 (cellsOf (bookD b))] 0] (D.tup [D.sl false E.int l, D.bool t]), t = false, inI64 (i + (1 : Int))], .normal, wrS b (i + 1)) := by kernel_rfl
theorem wr_hit (b : Book) (i : Int) (l : List Int) (t : Bool) :
    runK (mk Proofs.Tryd.prog (lookN types) glob 36) [(20, true), (28, true)] [(25, .tup [.sl false .int l, .bool t])] [] (Code.at [1, 1, 1, 1, 0, 1, 0, 0] (body Proofs.Tryd.f38)) (wrS b i) wrTK =
      some ([decide (i < (Nat.cast : Nat → Int) (List.length (Book.svs b)) + (1 : Int)) = true, Contract Proofs.Tryd.prog glob 120 [D.sl false E.int [], D.int .i64 i, D.ref (cellsOf (bookD b)) 0, D.ref [D.self 120 99 (cellsOf (bookD b))] 0] (D.tup [D.sl false E.int l, D.bool t]), t = true, (0 : Int) ≤ (0 : Int) ∧ (0 : Int) ≤ (Nat.cast : Nat → Int) (List.length l) ∧ (Nat.cast : Nat → Int) (List.length l) ≤ (Nat.cast : Nat → Int) (List.length l) ∧ (Nat.cast : Nat → Int) (List.length l) = (Nat.cast : Nat → Int) (List.length l)], Ex.ret, [(.tmp 2, .d (D.sl true E.int (List.drop (Int.toNat (0 : Int)) (List.take (Int.toNat ((Nat.cast : Nat → Int) (List.length l))) l)))), (.tmp 3, .d (D.int .i64 (0 : Int)))]) := by kernel_rfl
theorem wr_end (b : Book) (i : Int) :
    runK (mk Proofs.Tryd.prog (lookN types) glob 36) [(20, false)] [] [] (Code.at [1, 1, 1, 1, 0, 1, 0, 0] (body Proofs.Tryd.f38)) (wrS b i) wrK =
      some ([decide (i < (Nat.cast : Nat → Int) (List.length (Book.svs b)) + (1 : Int)) = false], .exit 0, wrS b i) := by kernel_rfl
theorem wr_ret (b : Book) (l : List Int) :
    runK (mk Proofs.Tryd.prog (lookN types) glob 36) [] [] [(0, (wrK, (.ret, wrT l)))] (Code.at [1, 1, 1, 1] (body Proofs.Tryd.f38)) (wr5 b) wrTK =
      some ([inI64 ((Nat.cast : Nat → Int) (List.length (Book.svs b)) + (1 : Int)), LoopT Proofs.Tryd.prog glob 36 (Code.at [1, 1, 1, 1, 0, 1] (body Proofs.Tryd.f38)) [(.tmp 1, .d (D.ref (cellsOf (bookD b)) 0)), (.tmp 5, .d (D.ref [D.self 120 100 (cellsOf (bookD b))] 0)), (.tmp 18, .d (D.int .i64 ((Nat.cast : Nat → Int) (List.length (Book.svs b)) + (1 : Int)))), (.tmp 19, .d (D.int .i64 (0 : Int)))] Ex.ret (wrT l)], .ret, wrT l) := by kernel_rfl
theorem wr_13 (b : Book) (i : Int) :
    runK (mk Proofs.Tryd.prog (lookN types) glob 36) [] [] [(0, (wrK, (.normal, wrS b i)))] (Code.at [1, 1, 1, 1] (body Proofs.Tryd.f38)) (wr5 b) wrTK =
      some ([inI64 ((Nat.cast : Nat → Int) (List.length (Book.svs b)) + (1 : Int)), LoopT Proofs.Tryd.prog glob 36 (Code.at [1, 1, 1, 1, 0, 1] (body Proofs.Tryd.f38)) [(.tmp 1, .d (D.ref (cellsOf (bookD b)) 0)), (.tmp 5, .d (D.ref [D.self 120 100 (cellsOf (bookD b))] 0)), (.tmp 18, .d (D.int .i64 ((Nat.cast : Nat → Int) (List.length (Book.svs b)) + (1 : Int)))), (.tmp 19, .d (D.int .i64 (0 : Int)))] Ex.normal (wrS b i)], .ret, wrT []) := by kernel_rfl
theorem wr_bad (b : Book) (e : Int) :
    callF (mk Proofs.Tryd.prog (lookN types) glob 36) [(12, true)] [(10, .int .i64 e)] [] (body Proofs.Tryd.f38) [.tmp 2, .tmp 3] [bookD b] =
      some ([Contract Proofs.Tryd.prog glob 64 [bookD b] (D.int .i64 e), (e != (0 : Int)) = true], D.tup [D.sl true E.int [], D.int .i64 e]) := by kernel_rfl
theorem wr_fn : FnOk Proofs.Tryd.prog (mk Proofs.Tryd.prog (lookN types) glob 36) 38 (body Proofs.Tryd.f38) [.tmp 2, .tmp 3] := ⟨Proofs.Tryd.f38, by kernel_rfl, by kernel_rfl, by kernel_rfl, by kernel_rfl, by kernel_rfl⟩
end Go.Di

namespace Go.Di

/-! ### Wrong -/
def wrongGo (b : Book) : List Int × Bool := lvFind (fun j => lvGo b j.toNat []) (b.svs.length + 1) 0
def wrongAF (b : Book) : List Int × Int := if checkF b = 0 then ((wrongGo b).1, 0) else ([], checkF b)

theorem wrong_valid {b : Book} (hV : Valid b) (hch : Contract Proofs.Tryd.prog glob 64 [bookD b] (.int .i64 0)) : Contract Proofs.Tryd.prog glob 38 [bookD b] (.tup [.sl true .int (wrongGo b).1, .int .i64 0]) := by
  have h8 := hV.svs
  have hlv : ∀ i : Nat, i ≤ b.svs.length → Contract Proofs.Tryd.prog glob 120 [D.sl false E.int [], D.int .i64 i, D.ref (cellsOf (bookD b)) 0, D.ref [D.self 120 99 (cellsOf (bookD b))] 0] (D.tup [D.sl false E.int (lvGo b i []).1, D.bool (lvGo b i []).2]) := fun i hi => by
    have := leave_con hV i 99 [] (by omega) (fun x hx => by cases hx) (by simp; omega)
    rw [show ([] : List Int).length + i = i from Nat.zero_add i] at this
    exact this
  have hb : Code.at [1, 1, 1, 1, 0, 1] (body Proofs.Tryd.f38) = .block 0 (.loop (Code.at [1, 1, 1, 1, 0, 1, 0, 0] (body Proofs.Tryd.f38))) := by kernel_rfl
  obtain ⟨k, hk, hno, hat⟩ := lvFind_at (fun j => lvGo b j.toNat []) (b.svs.length + 1) 0
  have hno' : ∀ i < k, (lvGo b i []).2 = false := fun i hi => by have := hno i hi; simpa using this
  have hon : ∀ i : Nat, i < k → WpL Proofs.Tryd.prog (mk Proofs.Tryd.prog (lookN types) glob 36) (Code.at [1, 1, 1, 1, 0, 1, 0, 0] (body Proofs.Tryd.f38)) (wrS b i) fun e1 L1 => e1 = .normal ∧ L1 = wrS b ((i + 1 : Nat) : Int) := fun i hi =>
    WpL.path (G 36) (wr_no b i _ _) ⟨decide_eq_true (by omega), hlv i (by omega), hno' i hi, by simp only [inI64]; omega, trivial⟩ ⟨rfl, rfl⟩
  have hrest : WpL Proofs.Tryd.prog (mk Proofs.Tryd.prog (lookN types) glob 36) (Code.at [1, 1, 1, 1] (body Proofs.Tryd.f38)) (wr5 b) (fun e L' => e = .ret ∧ L' = wrT (wrongGo b).1) := by
    have hgo : wrongGo b = lvFind (fun j => lvGo b j.toNat []) (b.svs.length + 1) 0 := rfl
    rcases hat with ⟨hlt, hit, he⟩ | ⟨hk', he⟩
    · rw [hgo, he]
      have hit' : (lvGo b k []).2 = true := by simpa using hit
      have e0 : lvGo b ((0 : Int) + (k : Int)).toNat [] = lvGo b k [] := by simp
      rw [e0]
      refine WpL.path (G 36) (wr_ret b (lvGo b k []).1) ⟨by simp only [inI64]; omega, ?_, trivial⟩ ⟨rfl, rfl⟩
      have hr := wr_hit b k (lvGo b k []).1 (lvGo b k []).2
      have hta := whole_slice (lvGo b k []).1
      refine LoopT.count (tt := lookN types) hb k (fun i => wrS b (i : Int)) hon (WpL.path (G 36) hr ⟨decide_eq_true (by omega), hlv k (by omega), hit', by omega, trivial⟩ ⟨.inr ⟨rfl, rfl⟩, ?_⟩)
      exact congrArg wrT hta
    · rw [hgo, he]
      refine WpL.path (G 36) (wr_13 b k) ⟨by simp only [inI64]; omega, ?_, trivial⟩ ⟨rfl, rfl⟩
      exact LoopT.count (tt := lookN types) hb k (fun i => wrS b (i : Int)) hon (WpL.path (G 36) (wr_end b k) ⟨decide_eq_false (by omega), trivial⟩ ⟨.inl ⟨rfl, rfl⟩, rfl⟩)
  have hself : WpL Proofs.Tryd.prog (mk Proofs.Tryd.prog (lookN types) glob 36) (Code.at [1, 1, 1, 0] (body Proofs.Tryd.f38)) (wr4 b) (fun e L' => e = .normal ∧ L' = wr5 b) := by
    rw [show Code.at [1, 1, 1, 0] (body Proofs.Tryd.f38) = .region 5 (rops (Code.at [1, 1, 1, 0] (body Proofs.Tryd.f38))) false from by kernel_rfl]
    exact WpL.selfFn (by kernel_rfl) (by kernel_rfl) (f := 120) (i := 1) (j := 5) (d := 14) (t := 131) (opAt (by kernel_rfl)) (opAt (by kernel_rfl)) types_ok (by kernel_rfl) (cells := cellsOf (bookD b)) (by kernel_rfl) (by kernel_rfl) (by kernel_rfl) (by kernel_rfl) (by kernel_rfl) (by decide) (by decide) (by decide) (by show 14 < 36; decide) (fun _ h => h) (fun _ h => h) rfl (k := 100) ⟨rfl, rfl⟩
  refine contract_of_wp types_ok rfl (fun _ h => h) (fun _ h => h) rfl rfl wr_fn ?_
  rw [show body Proofs.Tryd.f38 = .seq (Code.at [0] (body Proofs.Tryd.f38)) (.seq (Code.at [1, 0] (body Proofs.Tryd.f38)) (.seq (Code.at [1, 1, 0] (body Proofs.Tryd.f38)) (.seq (Code.at [1, 1, 1, 0] (body Proofs.Tryd.f38)) (Code.at [1, 1, 1, 1] (body Proofs.Tryd.f38))))) from by kernel_rfl]
  refine WpL.seq (WpL.path (G 36) (wr_0 b) trivial ?_)
  refine WpL.seq (WpL.path (G 36) (wr_1 b) ⟨hch, trivial⟩ ?_)
  refine WpL.seq (WpL.path (G 36) (wr_4 b) trivial ?_)
  refine WpL.seq (hself.mono fun e L' he => ?_)
  obtain ⟨rfl, rfl⟩ := he
  refine hrest.mono fun e L' he => ?_
  obtain ⟨rfl, rfl⟩ := he
  refine ⟨fun id h => (by cases h), ?_⟩
  exact ⟨[], by kernel_rfl, fun p hp => by cases hp⟩
theorem wrong_con {b : Book} (hs : Small b) : Contract Proofs.Tryd.prog glob 38 [bookD b] (.tup [.sl true .int (wrongAF b).1, .int .i64 (wrongAF b).2]) := by
  have hch := check_small hs
  unfold wrongAF
  by_cases h0 : checkF b = 0
  · rw [if_pos h0]
    rw [h0] at hch
    exact wrong_valid (valid_iff.1 (by
      unfold checkF at h0
      cases hv : validF b with
      | true => rfl
      | false => rw [hv] at h0; cases h0)) hch
  · rw [if_neg h0]
    exact contract_of_path (G 36) wr_fn (wr_bad b _) ⟨hch, by simpa using h0, trivial⟩
end Go.Di

namespace Go.Di
def rdSecs : List Sec := [⟨⟨40, 42⟩, ⟨1, 2⟩⟩, ⟨⟨38, 39⟩, ⟨0, 1⟩⟩]
def rdBook (turns : List Int) (svs : List Sv) : Book := ⟨rdSecs, turns, svs, 30, 12⟩
def ownB : Book := rdBook [6] []
def tornB : Book := rdBook [6] [⟨0, 6, 34, 1⟩, ⟨0, 6, 40, 1⟩]
def surveyedB : Book := rdBook [6] [⟨0, 6, 34, 1⟩]
def straightB : Book := rdBook [] []
end Go.Di

