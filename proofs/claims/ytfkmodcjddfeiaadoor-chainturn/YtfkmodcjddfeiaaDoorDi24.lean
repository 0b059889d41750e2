/- Part 24: an interpreter over plain data for this code, with the proof that it says what the model does, and the contracts of the functions. No condition. -/
import Derived.Test.YtfkmodcjddfeiaaDoorDi23
set_option linter.unusedVariables false
set_option linter.unusedSimpArgs false
namespace Go.Di

/-! ### The first day on which any section may be too thin -/
theorem lsoon_can {b : Book} (hs : Small b) (hV : Valid b) (hc : canF b = true) : Contract Proofs.Tryd.prog glob 56 [bookD b] (.int .i64 (soonestF b (truthsF b []) b.turns b.secs.length)) := by
  have hl := hV.secs
  have hdd := hV.days
  have hi64 : inI64 (b.days + 1) := by simp only [inI64]; omega
  have hloop : LoopT Proofs.Tryd.prog glob 35 (Code.at [1, 1, 0, 1] (body Proofs.Tryd.f56)) (lsoon_S0 b 0 (b.days + 1)) .normal (lsoon_S0 b b.secs.length (soonestF b (truthsF b []) b.turns b.secs.length)) := by
    refine LoopT.count (tt := lookN types) (id := 0) (c := Code.at [1, 1, 0, 1, 0, 0] (body Proofs.Tryd.f56)) (by kernel_rfl) b.secs.length (fun i => lsoon_S0 b i (soonestF b (truthsF b []) b.turns i)) (fun i hi => ?_) (WpL.path (G 35) (lsoon_0_end b _ _) ⟨decide_eq_false (Int.lt_irrefl _), trivial⟩ ⟨.inl ⟨rfl, rfl⟩, rfl⟩)
    have his : isSectionF b i = true := by simp only [isSectionF, within_iff]; omega
    have c := thinA_con hs i
    unfold thinAF at c
    rw [his, err_can (valid_iff.2 hV) hc] at c
    have hlt : decide ((i : Int) < b.secs.length) = true := decide_eq_true (by omega)
    have hi1 : inI64 ((i : Int) + 1) := by simp only [inI64]; omega
    rcases dayOr_cases (b := b) (thinF b (truthsF b []) b.turns i) with ⟨h, h'⟩ | ⟨h, h'⟩ <;> rw [h] at c
    · have e : soonestF b (truthsF b []) b.turns (i + 1) = soonestF b (truthsF b []) b.turns i := by
        have := soonest_le b (truthsF b []) b.turns i
        simp only [soonestF, mn]
        rw [if_neg (by omega)]
      refine WpL.path (G 35) (lsoon_0_none b i _) ?_ ⟨rfl, ?_⟩
      · repeat (first | exact trivial | refine ⟨by first | exact hlt | exact c | exact hi1 | rfl | omega, ?_⟩)
      · show _ = lsoon_S0 b (i + 1) (soonestF b (truthsF b []) b.turns (i + 1))
        rw [e]
        rfl
    · refine WpL.path (G 35) (lsoon_0_ok b i _ (thinF b (truthsF b []) b.turns i)) ?_ ⟨rfl, rfl⟩
      repeat (first | exact trivial | refine ⟨by first | exact hlt | exact c | exact hi1 | rfl | omega, ?_⟩)
  refine contract_of_path (G 35) lsoon_fn (lsoon_all b b.secs.length (soonestF b (truthsF b []) b.turns b.secs.length)) ?_
  repeat (first | exact trivial | refine ⟨by first | exact hloop | exact hi64 | rfl | omega, ?_⟩)
theorem lsoon_false {b : Book} (hs : Small b) (hV : Valid b) (hc : canF b = false) : Contract Proofs.Tryd.prog glob 56 [bookD b] (.int .i64 (-1)) := by
  have hl := hV.secs
  have hdd := hV.days
  have hi64 : inI64 (b.days + 1) := by simp only [inI64]; omega
  have hloop : LoopT Proofs.Tryd.prog glob 35 (Code.at [1, 1, 0, 1] (body Proofs.Tryd.f56)) (lsoon_S0 b 0 (b.days + 1)) .ret (lsoon_T0_bad b 0 (b.days + 1)) := by
    refine LoopT.count (tt := lookN types) (id := 0) (c := Code.at [1, 1, 0, 1, 0, 0] (body Proofs.Tryd.f56)) (by kernel_rfl) 0 (fun i => lsoon_S0 b i (b.days + 1)) (fun i hi => by omega) (WpL.path (G 35) (lsoon_0_bad b 0 _) ?_ ⟨.inr ⟨rfl, rfl⟩, rfl⟩)
    have his : isSectionF b ((0 : Nat) : Int) = true := by simp only [isSectionF, within_iff]; omega
    have c := thinA_con hs ((0 : Nat) : Int)
    unfold thinAF dayOr at c
    rw [his, err_false (valid_iff.2 hV) hc, if_neg (by decide)] at c
    have hlt : decide (((0 : Nat) : Int) < b.secs.length) = true := decide_eq_true (by omega)
    repeat (first | exact trivial | refine ⟨by first | exact hlt | exact c | rfl | omega, ?_⟩)
  refine contract_of_path (G 35) lsoon_fn (lsoon_bad b 0 (b.days + 1)) ?_
  repeat (first | exact trivial | refine ⟨by first | exact hloop | exact hi64 | rfl | omega, ?_⟩)

/-! ### A turn more -/
def wthS (b : Book) (day : Int) (i : Nat) : List Int → List (Key × Val)
  | [] => wiA_S0 b day i
  | y :: r => wiB_S0 b day i y r
theorem wth_round (b : Book) (day : Int) (i : Nat) (o : List Int) (hi : (i : Int) + 1 ≤ b.days) (hd : b.days ≤ 1000) (hsz : o.length ≤ 1000) (ht : b.turns.length ≤ 1000) :
    WpL Proofs.Tryd.prog (mk Proofs.Tryd.prog (lookN types) glob 32) (Code.at [1, 1, 1, 0, 1, 0, 0] (body Proofs.Tryd.f57)) (wthS b day i o) fun e1 L1 => e1 = .normal ∧ L1 = wthS b day (i + 1) (if withP b day ((i : Int) + 1) = true then o ++ [(i : Int) + 1] else o) := by
  have hat := atB_con b.turns ((i : Int) + 1) (by omega)
  have hge := indexF_ge ((i : Int) + 1) b.turns 0
  have hlt : decide ((i : Int) + 1 ≤ b.days) = true := decide_eq_true hi
  have hi64 : inI64 ((i : Int) + 1 + 1) := by simp only [inI64]; omega
  have hz : ∀ y r, o = y :: r → (y :: r ++ [(i : Int) + 1]).length * (8 + 1) ≤ 140737488355328 := fun y r e => by subst e; simp only [List.length_append, List.length_cons, List.length_nil] at hsz ⊢; omega
  by_cases h1 : (i : Int) + 1 = day
  · have d1 : ((i : Int) + 1 == day) = true := by simpa using h1
    have hp : withP b day ((i : Int) + 1) = true := by unfold withP; rw [d1]; rfl
    rw [if_pos hp]
    cases o with
    | nil =>
      refine WpL.path (G 32) (wiA_0_eq b day i 0) ?_ ⟨rfl, rfl⟩
      repeat (first | exact trivial | refine ⟨by first | exact hlt | exact d1 | exact hi64 | rfl | omega | (simp; omega), ?_⟩)
    | cons y r =>
      have hz := hz y r rfl
      refine WpL.path (G 32) (wiB_0_eq b day i y r 0) ?_ ⟨rfl, rfl⟩
      repeat (first | exact trivial | refine ⟨by first | exact hlt | exact d1 | exact hi64 | exact hz | rfl | omega, ?_⟩)
  · have d1 : ((i : Int) + 1 == day) = false := by simpa using h1
    by_cases h2 : (i : Int) + 1 ∈ b.turns
    · have d2 : decide (indexF ((i : Int) + 1) b.turns 0 ≥ 0) = true := decide_eq_true (hge.2 h2)
      have hp : withP b day ((i : Int) + 1) = true := by unfold withP; rw [decide_eq_true h2]; simp
      rw [if_pos hp]
      cases o with
      | nil =>
        refine WpL.path (G 32) (wiA_0_at b day i (indexF ((i : Int) + 1) b.turns 0)) ?_ ⟨rfl, rfl⟩
        repeat (first | exact trivial | refine ⟨by first | exact hlt | exact hat | exact d1 | exact d2 | exact hi64 | rfl | omega | (simp; omega), ?_⟩)
      | cons y r =>
        have hz := hz y r rfl
        refine WpL.path (G 32) (wiB_0_at b day i y r (indexF ((i : Int) + 1) b.turns 0)) ?_ ⟨rfl, rfl⟩
        repeat (first | exact trivial | refine ⟨by first | exact hlt | exact hat | exact d1 | exact d2 | exact hi64 | exact hz | rfl | omega, ?_⟩)
    · have d2 : decide (indexF ((i : Int) + 1) b.turns 0 ≥ 0) = false := decide_eq_false fun h => h2 (hge.1 h)
      have hp : ¬ withP b day ((i : Int) + 1) = true := by unfold withP; rw [d1, decide_eq_false h2]; simp
      rw [if_neg hp]
      cases o with
      | nil =>
        refine WpL.path (G 32) (wiA_0_no b day i (indexF ((i : Int) + 1) b.turns 0)) ?_ ⟨rfl, rfl⟩
        repeat (first | exact trivial | refine ⟨by first | exact hlt | exact hat | exact d1 | exact d2 | exact hi64 | rfl | omega, ?_⟩)
      | cons y r =>
        refine WpL.path (G 32) (wiB_0_no b day i y r (indexF ((i : Int) + 1) b.turns 0)) ?_ ⟨rfl, rfl⟩
        repeat (first | exact trivial | refine ⟨by first | exact hlt | exact hat | exact d1 | exact d2 | exact hi64 | rfl | omega, ?_⟩)
theorem with_con {b : Book} (hV : Valid b) (day : Int) : Contract Proofs.Tryd.prog glob 57 [bookD b, .int .i64 day] (bookD (withF b day)) := by
  have hdd := hV.days
  have ht := hV.turns
  have hloop : LoopT Proofs.Tryd.prog glob 32 (Code.at [1, 1, 1, 0, 1] (body Proofs.Tryd.f57)) (wthS b day 0 []) .normal (wthS b day b.days.toNat (sel (withP b day) b.days.toNat)) := by
    refine LoopT.count (tt := lookN types) (id := 0) (c := Code.at [1, 1, 1, 0, 1, 0, 0] (body Proofs.Tryd.f57)) (by kernel_rfl) b.days.toNat (fun i => wthS b day i (sel (withP b day) i)) (fun i hi => ?_) ?_
    · have := sel_len (withP b day) i
      exact wth_round b day i _ (by omega) (by omega) (by omega) (by omega)
    · have hend : decide (((b.days.toNat : Nat) : Int) + 1 ≤ b.days) = false := decide_eq_false (by omega)
      cases sel (withP b day) b.days.toNat with
      | nil => exact WpL.path (G 32) (wiA_0_end b day _) ⟨hend, trivial⟩ ⟨.inl ⟨rfl, rfl⟩, rfl⟩
      | cons y r => exact WpL.path (G 32) (wiB_0_end b day _ y r) ⟨hend, trivial⟩ ⟨.inl ⟨rfl, rfl⟩, rfl⟩
  unfold withF
  cases hw : sel (withP b day) b.days.toNat with
  | nil =>
    rw [hw] at hloop
    refine (contract_of_path (G 32) wiA_fn (wiA_none b day b.days.toNat) ?_).toWeak
    repeat (first | exact trivial | refine ⟨by first | exact hloop | rfl | omega, ?_⟩)
  | cons y r =>
    rw [hw] at hloop
    refine (contract_of_path (G 32) wiA_fn (wiA_some b day b.days.toNat y r) ?_).toWeak
    repeat (first | exact trivial | refine ⟨by first | exact hloop | rfl | omega, ?_⟩)

/-! ### The law ChainTurn -/
theorem fromF_le {b : Book} {c : Int} (h1 : 1 ≤ c) (h : ∀ y ∈ b.svs, y.d ≤ c) : fromF b ≤ c := by
  have le : ∀ (l : List Sv) (a : Int), a ≤ c → (∀ y ∈ l, y.d ≤ c) → l.foldl (fun n y => mx n y.d) a ≤ c := by
    intro l
    induction l with
    | nil => exact fun a h _ => h
    | cons z l ih =>
      intro a h h'
      simp only [List.foldl_cons]
      refine ih _ ?_ fun x hx => h' x (by simp [hx])
      have := h' z (by simp)
      unfold mx
      split <;> omega
  unfold fromF fromGo
  rw [List.take_length]
  exact le b.svs 1 h1 h
theorem cturn_from {b : Book} (hV : Valid b) (n day e was : Int) :
    LoopT Proofs.Tryd.prog glob 134 (Code.at [1, 1, 1, 1, 1, 0, 1] (body Proofs.Tryd.f11)) (cturn_S0 b n day e was 0 1) .normal (cturn_S0 b n day e was b.svs.length (fromF b)) := by
  refine LoopT.count (tt := lookN types) (id := 0) (c := Code.at [1, 1, 1, 1, 1, 0, 1, 0, 0] (body Proofs.Tryd.f11)) (by kernel_rfl) b.svs.length (fun i => cturn_S0 b n day e was i (fromGo b i)) (fun i hi => ?_) ?_
  · have h8 := hV.svs
    have hf := take_foldl (fun n (y : Sv) => mx n y.d) b.svs (1 : Int) i sv0 hi
    have hlt : decide ((i : Int) < b.svs.length) = true := decide_eq_true (by omega)
    refine WpL.path (G 134) (cturn_0_on b n day e was i _) ?_ ⟨rfl, ?_⟩
    · repeat (first | exact trivial | refine ⟨by first | exact hlt | omega | (simp only [inI64]; omega), ?_⟩)
    · rw [show fromGo b (i + 1) = _ from hf]
      rfl
  · exact WpL.path (G 134) (cturn_0_end b n day e was _ _) ⟨decide_eq_false (Int.lt_irrefl _), trivial⟩ ⟨.inl ⟨rfl, rfl⟩, rfl⟩
theorem cturn_con {b : Book} (hs : Small b) (n : Int) : Contract Proofs.Tryd.prog glob 11 [bookD b, .int .i64 n] (.bool true) := by
  have hso := sound_con hs
  have hfg := forged_con
  cases hv : validF b with
  | false =>
    rw [hv] at hso
    refine contract_of_path (G 134) cturn_fn (cturn_bad b n) ?_
    repeat (first | exact trivial | refine ⟨by first | exact hso | exact hfg | rfl, ?_⟩)
  | true =>
    rw [hv] at hso
    have hV := valid_iff.1 hv
    have h4 := hV.turns
    by_cases hfull : (b.turns.length : Int) = 4
    · have hf : ((b.turns.length : Int) == 4) = true := by simpa using hfull
      refine contract_of_path (G 134) cturn_fn (cturn_full b n) ?_
      repeat (first | exact trivial | refine ⟨by first | exact hso | exact hfg | exact hf | rfl, ?_⟩)
    · have hf : ((b.turns.length : Int) == 4) = false := by simpa using hfull
      have h3 : b.turns.length ≤ 3 := by omega
      have hdd := hV.days
      have hsec := hV.secs
      have c1 := turnA_con hs
      unfold turnAF at c1
      cases hc : canF b with
      | false =>
        rw [err_false hv hc, if_neg (by decide)] at c1
        have c2 := lsoon_false hs hV hc
        refine contract_of_path (G 134) cturn_fn (cturn_neg b n (-1)) ?_
        repeat (first | exact trivial | refine ⟨by first | exact hso | exact hfg | exact hf | exact c1 | exact c2 | rfl, ?_⟩)
      | true =>
        rw [err_can hv hc, if_pos rfl] at c1
        have hne := ne_of_can hc
        have c2 := lsoon_can hs hV hc
        have hfr1 : 1 ≤ fromF b := (fromGo_in (b := b) (fun y hy => by have := (survey_iff.1 (hV.sv y hy)).2.1; omega) b.svs.length (Nat.le_refl _)).1
        have hfr2 : fromF b ≤ b.days := fromF_le hdd.1 fun y hy => (survey_iff.1 (hV.sv y hy)).2.1.2
        have hfrom := from_le (b := b)
        have hN : ((b.days + 1 - fromF b).toNat : Int) = b.days + 1 - fromF b := by omega
        have hsp := turn_spec b (truthsF b []) (fromF b) hfr1 (b.days + 1 - fromF b).toNat
        have hw0 := soonest_nonneg (b := b) (by omega) (truthsF b []) b.turns b.secs.length
        have dw : decide (soonestF b (truthsF b []) b.turns b.secs.length < 0) = false := decide_eq_false (by omega)
        have hmod := modB_con n (b.days - fromF b + 1) (by omega)
        have hmi := modF_in (n := n) (m := b.days - fromF b + 1) (by omega)
        generalize modF n (b.days - fromF b + 1) = k at hmod hmi
        have hat := atB_con b.turns (fromF b + k) (by omega)
        have hge := indexF_ge (fromF b + k) b.turns 0
        have i1 : inI64 (b.days - fromF b) := by simp only [inI64]; omega
        have i2 : inI64 (b.days - fromF b + 1) := by simp only [inI64]; omega
        have i3 : inI64 (fromF b + k) := by simp only [inI64]; omega
        -- what another turn comes to
        have wsmall : ∀ d, Small (withF b d) := fun d => ⟨hs.secs, by
          have := sel_len (withP b d) b.days.toNat
          show (sel (withP b d) b.days.toNat).length ≤ _
          omega, hs.svs⟩
        have wsoon : ∀ d, fromF b ≤ d → d ≤ b.days → d ∉ b.turns → Contract Proofs.Tryd.prog glob 56 [bookD (withF b d)] (.int .i64 (soonestF b (truthsF b []) (b.turns ++ [d]) b.secs.length)) := fun d h1 h2 h3' => by
          have hd : 1 ≤ d ∧ d ≤ b.days := ⟨by omega, h2⟩
          have hsv : ∀ y ∈ b.svs, y.d ≤ d := fun y hy => by have := hfrom y hy; omega
          have := lsoon_can (wsmall d) (with_valid hV h3 d) (can_true ((with_can hV hd h3' hsv).2 hne))
          rwa [show soonestF (withF b d) (truthsF (withF b d) []) (withF b d).turns (withF b d).secs.length = _ from with_soonest hV hd h3' hsv hne b.secs.length (Nat.le_refl _)] at this
        have hL0 := soonest_nonneg (b := b) (by omega) (truthsF b []) (b.turns ++ [fromF b + k]) b.secs.length
        have dL : decide (soonestF b (truthsF b []) (b.turns ++ [fromF b + k]) b.secs.length ≥ 0) = true := decide_eq_true hL0
        have hwo := with_con hV (fromF b + k)
        have hnot : ¬ (fromF b + k ∈ b.turns) → decide (indexF (fromF b + k) b.turns 0 ≥ 0) = false := fun h => decide_eq_false fun h' => h (hge.1 h')
        unfold turnLF at c1
        generalize turnGo b (truthsF b []) (fromF b) (b.days + 1 - fromF b).toNat = p at c1 hsp
        rw [hN] at hsp
        rcases hsp with ⟨p1, p2, p3⟩ | ⟨p1, p1', p2, p3, p4, p5⟩
        · rw [if_pos p1] at c1
          have hloop := cturn_from hV n 0 4 (soonestF b (truthsF b []) b.turns b.secs.length)
          by_cases hm : fromF b + k ∈ b.turns
          · have d1 : decide (indexF (fromF b + k) b.turns 0 ≥ 0) = true := decide_eq_true (hge.2 hm)
            refine contract_of_path (G 134) cturn_fn (cturn_has4 b n 0 (soonestF b (truthsF b []) b.turns b.secs.length) k 0 (indexF (fromF b + k) b.turns 0) 0 0 (fromF b) b.svs.length b b) ?_
            repeat (first | exact trivial | refine ⟨by first | exact hso | exact hfg | exact hf | exact c1 | exact c2 | exact dw | exact hloop | exact hmod | exact hat | exact d1 | exact i1 | exact i2 | exact i3 | rfl | omega, ?_⟩)
          · have d1 := hnot hm
            have c3 := wsoon _ (by omega) (by omega) hm
            have hle := p3 (fromF b + k) (by omega) (by omega) hm
            by_cases hlt : soonestF b (truthsF b []) (b.turns ++ [fromF b + k]) b.secs.length < soonestF b (truthsF b []) b.turns b.secs.length
            · have d2 : decide (soonestF b (truthsF b []) (b.turns ++ [fromF b + k]) b.secs.length < soonestF b (truthsF b []) b.turns b.secs.length) = true := decide_eq_true hlt
              refine contract_of_path (G 134) cturn_fn (cturn_lt4 b n 0 (soonestF b (truthsF b []) b.turns b.secs.length) k 0 (indexF (fromF b + k) b.turns 0) (soonestF b (truthsF b []) (b.turns ++ [fromF b + k]) b.secs.length) 0 (fromF b) b.svs.length b (withF b (fromF b + k))) ?_
              repeat (first | exact trivial | refine ⟨by first | exact hso | exact hfg | exact hf | exact c1 | exact c2 | exact c3 | exact dw | exact dL | exact hwo | exact hloop | exact hmod | exact hat | exact d1 | exact d2 | exact i1 | exact i2 | exact i3 | rfl | omega, ?_⟩)
            · have d2 : decide (soonestF b (truthsF b []) (b.turns ++ [fromF b + k]) b.secs.length < soonestF b (truthsF b []) b.turns b.secs.length) = false := decide_eq_false hlt
              have d3 : (soonestF b (truthsF b []) (b.turns ++ [fromF b + k]) b.secs.length == soonestF b (truthsF b []) b.turns b.secs.length) = true := by rw [beq_iff_eq]; omega
              refine contract_of_path (G 134) cturn_fn (cturn_eq4 b n 0 (soonestF b (truthsF b []) b.turns b.secs.length) k 0 (indexF (fromF b + k) b.turns 0) (soonestF b (truthsF b []) (b.turns ++ [fromF b + k]) b.secs.length) 0 (fromF b) b.svs.length b (withF b (fromF b + k))) ?_
              repeat (first | exact trivial | refine ⟨by first | exact hso | exact hfg | exact hf | exact c1 | exact c2 | exact c3 | exact dw | exact dL | exact hwo | exact hloop | exact hmod | exact hat | exact d1 | exact d2 | exact d3 | exact i1 | exact i2 | exact i3 | rfl | omega, ?_⟩)
        · rw [if_neg (by omega)] at c1
          have hloop := cturn_from hV n p.1 0 (soonestF b (truthsF b []) b.turns b.secs.length)
          have hwd := with_con hV p.1
          have c4 := wsoon p.1 p1 (by omega) p2
          rw [← p3] at c4
          have hin := inside_con p.1 (fromF b) b.days
          rw [show insideF p.1 (fromF b) b.days = true by simp only [insideF, Bool.and_eq_true, decide_eq_true_eq]; omega] at hin
          have hat' := atB_con b.turns p.1 (by omega)
          have e1 : decide (indexF p.1 b.turns 0 ≥ 0) = false := decide_eq_false fun h' => p2 ((indexF_ge p.1 b.turns 0).1 h')
          have e2 : decide (p.2 ≤ soonestF b (truthsF b []) b.turns b.secs.length) = false := decide_eq_false (by omega)
          by_cases hm : fromF b + k ∈ b.turns
          · have d1 : decide (indexF (fromF b + k) b.turns 0 ≥ 0) = true := decide_eq_true (hge.2 hm)
            refine contract_of_path (G 134) cturn_fn (cturn_has0 b n p.1 (soonestF b (truthsF b []) b.turns b.secs.length) k (indexF p.1 b.turns 0) (indexF (fromF b + k) b.turns 0) 0 p.2 (fromF b) b.svs.length (withF b p.1) b) ?_
            repeat (first | exact trivial | refine ⟨by first | exact hso | exact hfg | exact hf | exact c1 | exact c2 | exact c4 | exact dw | exact hwd | exact hin | exact hat' | exact e1 | exact e2 | exact hloop | exact hmod | exact hat | exact d1 | exact i1 | exact i2 | exact i3 | rfl | omega, ?_⟩)
          · have d1 := hnot hm
            have c3 := wsoon _ (by omega) (by omega) hm
            have hle := p5 (fromF b + k) (by omega) (by omega) hm
            by_cases hlt : soonestF b (truthsF b []) (b.turns ++ [fromF b + k]) b.secs.length < p.2
            · have d2 : decide (soonestF b (truthsF b []) (b.turns ++ [fromF b + k]) b.secs.length < p.2) = true := decide_eq_true hlt
              refine contract_of_path (G 134) cturn_fn (cturn_lt0 b n p.1 (soonestF b (truthsF b []) b.turns b.secs.length) k (indexF p.1 b.turns 0) (indexF (fromF b + k) b.turns 0) (soonestF b (truthsF b []) (b.turns ++ [fromF b + k]) b.secs.length) p.2 (fromF b) b.svs.length (withF b p.1) (withF b (fromF b + k))) ?_
              repeat (first | exact trivial | refine ⟨by first | exact hso | exact hfg | exact hf | exact c1 | exact c2 | exact c3 | exact c4 | exact dw | exact dL | exact hwd | exact hwo | exact hin | exact hat' | exact e1 | exact e2 | exact hloop | exact hmod | exact hat | exact d1 | exact d2 | exact i1 | exact i2 | exact i3 | rfl | omega, ?_⟩)
            · have d2 : decide (soonestF b (truthsF b []) (b.turns ++ [fromF b + k]) b.secs.length < p.2) = false := decide_eq_false hlt
              have d3 : (soonestF b (truthsF b []) (b.turns ++ [fromF b + k]) b.secs.length == p.2) = true := by rw [beq_iff_eq]; omega
              have d4 : decide (fromF b + k ≥ p.1) = true := decide_eq_true (by
                by_cases h : fromF b + k ≥ p.1
                · exact h
                · have := hle.2 (by omega)
                  omega)
              refine contract_of_path (G 134) cturn_fn (cturn_eq0 b n p.1 (soonestF b (truthsF b []) b.turns b.secs.length) k (indexF p.1 b.turns 0) (indexF (fromF b + k) b.turns 0) (soonestF b (truthsF b []) (b.turns ++ [fromF b + k]) b.secs.length) p.2 (fromF b) b.svs.length (withF b p.1) (withF b (fromF b + k))) ?_
              repeat (first | exact trivial | refine ⟨by first | exact hso | exact hfg | exact hf | exact c1 | exact c2 | exact c3 | exact c4 | exact dw | exact dL | exact hwd | exact hwo | exact hin | exact hat' | exact e1 | exact e2 | exact hloop | exact hmod | exact hat | exact d1 | exact d2 | exact d3 | exact d4 | exact i1 | exact i2 | exact i3 | rfl | omega, ?_⟩)
end Go.Di

