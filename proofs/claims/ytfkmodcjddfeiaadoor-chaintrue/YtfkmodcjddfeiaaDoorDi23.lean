/- Part 23: an interpreter over plain data for this code, with the proof that it says what the model does, and the contracts of the functions. No condition. -/
import Derived.Test.YtfkmodcjddfeiaaDoorDi22
set_option linter.unusedVariables false
set_option linter.unusedSimpArgs false
namespace Go.Di

/-! ### Truths, and what they let be -/
def wOf (u : TrC) : W4 := ⟨u.w0, u.w1, u.w2, u.w3⟩
theorem Valid.wlo {b : Book} (hV : Valid b) (p : Nat) : 0 ≤ (b.secs.getD p sec0).w.lo := by
  by_cases h : p < b.secs.length
  · exact (hV.sec _ (getD_mem b.secs p sec0 h)).w.1
  · rw [List.getD_eq_getElem?_getD, List.getElem?_eq_none (by omega)]
    decide
theorem Valid.svs0 {b : Book} (hV : Valid b) : ∀ y ∈ b.svs, 0 ≤ y.s := fun y hy => (survey_iff.1 (hV.sv y hy)).1.1
/-- What is asked of a book, that its truths can be told. -/
structure Base (b : Book) : Prop where
  n4 : b.secs.length ≤ 4
  wlo : ∀ p : Nat, 0 ≤ (b.secs.getD p sec0).w.lo
  svs0 : ∀ y ∈ b.svs, 0 ≤ y.s
theorem Valid.base {b : Book} (hV : Valid b) : Base b := ⟨hV.secs.2, hV.wlo, hV.svs0⟩
theorem Base.more {b : Book} (hB : Base b) {y : Sv} (hy : 0 ≤ y.s) : Base (more b y) := ⟨hB.n4, hB.wlo, fun z hz => by
  rcases List.mem_append.1 hz with hz | hz
  · exact hB.svs0 z hz
  · simp only [List.mem_singleton] at hz
    subst hz
    exact hy⟩
/-- Which truths there are. -/
theorem truth_mem {b : Book} (hV : Base b) (but : List Int) (u : TrC) : u ∈ truthsF b but ↔ ∃ x : W4, (∀ p < b.secs.length, (b.secs.getD p sec0).w.lo ≤ x.at p ∧ x.at p ≤ (b.secs.getD p sec0).w.hi) ∧ (∀ p, b.secs.length ≤ p → x.at p = 0) ∧
    (∀ k, k < b.secs.length → (rightF b (openF b but) x.a x.b x.c x.d k).lo ≤ (rightF b (openF b but) x.a x.b x.c x.d k).hi) ∧ u = leafSet b (openF b but) x b.secs.length 0 (trOf x) := by
  have h4 := hV.n4
  have h0 : ∀ q : Nat, (⟨0, 0, 0, 0⟩ : W4).at q = 0 := fun q => by
    match q with
    | 0 => rfl
    | 1 => rfl
    | 2 => rfl
    | 3 => rfl
    | q + 4 => simp [W4.at]
  unfold truthsF
  rw [whole_mem (openF b but) u hV.wlo b.secs.length 0 ⟨0, 0, 0, 0⟩ (by omega)]
  unfold leafF
  constructor
  · rintro ⟨y, h1, h2, h3⟩
    obtain ⟨h5, h6⟩ := (leafGo_mem b _ y u _ _ _).1 h3
    exact ⟨y, fun p hp => h2 p (Nat.zero_le _) (by omega), fun p hp => (h1 p (by omega)).trans (h0 p), fun k hk => h5 k (Nat.zero_le _) (by omega), h6⟩
  · rintro ⟨x, h1, h2, h3, h5⟩
    exact ⟨x, fun q hq => (h2 q (by omega)).trans (h0 q).symm, fun q _ hq => h1 q (by omega), (leafGo_mem b _ x u _ _ _).2 ⟨fun k _ hk => h3 k (by omega), h5⟩⟩
theorem leaf_wOf (b : Book) (l : List Ent) (x : W4) (f : Nat) : wOf (leafSet b l x f 0 (trOf x)) = x := by
  obtain ⟨h1, h2, h3, h4⟩ := leafSet_w b l x f 0 (trOf x)
  unfold wOf
  rw [h1, h2, h3, h4]
  rfl
/-- What is in a truth can be. -/
theorem feas_of_truth {b : Book} (hV : Base b) {but : List Int} {u : TrC} (hu : u ∈ truthsF b but) {T : Nat → Int} (hT : ∀ k : Nat, k < b.secs.length → (firstF u k).lo ≤ T k ∧ T k ≤ (firstF u k).hi) : Feas b but T (wOf u) := by
  have h4 := hV.n4
  obtain ⟨x, h1, h2, h3, rfl⟩ := (truth_mem hV but u).1 hu
  rw [leaf_wOf]
  have hf : ∀ k : Nat, k < b.secs.length → firstF (leafSet b (openF b but) x b.secs.length 0 (trOf x)) k = rightF b (openF b but) x.a x.b x.c x.d k := fun k hk => by
    rw [leafSet_first b _ x _ 0 _ (by omega) k (by omega), if_pos (by omega)]
  have hr : ∀ k : Nat, k < b.secs.length → ((b.secs.getD k sec0).t.lo ≤ T k ∧ T k ≤ (b.secs.getD k sec0).t.hi) ∧ ∀ i < b.svs.length, (i : Int) ∉ but → SatY b x k (T k) (svZ b i) := fun k hk => by
    have := hT k hk
    rw [hf k hk] at this
    exact (right_mem but hV.svs0 k (T k)).1 this
  exact ⟨h1, h2, fun k hk => (hr k hk).1, fun i hi hn k hk => (hr k hk).2 i hi hn⟩
/-- What can be is in a truth. -/
theorem truth_of_feas {b : Book} (hV : Base b) {but : List Int} {T : Nat → Int} {x : W4} (h : Feas b but T x) : ∃ u ∈ truthsF b but, wOf u = x ∧ ∀ k : Nat, k < b.secs.length → (firstF u k).lo ≤ T k ∧ T k ≤ (firstF u k).hi := by
  have h4 := hV.n4
  have hr : ∀ k : Nat, k < b.secs.length → (rightF b (openF b but) x.a x.b x.c x.d k).lo ≤ T k ∧ T k ≤ (rightF b (openF b but) x.a x.b x.c x.d k).hi := fun k hk =>
    (right_mem but hV.svs0 k (T k)).2 ⟨h.thick k hk, fun i hi hn => h.right i hi hn k hk⟩
  refine ⟨leafSet b (openF b but) x b.secs.length 0 (trOf x), (truth_mem hV but _).2 ⟨x, h.wear, h.zero, fun k hk => by have := hr k hk; omega, rfl⟩, leaf_wOf _ _ _ _, fun k hk => ?_⟩
  rw [leafSet_first b _ x _ 0 _ (by omega) k (by omega), if_pos (by omega)]
  exact hr k hk
theorem truth_full {b : Book} (hV : Base b) {but : List Int} {u : TrC} (hu : u ∈ truthsF b but) (k : Nat) (hk : k < b.secs.length) : (firstF u k).lo ≤ (firstF u k).hi := by
  have h4 := hV.n4
  obtain ⟨x, h1, h2, h3, rfl⟩ := (truth_mem hV but u).1 hu
  rw [leafSet_first b _ x _ 0 _ (by omega) k (by omega), if_pos (by omega)]
  exact h3 k hk
/-- A book can be true just if something can be. -/
theorem can_iff {b : Book} (hV : Base b) (but : List Int) : truthsF b but ≠ [] ↔ ∃ T x, Feas b but T x := by
  constructor
  · intro h
    obtain ⟨u, hu⟩ := List.exists_mem_of_ne_nil _ h
    exact ⟨fun k => (firstF u k).lo, wOf u, feas_of_truth hV hu fun k hk => ⟨Int.le_refl _, truth_full hV hu k hk⟩⟩
  · rintro ⟨T, x, h⟩ h0
    obtain ⟨u, hu, _⟩ := truth_of_feas hV h
    rw [h0] at hu
    cases hu

/-! ### What is told of all truths -/
theorem told_fold (g : TrC → Span) : ∀ (ts : List TrC) (s : Span), ((ts.foldl (fun o t => hullF o (g t)) s).lo = s.lo ∨ ∃ t ∈ ts, (ts.foldl (fun o t => hullF o (g t)) s).lo = (g t).lo) ∧ ((ts.foldl (fun o t => hullF o (g t)) s).hi = s.hi ∨ ∃ t ∈ ts, (ts.foldl (fun o t => hullF o (g t)) s).hi = (g t).hi) ∧
    (ts.foldl (fun o t => hullF o (g t)) s).lo ≤ s.lo ∧ s.hi ≤ (ts.foldl (fun o t => hullF o (g t)) s).hi ∧ ∀ t ∈ ts, (ts.foldl (fun o t => hullF o (g t)) s).lo ≤ (g t).lo ∧ (g t).hi ≤ (ts.foldl (fun o t => hullF o (g t)) s).hi
  | [], s => ⟨.inl rfl, .inl rfl, Int.le_refl _, Int.le_refl _, fun t ht => by cases ht⟩
  | t :: ts, s => by
    obtain ⟨h1, h2, h3, h4, h5⟩ := told_fold g ts (hullF s (g t))
    have e1 : (hullF s (g t)).lo = s.lo ∨ (hullF s (g t)).lo = (g t).lo := by simp only [hullF, mn]; split <;> simp
    have e2 : (hullF s (g t)).hi = s.hi ∨ (hullF s (g t)).hi = (g t).hi := by simp only [hullF, mx]; split <;> simp
    have e3 : (hullF s (g t)).lo ≤ s.lo ∧ (hullF s (g t)).lo ≤ (g t).lo := by simp only [hullF, mn]; split <;> omega
    have e4 : s.hi ≤ (hullF s (g t)).hi ∧ (g t).hi ≤ (hullF s (g t)).hi := by simp only [hullF, mx]; split <;> omega
    simp only [List.foldl_cons]
    refine ⟨?_, ?_, by omega, by omega, fun u hu => ?_⟩
    · rcases h1 with h1 | ⟨u, hu, h1⟩
      · rcases e1 with e1 | e1
        · exact .inl (h1.trans e1)
        · exact .inr ⟨t, by simp, h1.trans e1⟩
      · exact .inr ⟨u, by simp [hu], h1⟩
    · rcases h2 with h2 | ⟨u, hu, h2⟩
      · rcases e2 with e2 | e2
        · exact .inl (h2.trans e2)
        · exact .inr ⟨t, by simp, h2.trans e2⟩
      · exact .inr ⟨u, by simp [hu], h2⟩
    · rcases List.mem_cons.1 hu with rfl | hu
      · omega
      · exact h5 u hu
theorem told_spec (g : TrC → Span) {ts : List TrC} (hne : ts ≠ []) : (∃ t ∈ ts, (toldF g ts).lo = (g t).lo) ∧ (∃ t ∈ ts, (toldF g ts).hi = (g t).hi) ∧ ∀ t ∈ ts, (toldF g ts).lo ≤ (g t).lo ∧ (g t).hi ≤ (toldF g ts).hi := by
  obtain ⟨h1, h2, _, _, h5⟩ := told_fold g ts (g (ts.getD 0 trc0))
  have h0 : ts.getD 0 trc0 ∈ ts := getD_mem ts 0 trc0 (List.length_pos_iff.2 hne)
  refine ⟨?_, ?_, h5⟩
  · rcases h1 with h1 | h1
    · exact ⟨_, h0, h1⟩
    · exact h1
  · rcases h2 with h2 | h2
    · exact ⟨_, h0, h2⟩
    · exact h2
/-- How much a section is worn. -/
def wornX (b : Book) (turns : List Int) (x : W4) (k : Nat) (d : Int) : Int := wornF b.secs.length x.a x.b x.c x.d turns k d.toNat
theorem wornT_eq (b : Book) (turns : List Int) (k : Nat) (d : Int) (u : TrC) : wornT b turns k d u = wornX b turns (wOf u) k d := rfl
theorem thick_in {b : Book} (hV : Base b) {but : List Int} {T : Nat → Int} {x : W4} (h : Feas b but T x) (turns : List Int) (k : Nat) (hk : k < b.secs.length) (d : Int) :
    (thickF b (truthsF b but) turns k d).lo ≤ T k - wornX b turns x k d ∧ T k - wornX b turns x k d ≤ (thickF b (truthsF b but) turns k d).hi := by
  obtain ⟨u, hu, rfl, hf⟩ := truth_of_feas hV h
  have hne : truthsF b but ≠ [] := fun e => by rw [e] at hu; cases hu
  have := (told_spec (thick1F b turns k d) hne).2.2 u hu
  have hk' := hf k hk
  simp only [thick1F, wornT_eq] at this
  unfold thickF
  omega
theorem thick_lo {b : Book} (hV : Base b) {but : List Int} (hne : truthsF b but ≠ []) (turns : List Int) (k : Nat) (hk : k < b.secs.length) (d : Int) : ∃ T x, Feas b but T x ∧ T k - wornX b turns x k d = (thickF b (truthsF b but) turns k d).lo := by
  obtain ⟨u, hu, h⟩ := (told_spec (thick1F b turns k d) hne).1
  exact ⟨fun k => (firstF u k).lo, wOf u, feas_of_truth hV hu fun k hk => ⟨Int.le_refl _, truth_full hV hu k hk⟩, h.symm⟩
theorem thick_hi {b : Book} (hV : Base b) {but : List Int} (hne : truthsF b but ≠ []) (turns : List Int) (k : Nat) (hk : k < b.secs.length) (d : Int) : ∃ T x, Feas b but T x ∧ T k - wornX b turns x k d = (thickF b (truthsF b but) turns k d).hi := by
  obtain ⟨u, hu, h⟩ := (told_spec (thick1F b turns k d) hne).2.1
  exact ⟨fun k => (firstF u k).hi, wOf u, feas_of_truth hV hu fun k hk => ⟨truth_full hV hu k hk, Int.le_refl _⟩, h.symm⟩
theorem wearAt_eq (p : Nat) (u : TrC) : wearAt p u = ⟨(wOf u).at p, (wOf u).at p⟩ := by
  unfold wearAt
  rw [Int.toNat_natCast]
  rfl
theorem wear_in {b : Book} (hV : Base b) {but : List Int} {T : Nat → Int} {x : W4} (h : Feas b but T x) (p : Nat) : (toldF (wearAt p) (truthsF b but)).lo ≤ x.at p ∧ x.at p ≤ (toldF (wearAt p) (truthsF b but)).hi := by
  obtain ⟨u, hu, rfl, _⟩ := truth_of_feas hV h
  have hne : truthsF b but ≠ [] := fun e => by rw [e] at hu; cases hu
  have := (told_spec (wearAt p) hne).2.2 u hu
  rw [wearAt_eq] at this
  exact this
theorem wear_lo {b : Book} (hV : Base b) {but : List Int} (hne : truthsF b but ≠ []) (p : Nat) : ∃ T x, Feas b but T x ∧ x.at p = (toldF (wearAt p) (truthsF b but)).lo := by
  obtain ⟨u, hu, h⟩ := (told_spec (wearAt p) hne).1
  rw [wearAt_eq] at h
  exact ⟨fun k => (firstF u k).lo, wOf u, feas_of_truth hV hu fun k hk => ⟨Int.le_refl _, truth_full hV hu k hk⟩, h.symm⟩
theorem wear_hi {b : Book} (hV : Base b) {but : List Int} (hne : truthsF b but ≠ []) (p : Nat) : ∃ T x, Feas b but T x ∧ x.at p = (toldF (wearAt p) (truthsF b but)).hi := by
  obtain ⟨u, hu, h⟩ := (told_spec (wearAt p) hne).2.1
  rw [wearAt_eq] at h
  exact ⟨fun k => (firstF u k).lo, wOf u, feas_of_truth hV hu fun k hk => ⟨Int.le_refl _, truth_full hV hu k hk⟩, h.symm⟩

/-! ### One survey more -/
theorem feas_more {b : Book} {y : Sv} {T : Nat → Int} {x : W4} (hy : 0 ≤ y.s ∧ y.s < b.secs.length) : Feas (more b y) [] T x ↔ Feas b [] T x ∧ (y.r - y.e + wornX b b.turns x y.s.toNat y.d ≤ T y.s.toNat ∧ T y.s.toNat ≤ y.r + y.e + wornX b b.turns x y.s.toNat y.d) := by
  have hlen : (more b y).svs.length = b.svs.length + 1 := by simp [more]
  have old : ∀ i, i < b.svs.length → svZ (more b y) i = svZ b i := fun i hi => by
    show (b.svs ++ [y]).getD i sv0 = b.svs.getD i sv0
    rw [List.getD_eq_getElem?_getD, List.getD_eq_getElem?_getD, List.getElem?_append_left hi]
  have new : svZ (more b y) b.svs.length = y := by
    show (b.svs ++ [y]).getD b.svs.length sv0 = y
    rw [List.getD_eq_getElem?_getD, List.getElem?_append_right (Nat.le_refl _)]
    simp
  have hcast : ((y.s.toNat : Nat) : Int) = y.s := by omega
  constructor
  · intro h
    refine ⟨⟨h.wear, h.zero, h.thick, fun i hi hn k hk => ?_⟩, ?_⟩
    · have := h.right i (by omega) hn k hk
      rw [old i hi] at this
      exact this
    · have := h.right b.svs.length (by omega) (by simp) y.s.toNat (by show _ < b.secs.length; omega)
      rw [new] at this
      exact this hcast.symm
  · rintro ⟨h, h1, h2⟩
    refine ⟨h.wear, h.zero, h.thick, fun i hi hn k hk => ?_⟩
    by_cases e : i = b.svs.length
    · subst e
      rw [new]
      intro hs
      have hk' : k = y.s.toNat := by omega
      subst hk'
      exact ⟨h1, h2⟩
    · rw [old i (by omega)]
      exact h.right i (by omega) hn k hk
end Go.Di

namespace Go.Di
theorem cends_fn : FnOk Proofs.Tryd.prog (mk Proofs.Tryd.prog (lookN types) glob 109) 7 (body Proofs.Tryd.f7) [.tmp 4] := ⟨Proofs.Tryd.f7, by kernel_rfl, by kernel_rfl, by kernel_rfl, by kernel_rfl, by kernel_rfl⟩
def cends_S0 (b : Book) (n0 n1 : Int) (i d : Int) (s : Span) (k : Nat) : List (Key × Val) :=
  [(.tmp 2, .d (D.ptr 2 0)),
   (.tmp 5, .d (D.int .i64 i)),
   (.tmp 6, .d (D.int .i64 d)),
   (.tmp 11, .d (D.sl true E.int [Span.lo s, Span.hi s, Span.lo s - (1 : Int), Span.hi s + (1 : Int)])),
   (.tmp 12, .d (.int .i64 k)),
   (.box 2, .bx (some (Box.mk false (cellsOf (bookD b)))))]
def cends_K0 : List Key := [.tmp 2, .tmp 5, .tmp 6, .tmp 11, .tmp 12, .box 2]
theorem cends_0_near (b : Book) (n0 n1 : Int) (i d : Int) (s : Span) (k : Nat) (t : Bool) :
    runK (mk Proofs.Tryd.prog (lookN types) glob 109) [(77, true), (107, false)] [(84, .bool true), (96, svD ⟨i, d, ([s.lo, s.hi, s.lo - 1, s.hi + 1] : List Int).getD k 0, 0⟩), (97, .tup [.bool t, .int .i64 0])] [] (Code.at [1, 1, 1, 1, 1, 1, 0, 1, 0, 0] (body Proofs.Tryd.f7)) (cends_S0 b n0 n1 i d s k) cends_K0 =
      some ([decide ((Nat.cast : Nat → Int) k < (Nat.cast : Nat → Int) 4) = true, (0 : Int) ≤ (Nat.cast : Nat → Int) k ∧ (Nat.cast : Nat → Int) k < (Nat.cast : Nat → Int) 4, 0 + 1 ≤ 1, Contract Proofs.Tryd.prog glob 50 [D.int .i64 (List.getD [Span.lo s, Span.hi s, Span.lo s - (1 : Int), Span.hi s + (1 : Int)] (Int.toNat ((Nat.cast : Nat → Int) k)) (E.z E.int)), D.int .i64 (0 : Int), D.int .i64 (200 : Int)] (D.bool true), (0 : Int) ≤ (Nat.cast : Nat → Int) k ∧ (Nat.cast : Nat → Int) k < (Nat.cast : Nat → Int) 4, 0 + 1 ≤ 1, Contract Proofs.Tryd.prog glob 48 [D.int .i64 i, D.int .i64 d, D.int .i64 (List.getD [Span.lo s, Span.hi s, Span.lo s - (1 : Int), Span.hi s + (1 : Int)] (Int.toNat ((Nat.cast : Nat → Int) k)) (E.z E.int)), D.int .i64 (0 : Int)] (D.agg [D.int .i64 (Sv.s (Sv.mk i d (List.getD [Span.lo s, Span.hi s, Span.lo s - (1 : Int), Span.hi s + (1 : Int)] k (0 : Int)) (0 : Int))), D.int .i64 (Sv.d (Sv.mk i d (List.getD [Span.lo s, Span.hi s, Span.lo s - (1 : Int), Span.hi s + (1 : Int)] k (0 : Int)) (0 : Int))), D.int .i64 (Sv.r (Sv.mk i d (List.getD [Span.lo s, Span.hi s, Span.lo s - (1 : Int), Span.hi s + (1 : Int)] k (0 : Int)) (0 : Int))), D.int .i64 (Sv.e (Sv.mk i d (List.getD [Span.lo s, Span.hi s, Span.lo s - (1 : Int), Span.hi s + (1 : Int)] k (0 : Int)) (0 : Int)))]), Contract Proofs.Tryd.prog glob 47 [bookD b, D.agg [D.int .i64 (Sv.s (Sv.mk i d (List.getD [Span.lo s, Span.hi s, Span.lo s - (1 : Int), Span.hi s + (1 : Int)] k (0 : Int)) (0 : Int))), D.int .i64 (Sv.d (Sv.mk i d (List.getD [Span.lo s, Span.hi s, Span.lo s - (1 : Int), Span.hi s + (1 : Int)] k (0 : Int)) (0 : Int))), D.int .i64 (Sv.r (Sv.mk i d (List.getD [Span.lo s, Span.hi s, Span.lo s - (1 : Int), Span.hi s + (1 : Int)] k (0 : Int)) (0 : Int))), D.int .i64 (Sv.e (Sv.mk i d (List.getD [Span.lo s, Span.hi s, Span.lo s - (1 : Int), Span.hi s + (1 : Int)] k (0 : Int)) (0 : Int)))]] (D.tup [D.bool t, D.int .i64 (0 : Int)]), (!t == decide ((Nat.cast : Nat → Int) k < (2 : Int))) = false, inI64 ((Nat.cast : Nat → Int) k + (1 : Int))], Ex.normal, [(.tmp 2, .d (D.ptr 2 0)), (.tmp 5, .d (D.int .i64 i)), (.tmp 6, .d (D.int .i64 d)), (.tmp 11, .d (D.sl true E.int [Span.lo s, Span.hi s, Span.lo s - (1 : Int), Span.hi s + (1 : Int)])), (.tmp 12, .d (D.int .i64 ((Nat.cast : Nat → Int) k + (1 : Int)))), (.box 2, .bx (some (Box.mk false (cellsOf (bookD b)))))]) := by kernel_rfl
theorem cends_0_out (b : Book) (n0 n1 : Int) (i d : Int) (s : Span) (k : Nat) :
    runK (mk Proofs.Tryd.prog (lookN types) glob 109) [(77, true), (87, false)] [(84, .bool false)] [] (Code.at [1, 1, 1, 1, 1, 1, 0, 1, 0, 0] (body Proofs.Tryd.f7)) (cends_S0 b n0 n1 i d s k) cends_K0 =
      some ([decide ((Nat.cast : Nat → Int) k < (Nat.cast : Nat → Int) 4) = true, (0 : Int) ≤ (Nat.cast : Nat → Int) k ∧ (Nat.cast : Nat → Int) k < (Nat.cast : Nat → Int) 4, 0 + 1 ≤ 1, Contract Proofs.Tryd.prog glob 50 [D.int .i64 (List.getD [Span.lo s, Span.hi s, Span.lo s - (1 : Int), Span.hi s + (1 : Int)] (Int.toNat ((Nat.cast : Nat → Int) k)) (E.z E.int)), D.int .i64 (0 : Int), D.int .i64 (200 : Int)] (D.bool false), decide ((Nat.cast : Nat → Int) k < (2 : Int)) = false, inI64 ((Nat.cast : Nat → Int) k + (1 : Int))], Ex.normal, [(.tmp 2, .d (D.ptr 2 0)), (.tmp 5, .d (D.int .i64 i)), (.tmp 6, .d (D.int .i64 d)), (.tmp 11, .d (D.sl true E.int [Span.lo s, Span.hi s, Span.lo s - (1 : Int), Span.hi s + (1 : Int)])), (.tmp 12, .d (D.int .i64 ((Nat.cast : Nat → Int) k + (1 : Int)))), (.box 2, .bx (some (Box.mk false (cellsOf (bookD b)))))]) := by kernel_rfl
theorem cends_0_end (b : Book) (n0 n1 : Int) (i d : Int) (s : Span) (k : Nat) :
    runK (mk Proofs.Tryd.prog (lookN types) glob 109) [(77, false)] [] [] (Code.at [1, 1, 1, 1, 1, 1, 0, 1, 0, 0] (body Proofs.Tryd.f7)) (cends_S0 b n0 n1 i d s k) cends_K0 =
      some ([decide ((Nat.cast : Nat → Int) k < (Nat.cast : Nat → Int) 4) = false], Ex.exit 0, [(.tmp 2, .d (D.ptr 2 0)), (.tmp 5, .d (D.int .i64 i)), (.tmp 6, .d (D.int .i64 d)), (.tmp 11, .d (D.sl true E.int [Span.lo s, Span.hi s, Span.lo s - (1 : Int), Span.hi s + (1 : Int)])), (.tmp 12, .d (D.int .i64 ((Nat.cast : Nat → Int) k))), (.box 2, .bx (some (Box.mk false (cellsOf (bookD b)))))]) := by kernel_rfl
theorem cends_bad (b : Book) (n0 n1 : Int) :
    callF (mk Proofs.Tryd.prog (lookN types) glob 109) [] [(16, .bool false), (18, .bool true)] [] (body Proofs.Tryd.f7) [.tmp 4] [bookD b, .agg [.int .i64 n0, .int .i64 n1]] =
      some ([Contract Proofs.Tryd.prog glob 33 [bookD b] (D.bool false), Contract Proofs.Tryd.prog glob 30 [] (D.bool true)], D.bool true) := by kernel_rfl
theorem cends_false (b : Book) (n0 n1 : Int) (i d : Int) :
    callF (mk Proofs.Tryd.prog (lookN types) glob 109) [] [(16, .bool true), (24, .int .i64 i), (30, .int .i64 d), (35, .tup [spD ⟨0, 0⟩, .int .i64 12]), (44, svD ⟨i, d, 0, 0⟩), (45, .tup [.bool false, .int .i64 12]), (57, spD ⟨0, 0⟩), (61, .bool true)] [] (body Proofs.Tryd.f7) [.tmp 4] [bookD b, .agg [.int .i64 n0, .int .i64 n1]] =
      some ([Contract Proofs.Tryd.prog glob 33 [bookD b] (D.bool true), (0 : Int) ≤ (0 : Int) ∧ (0 : Int) < (Nat.cast : Nat → Int) 2, 0 + Int.toNat (0 : Int) * 1 + 1 ≤ 2, Contract Proofs.Tryd.prog glob 39 [D.int .i64 n0, D.int .i64 ((Nat.cast : Nat → Int) (List.length (Book.secs b)))] (D.int .i64 i), (0 : Int) ≤ (1 : Int) ∧ (1 : Int) < (Nat.cast : Nat → Int) 2, 0 + Int.toNat (1 : Int) * 1 + 1 ≤ 2, inI64 (Book.days b + (1 : Int)), Contract Proofs.Tryd.prog glob 39 [D.int .i64 n1, D.int .i64 (Book.days b + (1 : Int))] (D.int .i64 d), Contract Proofs.Tryd.prog glob 41 [bookD b, D.int .i64 i, D.int .i64 d] (D.tup [D.agg [D.int .i64 (Span.lo (Span.mk (0 : Int) (0 : Int))), D.int .i64 (Span.hi (Span.mk (0 : Int) (0 : Int)))], D.int .i64 (12 : Int)]), Contract Proofs.Tryd.prog glob 48 [D.int .i64 i, D.int .i64 d, D.int .i64 (0 : Int), D.int .i64 (0 : Int)] (D.agg [D.int .i64 (Sv.s (Sv.mk i d (0 : Int) (0 : Int))), D.int .i64 (Sv.d (Sv.mk i d (0 : Int) (0 : Int))), D.int .i64 (Sv.r (Sv.mk i d (0 : Int) (0 : Int))), D.int .i64 (Sv.e (Sv.mk i d (0 : Int) (0 : Int)))]), Contract Proofs.Tryd.prog glob 47 [bookD b, D.agg [D.int .i64 (Sv.s (Sv.mk i d (0 : Int) (0 : Int))), D.int .i64 (Sv.d (Sv.mk i d (0 : Int) (0 : Int))), D.int .i64 (Sv.r (Sv.mk i d (0 : Int) (0 : Int))), D.int .i64 (Sv.e (Sv.mk i d (0 : Int) (0 : Int)))]] (D.tup [D.bool false, D.int .i64 (12 : Int)]), 0 + 2 ≤ 2, Contract Proofs.Tryd.prog glob 49 [D.int .i64 (0 : Int)] (D.agg [D.int .i64 (Span.lo (Span.mk (0 : Int) (0 : Int))), D.int .i64 (Span.hi (Span.mk (0 : Int) (0 : Int)))]), Contract Proofs.Tryd.prog glob 30 [] (D.bool true)], D.bool true) := by kernel_rfl
theorem cends_ok (b : Book) (n0 n1 : Int) (i d : Int) (s : Span) :
    callF (mk Proofs.Tryd.prog (lookN types) glob 109) [] [(16, .bool true), (24, .int .i64 i), (30, .int .i64 d), (35, .tup [spD s, .int .i64 0]), (108, .bool true)] [(0, (cends_K0, (.normal, cends_S0 b n0 n1 i d s 4)))] (body Proofs.Tryd.f7) [.tmp 4] [bookD b, .agg [.int .i64 n0, .int .i64 n1]] =
      some ([Contract Proofs.Tryd.prog glob 33 [bookD b] (D.bool true), (0 : Int) ≤ (0 : Int) ∧ (0 : Int) < (Nat.cast : Nat → Int) 2, 0 + Int.toNat (0 : Int) * 1 + 1 ≤ 2, Contract Proofs.Tryd.prog glob 39 [D.int .i64 n0, D.int .i64 ((Nat.cast : Nat → Int) (List.length (Book.secs b)))] (D.int .i64 i), (0 : Int) ≤ (1 : Int) ∧ (1 : Int) < (Nat.cast : Nat → Int) 2, 0 + Int.toNat (1 : Int) * 1 + 1 ≤ 2, inI64 (Book.days b + (1 : Int)), Contract Proofs.Tryd.prog glob 39 [D.int .i64 n1, D.int .i64 (Book.days b + (1 : Int))] (D.int .i64 d), Contract Proofs.Tryd.prog glob 41 [bookD b, D.int .i64 i, D.int .i64 d] (D.tup [D.agg [D.int .i64 (Span.lo s), D.int .i64 (Span.hi s)], D.int .i64 (0 : Int)]), 0 + 0 + 1 ≤ 2, 0 + 1 + 1 ≤ 2, 0 + 0 + 1 ≤ 2, inI64 (Span.lo s - (1 : Int)), 0 + 1 + 1 ≤ 2, inI64 (Span.hi s + (1 : Int)), LoopT Proofs.Tryd.prog glob 109 (Code.at [1, 1, 1, 1, 1, 1, 0, 1] (body Proofs.Tryd.f7)) [(.tmp 2, .d (D.ptr 2 0)), (.tmp 5, .d (D.int .i64 i)), (.tmp 6, .d (D.int .i64 d)), (.tmp 11, .d (D.sl true E.int [Span.lo s, Span.hi s, Span.lo s - (1 : Int), Span.hi s + (1 : Int)])), (.tmp 12, .d (D.int .i64 (0 : Int))), (.box 2, .bx (some (Box.mk false (cellsOf (bookD b)))))] Ex.normal (cends_S0 b n0 n1 i d s 4), Contract Proofs.Tryd.prog glob 30 [] (D.bool true)], D.bool true) := by kernel_rfl
end Go.Di

namespace Go.Di

/-! ### How thick a section can be: from 0 to 200 -/
theorem most_le {l : List Sec} : ∀ (m : Int), m ≤ l.foldl (fun m x => mx m x.w.hi) m ∧ ∀ x ∈ l, x.w.hi ≤ l.foldl (fun m x => mx m x.w.hi) m := by
  induction l with
  | nil => exact fun m => ⟨Int.le_refl _, fun x hx => by cases hx⟩
  | cons a l ih =>
    intro m
    obtain ⟨h1, h2⟩ := ih (mx m a.w.hi)
    have := mx_ge (a := m) (b := a.w.hi)
    simp only [List.foldl_cons]
    refine ⟨by omega, fun x hx => ?_⟩
    rcases List.mem_cons.1 hx with rfl | hx
    · omega
    · exact h2 x hx
theorem worn_bound {b : Book} (hV : Valid b) {but : List Int} {T : Nat → Int} {x : W4} (h : Feas b but T x) (turns : List Int) (k : Nat) (hk : k < b.secs.length) : ∀ d : Nat, 0 ≤ wornF b.secs.length x.a x.b x.c x.d turns k d ∧ wornF b.secs.length x.a x.b x.c x.d turns k d ≤ mostF b.secs * d
  | 0 => by simp [wornF]
  | d + 1 => by
    have ih := worn_bound hV h turns k hk d
    have hin := placeF_in (n := b.secs.length) (turns := turns) (day := d) (s := (k : Int)) (by omega)
    have hp : (placeF b.secs.length turns d k).toNat < b.secs.length := by omega
    have hw := h.wear _ hp
    have hm := (most_le (l := b.secs) 0).2 _ (getD_mem b.secs _ sec0 hp)
    have h0 := hV.wlo (placeF b.secs.length turns d k).toNat
    have e : wF x.a x.b x.c x.d (placeF b.secs.length turns d k) = x.at (placeF b.secs.length turns d k).toNat := rfl
    have e2 : mostF b.secs * ((d + 1 : Nat) : Int) = mostF b.secs * d + mostF b.secs := by
      rw [show ((d + 1 : Nat) : Int) = (d : Int) + 1 by omega, Int.mul_add, Int.mul_one]
    simp only [wornF]
    rw [e, e2]
    unfold mostF at ih ⊢
    omega
theorem thick_200 {b : Book} (hV : Valid b) {but : List Int} (hne : truthsF b but ≠ []) (turns : List Int) (k : Nat) (hk : k < b.secs.length) (d : Int) (hd : 0 ≤ d ∧ d ≤ b.days) :
    0 ≤ (thickF b (truthsF b but) turns k d).lo ∧ (thickF b (truthsF b but) turns k d).lo ≤ (thickF b (truthsF b but) turns k d).hi ∧ (thickF b (truthsF b but) turns k d).hi ≤ 200 := by
  have key : ∀ T x, Feas b but T x → 0 ≤ T k - wornX b turns x k d ∧ T k - wornX b turns x k d ≤ 200 := fun T x h => by
    obtain ⟨h1, h2⟩ := worn_bound hV h turns k hk d.toNat
    have ht := h.thick k hk
    have hs := hV.sec _ (getD_mem b.secs k sec0 hk)
    have hlo := hV.thick _ (getD_mem b.secs k sec0 hk)
    have hm : mostF b.secs * (d.toNat : Int) ≤ mostF b.secs * b.days := Int.mul_le_mul_of_nonneg_left (by omega) ((most_le (l := b.secs) 0).1)
    have := hs.t
    unfold wornX
    omega
  obtain ⟨T, x, h1, h2⟩ := thick_lo hV.base hne turns k hk d
  obtain ⟨T', x', h1', h2'⟩ := thick_hi hV.base hne turns k hk d
  have a1 := key T x h1
  have a2 := key T' x' h1'
  have a3 := thick_in hV.base h1 turns k hk d
  omega
/-- What fits. -/
theorem fits_iff {b : Book} (hV : Valid b) (k : Nat) (hk : k < b.secs.length) (d z : Int) : (!(truthsF (more b ⟨k, d, z, 0⟩) []).isEmpty) = true ↔ ∃ T x, Feas b [] T x ∧ T k - wornX b b.turns x k d = z := by
  have hm := can_iff (hV.base.more (y := ⟨k, d, z, 0⟩) (by show (0 : Int) ≤ (k : Int); omega)) []
  have e : (!(truthsF (more b ⟨k, d, z, 0⟩) []).isEmpty) = true ↔ truthsF (more b ⟨k, d, z, 0⟩) [] ≠ [] := by
    cases truthsF (more b ⟨k, d, z, 0⟩) [] <;> simp
  rw [e, hm]
  have hy : (0 : Int) ≤ (k : Int) ∧ (k : Int) < b.secs.length := by omega
  constructor
  · rintro ⟨T, x, h⟩
    obtain ⟨h1, h2, h3⟩ := (feas_more (y := ⟨k, d, z, 0⟩) hy).1 h
    simp only [Int.toNat_natCast] at h2 h3
    exact ⟨T, x, h1, by omega⟩
  · rintro ⟨T, x, h1, h2⟩
    refine ⟨T, x, (feas_more (y := ⟨k, d, z, 0⟩) hy).2 ⟨h1, ?_⟩⟩
    simp only [Int.toNat_natCast]
    omega

/-! ### The law ChainEnds -/
def rd4 (s : Span) (k : Nat) : Int := ([s.lo, s.hi, s.lo - 1, s.hi + 1] : List Int).getD k 0
theorem cends_con {b : Book} (hs : Small b) (n0 n1 : Int) : Contract Proofs.Tryd.prog glob 7 [bookD b, .agg [.int .i64 n0, .int .i64 n1]] (.bool true) := by
  have hso := sound_con hs
  have hfg := forged_con
  cases hv : validF b with
  | false =>
    rw [hv] at hso
    exact contract_of_path (G 109) cends_fn (cends_bad b n0 n1) ⟨hso, hfg, trivial⟩
  | true =>
    rw [hv] at hso
    have hV := valid_iff.1 hv
    have hl := hV.secs
    have hdd := hV.days
    have hin := modF_in (n := n0) (m := b.secs.length) (by omega)
    have hdn := modF_in (n := n1) (m := b.days + 1) (by omega)
    have m1 := modB_con n0 b.secs.length (by omega)
    have m2 := modB_con n1 (b.days + 1) (by omega)
    obtain ⟨i, hi⟩ : ∃ i : Nat, (i : Int) = modF n0 b.secs.length := ⟨(modF n0 b.secs.length).toNat, by omega⟩
    rw [← hi] at hin m1
    generalize modF n1 (b.days + 1) = d at hdn m2
    have hk : i < b.secs.length := by omega
    have his : isSectionF b i = true := by simp only [isSectionF, within_iff]; omega
    have hisd : isDayF b d = true := by simp only [isDayF, within_iff]; omega
    have hi64 : inI64 (b.days + 1) := by simp only [inI64]; omega
    have c1 := thickA_con hs i d
    unfold askE at c1
    rw [his, hisd, Bool.and_self] at c1
    cases hc : canF b with
    | false =>
      have he : errF b true = 12 := by unfold errF; rw [hv, hc]; rfl
      rw [he] at c1
      have hsv : isSurveyF b ⟨i, d, 0, 0⟩ = true := survey_iff.2 ⟨by show (0 : Int) ≤ i ∧ (i : Int) ≤ _; omega, by show 0 ≤ d ∧ d ≤ _; omega, ⟨Int.le_refl _, (by decide : (0 : Int) ≤ 200)⟩, ⟨Int.le_refl _, (by decide : (0 : Int) ≤ 5)⟩⟩
      have c2 := fitsA_con hs ⟨i, d, 0, 0⟩
      unfold fitsAF at c2
      rw [hsv, he] at c2
      have sv := surveyB_con i d 0 0
      have p0 := point_con 0
      refine contract_of_path (G 109) cends_fn (cends_false b n0 n1 i d) ?_
      repeat (first | exact trivial | refine ⟨by first | exact hso | exact m1 | exact m2 | exact c1 | exact c2 | exact sv | exact p0 | exact hfg | exact hi64 | omega, ?_⟩)
    | true =>
      have he : errF b true = 0 := by unfold errF; rw [hv, hc]; rfl
      rw [he] at c1
      have hne := ne_of_can hc
      have h200 := thick_200 hV hne b.turns i hk d (by omega)
      have hlo := thick_lo hV.base hne b.turns i hk d
      have hhi := thick_hi hV.base hne b.turns i hk d
      have hall : ∀ T x, Feas b [] T x → _ := fun T x h => thick_in hV.base h b.turns i hk d
      rw [show spanOr 0 (thickF b (truthsF b []) b.turns i d) = thickF b (truthsF b []) b.turns i d from if_pos rfl] at c1
      generalize thickF b (truthsF b []) b.turns i d = s at c1 h200 hlo hhi hall
      have hfit : ∀ k, k < 4 → (!(truthsF (more b ⟨i, d, rd4 s k, 0⟩) []).isEmpty) = decide ((k : Int) < 2) := fun k hk4 => by
        rw [Bool.eq_iff_iff, fits_iff hV i hk, decide_eq_true_eq]
        match k, hk4 with
        | 0, _ => exact ⟨fun _ => by omega, fun _ => hlo⟩
        | 1, _ => exact ⟨fun _ => by omega, fun _ => hhi⟩
        | 2, _ =>
          refine ⟨?_, fun h => absurd h (by omega)⟩
          rintro ⟨T, x, h1, h2⟩
          have := hall T x h1
          have e : rd4 s 2 = s.lo - 1 := rfl
          omega
        | 3, _ =>
          refine ⟨?_, fun h => absurd h (by omega)⟩
          rintro ⟨T, x, h1, h2⟩
          have := hall T x h1
          have e : rd4 s 3 = s.hi + 1 := rfl
          omega
      have hloop : LoopT Proofs.Tryd.prog glob 109 (Code.at [1, 1, 1, 1, 1, 1, 0, 1] (body Proofs.Tryd.f7)) (cends_S0 b n0 n1 i d s 0) .normal (cends_S0 b n0 n1 i d s 4) := by
        refine LoopT.count (tt := lookN types) (id := 0) (c := Code.at [1, 1, 1, 1, 1, 1, 0, 1, 0, 0] (body Proofs.Tryd.f7)) (by kernel_rfl) 4 (cends_S0 b n0 n1 i d s) (fun k hk4 => ?_) (WpL.path (G 109) (cends_0_end b n0 n1 i d s 4) ⟨decide_eq_false (by omega), trivial⟩ ⟨.inl ⟨rfl, rfl⟩, rfl⟩)
        have hd1 : decide ((k : Int) < 4) = true := decide_eq_true (by omega)
        have ins := inside_con (rd4 s k) 0 200
        cases hz : insideF (rd4 s k) 0 200 with
        | false =>
          rw [hz] at ins
          have h2 : decide ((k : Int) < 2) = false := by
            refine decide_eq_false fun h => ?_
            have : insideF (rd4 s k) 0 200 = true := by
              simp only [insideF, Bool.and_eq_true, decide_eq_true_eq]
              match k, h with
              | 0, _ =>
                have e : rd4 s 0 = s.lo := rfl
                omega
              | 1, _ =>
                have e : rd4 s 1 = s.hi := rfl
                omega
              | k + 2, h => omega
            rw [this] at hz
            cases hz
          refine WpL.path (G 109) (cends_0_out b n0 n1 i d s k) ?_ ⟨rfl, rfl⟩
          repeat (first | exact trivial | refine ⟨by first | exact ins | exact hd1 | exact h2 | omega | (simp only [inI64]; omega), ?_⟩)
        | true =>
          rw [hz] at ins
          have hz' : 0 ≤ rd4 s k ∧ rd4 s k ≤ 200 := by
            simp only [insideF, Bool.and_eq_true, decide_eq_true_eq] at hz
            omega
          have hsv : isSurveyF b ⟨i, d, rd4 s k, 0⟩ = true := survey_iff.2 ⟨by show (0 : Int) ≤ i ∧ (i : Int) ≤ _; omega, by show 0 ≤ d ∧ d ≤ _; omega, hz', ⟨Int.le_refl _, (by decide : (0 : Int) ≤ 5)⟩⟩
          have c2 := fitsA_con hs ⟨i, d, rd4 s k, 0⟩
          unfold fitsAF at c2
          rw [hsv, he, if_pos rfl, hfit k hk4] at c2
          have sv := surveyB_con i d (rd4 s k) 0
          have q : (!(decide ((k : Int) < 2) == decide ((k : Int) < 2))) = false := not_beq_of rfl
          refine WpL.path (G 109) (cends_0_near b n0 n1 i d s k (decide ((k : Int) < 2))) ?_ ⟨rfl, rfl⟩
          repeat (first | exact trivial | refine ⟨by first | exact ins | exact hd1 | exact sv | exact c2 | exact q | omega | (simp only [inI64]; omega), ?_⟩)
      refine contract_of_path (G 109) cends_fn (cends_ok b n0 n1 i d s) ?_
      repeat (first | exact trivial | refine ⟨by first | exact hso | exact m1 | exact m2 | exact c1 | exact hloop | exact hfg | exact hi64 | omega | (simp only [inI64]; omega), ?_⟩)
end Go.Di

namespace Go.Di

/-! ### What can be of one book can be of another -/
theorem span_ext {s t : Span} (h1 : s.lo = t.lo) (h2 : s.hi = t.hi) : s = t := by
  cases s; cases t; simp only at h1 h2; subst h1 h2; rfl
theorem thick_sub {b b' : Book} (hB : Base b) (hB' : Base b') {but but' turns turns' : List Int} {k k' : Nat} {d : Int} (hk : k < b.secs.length) (hk' : k' < b'.secs.length) (hne' : truthsF b' but' ≠ [])
    (h : ∀ T x, Feas b' but' T x → ∃ T' x', Feas b but T' x' ∧ T' k - wornX b turns x' k d = T k' - wornX b' turns' x k' d) :
    (thickF b (truthsF b but) turns k d).lo ≤ (thickF b' (truthsF b' but') turns' k' d).lo ∧ (thickF b' (truthsF b' but') turns' k' d).hi ≤ (thickF b (truthsF b but) turns k d).hi := by
  obtain ⟨T, x, h1, h2⟩ := thick_lo hB' hne' turns' k' hk' d
  obtain ⟨T', x', h1', h2'⟩ := thick_hi hB' hne' turns' k' hk' d
  obtain ⟨U, y, g1, g2⟩ := h T x h1
  obtain ⟨U', y', g1', g2'⟩ := h T' x' h1'
  have a1 := thick_in hB g1 turns k hk d
  have a2 := thick_in hB g1' turns k hk d
  omega
theorem thick_same {b b' : Book} (hB : Base b) (hB' : Base b') {but but' turns turns' : List Int} {k k' : Nat} {d : Int} (hk : k < b.secs.length) (hk' : k' < b'.secs.length) (hne : truthsF b but ≠ []) (hne' : truthsF b' but' ≠ [])
    (h : ∀ T x, Feas b' but' T x → ∃ T' x', Feas b but T' x' ∧ T' k - wornX b turns x' k d = T k' - wornX b' turns' x k' d)
    (h' : ∀ T x, Feas b but T x → ∃ T' x', Feas b' but' T' x' ∧ T' k' - wornX b' turns' x' k' d = T k - wornX b turns x k d) :
    thickF b (truthsF b but) turns k d = thickF b' (truthsF b' but') turns' k' d := by
  have h1 := thick_sub hB hB' hk hk' hne' h
  have h2 := thick_sub hB' hB hk' hk hne h'
  exact span_ext (by omega) (by omega)
theorem wear_sub {b b' : Book} (hB : Base b) (hB' : Base b') {but but' : List Int} {p p' : Nat} (hne' : truthsF b' but' ≠ [])
    (h : ∀ T x, Feas b' but' T x → ∃ T' x', Feas b but T' x' ∧ x'.at p = x.at p') :
    (toldF (wearAt p) (truthsF b but)).lo ≤ (toldF (wearAt p') (truthsF b' but')).lo ∧ (toldF (wearAt p') (truthsF b' but')).hi ≤ (toldF (wearAt p) (truthsF b but)).hi := by
  obtain ⟨T, x, h1, h2⟩ := wear_lo hB' hne' p'
  obtain ⟨T', x', h1', h2'⟩ := wear_hi hB' hne' p'
  obtain ⟨U, y, g1, g2⟩ := h T x h1
  obtain ⟨U', y', g1', g2'⟩ := h T' x' h1'
  have a1 := wear_in hB g1 p
  have a2 := wear_in hB g1' p
  omega
theorem wear_same {b b' : Book} (hB : Base b) (hB' : Base b') {but but' : List Int} {p p' : Nat} (hne : truthsF b but ≠ []) (hne' : truthsF b' but' ≠ [])
    (h : ∀ T x, Feas b' but' T x → ∃ T' x', Feas b but T' x' ∧ x'.at p = x.at p')
    (h' : ∀ T x, Feas b but T x → ∃ T' x', Feas b' but' T' x' ∧ x'.at p' = x.at p) :
    toldF (wearAt p) (truthsF b but) = toldF (wearAt p') (truthsF b' but') := by
  have h1 := wear_sub hB hB' hne' h
  have h2 := wear_sub hB' hB hne h'
  exact span_ext (by omega) (by omega)
theorem findF_mono {p q : Nat → Bool} : ∀ (n d : Nat), (∀ i, d ≤ i → i < d + n → q i = true → p i = true) → findF p n d ≤ findF q n d
  | 0, d, _ => Nat.le_refl _
  | n + 1, d, h => by
    simp only [findF]
    by_cases hq : q d = true
    · rw [if_pos (h d (Nat.le_refl _) (by omega) hq), if_pos hq]
      exact Nat.le_refl _
    · rw [if_neg hq]
      by_cases hp : p d = true
      · rw [if_pos hp]
        have := (findF_spec q n (d + 1)).1
        omega
      · rw [if_neg hp]
        exact findF_mono n (d + 1) fun i h1 h2 => h i (by omega) (by omega)
theorem findF_same {p q : Nat → Bool} (n d : Nat) (h : ∀ i, d ≤ i → i < d + n → q i = p i) : findF p n d = findF q n d :=
  Nat.le_antisymm (findF_mono n d fun i h1 h2 hq => by rw [← h i h1 h2]; exact hq) (findF_mono n d fun i h1 h2 hp => by rw [h i h1 h2]; exact hp)
/-- The day that is told, and its error. -/
theorem dayOr_cases {b : Book} (k : Int) : (dayOr b 0 k = (0, 4) ∧ k > b.days) ∨ (dayOr b 0 k = (k, 0) ∧ k ≤ b.days) := by
  unfold dayOr
  rw [if_pos rfl]
  by_cases hk : k > b.days
  · rw [if_pos hk]
    exact .inl ⟨rfl, hk⟩
  · rw [if_neg hk]
    exact .inr ⟨rfl, by omega⟩
theorem can_true {b : Book} (h : truthsF b [] ≠ []) : canF b = true := by
  unfold canF
  cases hq : truthsF b [] with
  | nil => exact absurd hq h
  | cons x l => rfl
theorem can_same {b b' : Book} (h : truthsF b [] ≠ [] ↔ truthsF b' [] ≠ []) : canF b = canF b' := by
  cases h1 : canF b with
  | true => exact (can_true (h.1 (ne_of_can h1))).symm
  | false =>
    cases h2 : canF b' with
    | false => rfl
    | true => exact absurd (nil_of_can h1) (h.2 (ne_of_can h2))
theorem err_can {b : Book} (hv : validF b = true) (hc : canF b = true) : errF b true = 0 := by unfold errF; rw [hv, hc]; rfl
theorem err_false {b : Book} (hv : validF b = true) (hc : canF b = false) : errF b true = 12 := by unfold errF; rw [hv, hc]; rfl

/-! ### Where a section lies, by the number of turns -/
def flips (turns : List Int) (d : Int) : Bool := turns.foldl (fun p t => if t ≤ d then !p else p) false
theorem flips_fold (d : Int) : ∀ (l : List Int) (p : Bool), l.foldl (fun p t => if t ≤ d then !p else p) p = Bool.xor p (flips l d)
  | [], p => by simp [flips]
  | t :: l, p => by
    unfold flips
    simp only [List.foldl_cons]
    rw [flips_fold d l, flips_fold d l]
    by_cases h : t ≤ d
    · rw [if_pos h, if_pos h]; cases p <;> simp
    · rw [if_neg h, if_neg h]; simp
theorem flips_append (l m : List Int) (d : Int) : flips (l ++ m) d = Bool.xor (flips l d) (flips m d) := by
  have : flips (l ++ m) d = m.foldl (fun p t => if t ≤ d then !p else p) (flips l d) := by
    unfold flips
    rw [List.foldl_append]
  rw [this, flips_fold]
theorem flips_one (t d : Int) : flips [t] d = decide (t ≤ d) := by
  unfold flips
  simp only [List.foldl_cons, List.foldl_nil]
  by_cases h : t ≤ d
  · rw [if_pos h]; simp [h]
  · rw [if_neg h]; simp [h]
theorem place_fold (n d : Int) : ∀ (l : List Int) (s : Int), placeF n l d s = if flips l d = true then n - 1 - s else s
  | [], s => by simp [placeF, flips]
  | t :: l, s => by
    have h1 : placeF n (t :: l) d s = placeF n l d (if t ≤ d then n - 1 - s else s) := rfl
    have h2 : flips (t :: l) d = Bool.xor (decide (t ≤ d)) (flips l d) := by
      have := flips_append [t] l d
      rwa [flips_one] at this
    rw [h1, place_fold n d l, h2]
    by_cases h : t ≤ d
    · rw [if_pos h, decide_eq_true h]
      cases flips l d <;> simp
      omega
    · rw [if_neg h, decide_eq_false h]
      cases flips l d <;> simp
theorem worn_flips {n : Int} {x : W4} {l m : List Int} {s : Int} : ∀ d : Nat, (∀ e : Nat, e < d → flips l e = flips m e) → wornF n x.a x.b x.c x.d l s d = wornF n x.a x.b x.c x.d m s d
  | 0, _ => rfl
  | d + 1, h => by
    simp only [wornF]
    rw [worn_flips d fun e he => h e (by omega), place_fold, place_fold, h d (by omega)]

/-! ### What can be, by all surveys -/
theorem svZ_mem {b : Book} {i : Nat} (hi : i < b.svs.length) : svZ b i ∈ b.svs := getD_mem b.svs i sv0 hi
theorem mem_svZ {b : Book} {y : Sv} (hy : y ∈ b.svs) : ∃ i, i < b.svs.length ∧ svZ b i = y := by
  obtain ⟨i, hi, h⟩ := List.getElem_of_mem hy
  refine ⟨i, hi, ?_⟩
  show b.svs.getD i sv0 = y
  rw [List.getD_eq_getElem?_getD, List.getElem?_eq_getElem hi, ← h]
  rfl
structure Feas0 (b : Book) (T : Nat → Int) (x : W4) : Prop where
  wear : ∀ p < b.secs.length, (b.secs.getD p sec0).w.lo ≤ x.at p ∧ x.at p ≤ (b.secs.getD p sec0).w.hi
  zero : ∀ p, b.secs.length ≤ p → x.at p = 0
  thick : ∀ k < b.secs.length, (b.secs.getD k sec0).t.lo ≤ T k ∧ T k ≤ (b.secs.getD k sec0).t.hi
theorem feas_nil {b : Book} {T : Nat → Int} {x : W4} : Feas b [] T x ↔ Feas0 b T x ∧ ∀ y ∈ b.svs, ∀ k : Nat, k < b.secs.length → SatY b x k (T k) y := by
  constructor
  · intro h
    refine ⟨⟨h.wear, h.zero, h.thick⟩, fun y hy k hk => ?_⟩
    obtain ⟨i, hi, rfl⟩ := mem_svZ hy
    exact h.right i hi (by simp) k hk
  · rintro ⟨h, h'⟩
    exact ⟨h.wear, h.zero, h.thick, fun i hi _ k hk => h' _ (svZ_mem hi) k hk⟩
/-- Ends of what places wear. -/
def wearsBy (b : Book) (f : Sec → Int) : W4 := ⟨f (b.secs.getD 0 sec0), f (b.secs.getD 1 sec0), f (b.secs.getD 2 sec0), f (b.secs.getD 3 sec0)⟩
theorem wearsBy_at {b : Book} {f : Sec → Int} (h4 : b.secs.length ≤ 4) (hf : f sec0 = 0) (p : Nat) : (wearsBy b f).at p = f (b.secs.getD p sec0) := by
  match p with
  | 0 => rfl
  | 1 => rfl
  | 2 => rfl
  | 3 => rfl
  | p + 4 =>
    rw [List.getD_eq_getElem?_getD, List.getElem?_eq_none (by omega)]
    show ([_, _, _, _] : List Int).getD (p + 4) 0 = f sec0
    rw [hf]
    simp
theorem feas0_by {b : Book} (hV : Valid b) {f g : Sec → Int} (hf : f sec0 = 0) (h : ∀ x ∈ b.secs, x.w.lo ≤ f x ∧ f x ≤ x.w.hi) (h' : ∀ x ∈ b.secs, x.t.lo ≤ g x ∧ g x ≤ x.t.hi) : Feas0 b (fun k => g (b.secs.getD k sec0)) (wearsBy b f) := by
  have h4 := hV.secs.2
  refine ⟨fun p hp => ?_, fun p hp => ?_, fun k hk => h' _ (getD_mem b.secs k sec0 hk)⟩
  · rw [wearsBy_at h4 hf]
    exact h _ (getD_mem b.secs p sec0 hp)
  · rw [wearsBy_at h4 hf, List.getD_eq_getElem?_getD, List.getElem?_eq_none (by omega)]
    exact hf
end Go.Di

namespace Go.Di

/-! ### A book without some of its surveys -/
def woTo (b : Book) (l : List Int) : Nat → List Sv
  | 0 => []
  | i + 1 => if (i : Int) ∈ l then woTo b l i else woTo b l i ++ [svZ b i]
def withoutF (b : Book) (l : List Int) : Book := ⟨b.secs, b.turns, woTo b l b.svs.length, b.rule, b.days⟩
theorem woTo_all {P : Sv → Prop} (b : Book) (l : List Int) : ∀ n, (∀ y ∈ woTo b l n, P y) ↔ ∀ i < n, (i : Int) ∉ l → P (svZ b i)
  | 0 => by simp [woTo]
  | n + 1 => by
    have ih := woTo_all (P := P) b l n
    simp only [woTo]
    by_cases h : (n : Int) ∈ l
    · rw [if_pos h, ih]
      constructor
      · intro h' i hi hn
        by_cases e : i = n
        · subst e; exact absurd h hn
        · exact h' i (by omega) hn
      · exact fun h' i hi hn => h' i (by omega) hn
    · rw [if_neg h]
      simp only [List.mem_append, List.mem_singleton]
      constructor
      · intro h' i hi hn
        by_cases e : i = n
        · subst e; exact h' _ (.inr rfl)
        · exact ih.1 (fun y hy => h' y (.inl hy)) i (by omega) hn
      · rintro h' y (hy | rfl)
        · exact ih.2 (fun i hi hn => h' i (by omega) hn) y hy
        · exact h' n (by omega) h
theorem woTo_len (b : Book) (l : List Int) : ∀ n, (woTo b l n).length ≤ n
  | 0 => by simp [woTo]
  | n + 1 => by
    have ih := woTo_len b l n
    simp only [woTo]
    split
    · omega
    · simp only [List.length_append, List.length_singleton]; omega
theorem without_valid {b : Book} (hV : Valid b) (l : List Int) : Valid (withoutF b l) :=
  ⟨hV.secs, hV.days, hV.rule, hV.turns, by have := woTo_len b l b.svs.length; have := hV.svs; simp only [withoutF]; omega, hV.sec, hV.thick, hV.rises,
    (woTo_all b l b.svs.length).2 fun i hi _ => hV.sv _ (svZ_mem hi)⟩
theorem without_feas {b : Book} {l : List Int} {T : Nat → Int} {x : W4} : Feas (withoutF b l) [] T x ↔ Feas b l T x := by
  rw [feas_nil]
  constructor
  · rintro ⟨h, h'⟩
    refine ⟨h.wear, h.zero, h.thick, fun i hi hn k hk => ?_⟩
    exact (woTo_all (P := fun y => ∀ k : Nat, k < b.secs.length → SatY b x k (T k) y) b l b.svs.length).1 h' i hi hn k hk
  · intro h
    exact ⟨⟨h.wear, h.zero, h.thick⟩, (woTo_all (P := fun y => ∀ k : Nat, k < b.secs.length → SatY b x k (T k) y) b l b.svs.length).2 fun i hi hn k hk => h.right i hi hn k hk⟩
theorem without_can {b : Book} (hV : Valid b) (l : List Int) : truthsF (withoutF b l) [] ≠ [] ↔ truthsF b l ≠ [] := by
  rw [can_iff (without_valid hV l).base, can_iff hV.base]
  simp only [without_feas]

/-! ### Lists that climb -/
def Up (n : Int) : Int → List Int → Prop
  | _, [] => True
  | a, x :: l => a ≤ x ∧ x < n ∧ Up n (x + 1) l
theorem Up.ups {n : Int} : ∀ {l : List Int} {a : Int}, Up n a l → (∀ k < l.length, a ≤ l.getD k 0 ∧ l.getD k 0 < n) ∧ ∀ k, k + 1 < l.length → l.getD k 0 < l.getD (k + 1) 0
  | [], _, _ => ⟨fun k hk => by simp at hk, fun k hk => by simp at hk⟩
  | x :: l, a, ⟨h1, h2, h3⟩ => by
    obtain ⟨i1, i2⟩ := Up.ups h3
    refine ⟨fun k hk => ?_, fun k hk => ?_⟩
    · cases k with
      | zero => exact ⟨h1, h2⟩
      | succ k =>
        have := i1 k (by simpa using hk)
        simp only [List.getD_cons_succ]
        omega
    · cases k with
      | zero =>
        have := i1 0 (by simp at hk ⊢; omega)
        simp only [List.getD_cons_succ, List.getD_cons_zero]
        omega
      | succ k =>
        have := i2 k (by simpa using hk)
        simp only [List.getD_cons_succ]
        exact this
theorem Up.toUps {n : Int} {l : List Int} (h : Up n 0 l) : Ups l n := by
  obtain ⟨h1, h2⟩ := h.ups
  refine ⟨h1, fun k h0 hk => ?_⟩
  have := h2 (k - 1) (by omega)
  rwa [show k - 1 + 1 = k by omega] at this
theorem Up.snoc {n m x : Int} (hx : m ≤ x) (hn : x < n) (hm : m ≤ n) : ∀ {l : List Int} {a : Int}, Up m a l → a ≤ x → Up n a (l ++ [x])
  | [], a, _, ha => ⟨ha, hn, trivial⟩
  | y :: l, a, ⟨h1, h2, h3⟩, ha => ⟨h1, by omega, Up.snoc hx hn hm h3 (by omega)⟩
theorem Up.mono {n m : Int} (hm : m ≤ n) : ∀ {l : List Int} {a : Int}, Up m a l → Up n a l
  | [], a, _ => trivial
  | y :: l, a, ⟨h1, h2, h3⟩ => ⟨h1, by omega, Up.mono hm h3⟩
theorem Up.mem {n : Int} : ∀ {l : List Int} {a x : Int}, Up n a l → x ∈ l → a ≤ x ∧ x < n
  | y :: l, a, x, ⟨h1, h2, h3⟩, hx => by
    rcases List.mem_cons.1 hx with rfl | hx
    · exact ⟨h1, h2⟩
    · have := h3.mem hx
      omega
theorem Up.len {n : Int} : ∀ {l : List Int} {a : Int}, Up n a l → a ≤ n → (l.length : Int) ≤ n - a
  | [], a, _, ha => by simp; omega
  | y :: l, a, ⟨h1, h2, h3⟩, ha => by
    have := h3.len (by omega)
    simp only [List.length_cons]
    omega
/-- Does a list come before another one? -/
def beforeF : List Int → List Int → Bool
  | [], [] => false
  | [], _ :: _ => true
  | _ :: _, [] => false
  | a :: l, b :: m => if a = b then beforeF l m else decide (a < b)
theorem before_self : ∀ l : List Int, beforeF l l = false
  | [] => rfl
  | a :: l => by simp only [beforeF]; rw [if_pos trivial]; exact before_self l
theorem before_anti : ∀ l m : List Int, beforeF l m = true → beforeF m l = false
  | [], [], _ => rfl
  | [], _ :: _, _ => rfl
  | _ :: _, [], h => by cases h
  | a :: l, b :: m, h => by
    simp only [beforeF] at h ⊢
    by_cases e : a = b
    · rw [if_pos e] at h
      rw [if_pos e.symm]
      exact before_anti l m h
    · rw [if_neg e] at h
      rw [if_neg (fun e' => e e'.symm)]
      simp only [decide_eq_true_eq] at h
      exact decide_eq_false (by omega)
def betterF (l m : List Int) : Bool := decide (l.length < m.length) || (decide (l.length = m.length) && beforeF l m)

/-! ### The surveys that are told -/
theorem lvFrom_snoc (sm : List Int) (j : Int) : lvFrom (sm ++ [j]) = j + 1 := by
  unfold lvFrom
  rw [if_pos (by simp)]
  simp
theorem lv_spec {b : Book} : ∀ (f : Nat) (sm : List Int), (lvGo b f sm).2 = true → ∃ r, (lvGo b f sm).1 = sm ++ r ∧ r.length = f ∧ Up b.svs.length (lvFrom sm) r ∧ truthsF b (sm ++ r) ≠ []
  | 0, sm, h => by
    refine ⟨[], by simp [lvGo], rfl, trivial, ?_⟩
    simp only [lvGo] at h
    rw [List.append_nil]
    intro e
    rw [e] at h
    cases h
  | f + 1, sm, h => by
    simp only [lvGo] at h ⊢
    obtain ⟨k, k1, k2, ⟨k3, k4, k5⟩ | ⟨k3, k5⟩⟩ := lvFind_at (fun j => lvGo b f (sm ++ [j])) ((b.svs.length : Int) - lvFrom sm).toNat (lvFrom sm)
    · rw [k5]
      obtain ⟨r, r1, r2, r3, r4⟩ := lv_spec f (sm ++ [lvFrom sm + k]) k4
      rw [lvFrom_snoc] at r3
      refine ⟨(lvFrom sm + k) :: r, ?_, by simp [r2], ⟨by omega, by omega, r3⟩, ?_⟩
      · show (lvGo b f (sm ++ [lvFrom sm + k])).1 = _
        rw [r1]; simp
      · rw [show sm ++ (lvFrom sm + k) :: r = sm ++ [lvFrom sm + k] ++ r by simp]
        exact r4
    · rw [k5] at h
      cases h
theorem lv_full {b : Book} : ∀ (f : Nat) (sm r : List Int), r.length = f → Up b.svs.length (lvFrom sm) r → truthsF b (sm ++ r) ≠ [] → ∃ r', lvGo b f sm = (sm ++ r', true) ∧ r'.length = f ∧ (r' = r ∨ beforeF r' r = true)
  | 0, sm, [], _, _, h => by
    refine ⟨[], ?_, rfl, .inl rfl⟩
    rw [List.append_nil] at h ⊢
    simp only [lvGo]
    cases hq : truthsF b sm with
    | nil => exact absurd hq h
    | cons x l => rfl
  | f + 1, sm, a :: r, hl, ⟨u1, u2, u3⟩, h => by
    obtain ⟨r', h1, h2, h3⟩ := lv_full f (sm ++ [a]) r (by simpa using hl) (by rw [lvFrom_snoc]; exact u3) (by rw [show sm ++ [a] ++ r = sm ++ a :: r by simp]; exact h)
    simp only [lvGo]
    obtain ⟨k, k1, k2, k3⟩ := lvFind_at (fun j => lvGo b f (sm ++ [j])) ((b.svs.length : Int) - lvFrom sm).toNat (lvFrom sm)
    have ha : a = lvFrom sm + ((a - lvFrom sm).toNat : Nat) := by omega
    have hka : k ≤ (a - lvFrom sm).toNat := by
      by_cases hk : k ≤ (a - lvFrom sm).toNat
      · exact hk
      · have := k2 (a - lvFrom sm).toNat (by omega)
        rw [← ha] at this
        simp only [h1] at this
        cases this
    rcases k3 with ⟨k4, k5, k6⟩ | ⟨k4, k6⟩
    · rw [k6]
      by_cases e : lvFrom sm + (k : Int) = a
      · rw [e]
        simp only [h1]
        refine ⟨a :: r', by simp, by simp [h2], ?_⟩
        rcases h3 with rfl | h3
        · exact .inl rfl
        · right
          simp only [beforeF]
          rw [if_pos trivial]
          exact h3
      · obtain ⟨r2, q1, q2, q3, q4⟩ := lv_spec f (sm ++ [lvFrom sm + k]) k5
        refine ⟨(lvFrom sm + k) :: r2, ?_, by simp [q2], .inr ?_⟩
        · simp only [q1]; simp
        · simp only [beforeF]
          rw [if_neg e]
          exact decide_eq_true (by omega)
    · omega
theorem up_range (n : Nat) : ∃ l : List Int, Up n 0 l ∧ l.length = n ∧ ∀ i : Nat, i < n → (i : Int) ∈ l := by
  suffices ∀ m : Nat, m ≤ n → ∃ l : List Int, Up m 0 l ∧ l.length = m ∧ ∀ i : Nat, i < m → (i : Int) ∈ l from this n (Nat.le_refl _)
  intro m
  induction m with
  | zero => exact fun _ => ⟨[], trivial, rfl, fun i hi => by omega⟩
  | succ m ih =>
    intro hm
    obtain ⟨l, h1, h2, h3⟩ := ih (by omega)
    refine ⟨l ++ [(m : Int)], Up.snoc (Int.le_refl _) (by omega) (by omega) h1 (by omega), by simp [h2], fun i hi => ?_⟩
    by_cases e : i = m
    · subst e; simp
    · exact List.mem_append_left _ (h3 i (by omega))
/-- What is told of the surveys that must be wrong. -/
theorem wrong_spec {b : Book} (hV : Valid b) : Up b.svs.length 0 (wrongGo b).1 ∧ truthsF b (wrongGo b).1 ≠ [] ∧ ((wrongGo b).1 = [] ↔ truthsF b [] ≠ []) ∧ ∀ l, Up b.svs.length 0 l → betterF l (wrongGo b).1 = true → truthsF b l = [] := by
  have h0 : lvFrom [] = 0 := rfl
  have hall : ∃ l : List Int, Up b.svs.length 0 l ∧ l.length = b.svs.length ∧ truthsF b l ≠ [] := by
    obtain ⟨l, l1, l2, l3⟩ := up_range b.svs.length
    have h00 := feas0_by hV (f := fun x => x.w.lo) (g := fun x => x.t.lo) rfl (fun x hx => ⟨Int.le_refl _, (hV.sec x hx).w.2.1⟩) (fun x hx => ⟨Int.le_refl _, (hV.sec x hx).t.2.1⟩)
    exact ⟨l, l1, l2, (can_iff hV.base l).2 ⟨_, _, h00.wear, h00.zero, h00.thick, fun i hi hn => absurd (l3 i hi) hn⟩⟩
  have full : ∀ l : List Int, Up b.svs.length 0 l → truthsF b l ≠ [] → ∃ r', lvGo b l.length [] = (r', true) ∧ r'.length = l.length ∧ (r' = l ∨ beforeF r' l = true) := fun l hu ht => by
    obtain ⟨r', h1, h2, h3⟩ := lv_full l.length [] l rfl (by rw [h0]; exact hu) (by simpa using ht)
    exact ⟨r', by simpa using h1, h2, h3⟩
  unfold wrongGo
  obtain ⟨k, k1, k2, k3⟩ := lvFind_at (fun j => lvGo b j.toNat []) (b.svs.length + 1) 0
  have hk2 : ∀ i : Nat, i < k → (lvGo b i []).2 = false := fun i hi => by
    have := k2 i hi
    simpa using this
  rcases k3 with ⟨k4, k5, k6⟩ | ⟨k4, k6⟩
  · have e : ((0 : Int) + (k : Int)).toNat = k := by omega
    rw [k6]
    simp only [e] at k5 ⊢
    obtain ⟨r, r1, r2, r3, r4⟩ := lv_spec k [] k5
    simp only [List.nil_append] at r1 r4
    rw [h0] at r3
    rw [r1]
    refine ⟨r3, r4, ?_, fun l hl hb => ?_⟩
    · constructor
      · intro h
        rw [h] at r4
        exact r4
      · intro h
        obtain ⟨r', h1, h2, h3⟩ := full [] trivial h
        have : k = 0 := by
          cases k with
          | zero => rfl
          | succ k =>
            have := hk2 0 (by omega)
            simp only [List.length_nil] at h1
            rw [h1] at this
            cases this
        subst this
        exact List.eq_nil_of_length_eq_zero r2
    · by_cases ht : truthsF b l = []
      · exact ht
      · exfalso
        obtain ⟨r', h1, h2, h3⟩ := full l hl ht
        simp only [betterF, Bool.or_eq_true, Bool.and_eq_true, decide_eq_true_eq] at hb
        rcases hb with hb | ⟨hb, hb'⟩
        · have := hk2 l.length (by omega)
          rw [h1] at this
          cases this
        · have e2 : l.length = k := by omega
          rw [e2] at h1
          have e3 : r' = r := by
            have := congrArg Prod.fst h1
            exact this.symm.trans r1
          subst e3
          rcases h3 with rfl | h3
          · rw [before_self] at hb'; cases hb'
          · rw [before_anti _ _ h3] at hb'; cases hb'
  · exfalso
    obtain ⟨l, l1, l2, l3⟩ := hall
    obtain ⟨r', h1, _⟩ := full l l1 l3
    have := hk2 l.length (by omega)
    rw [h1] at this
    cases this
end Go.Di

