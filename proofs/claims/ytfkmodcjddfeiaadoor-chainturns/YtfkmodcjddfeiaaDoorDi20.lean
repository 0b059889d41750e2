/- Part 20: an interpreter over plain data for this code, with the proof that it says what the model does, and the contracts of the functions. No condition. -/
import Derived.Test.YtfkmodcjddfeiaaDoorDi19
set_option linter.unusedVariables false
set_option linter.unusedSimpArgs false
namespace Go.Di

/-! ### What the surveys say -/
/-- Surveys let a section be so thick at first. -/
def SatE (b : Book) (x : W4) (k t : Int) (e : Ent) : Prop := eqI [e.1.1, e.1.2] [-1, -1] = false → (e.1.1 == k) = true → e.2.lo + wornF b.secs.length x.a x.b x.c x.d b.turns k e.1.2.toNat ≤ t ∧ t ≤ e.2.hi + wornF b.secs.length x.a x.b x.c x.d b.turns k e.1.2.toNat
theorem both_in {s u : Span} {t : Int} : ((bothF s u).lo ≤ t ∧ t ≤ (bothF s u).hi) ↔ (s.lo ≤ t ∧ t ≤ s.hi) ∧ (u.lo ≤ t ∧ t ≤ u.hi) := by
 simp only [bothF, mx, mn]
 constructor
 ·intro h
  split at h <;> split at h <;> omega
 ·intro h
  split <;> split <;> omega
theorem right_fold (b : Book) (x : W4) (k t : Int) : ∀ (l : List Ent) (s : Span), ((l.foldl (rightStep b x.a x.b x.c x.d k) s).lo ≤ t ∧ t ≤ (l.foldl (rightStep b x.a x.b x.c x.d k) s).hi) ↔ (s.lo ≤ t ∧ t ≤ s.hi) ∧ ∀ e ∈ l, SatE b x k t e
 | [], s => by simp
 | e :: l, s => by
  simp only [List.foldl_cons]
  rw [right_fold b x k t l]
  have : ((rightStep b x.a x.b x.c x.d k s e).lo ≤ t ∧ t ≤ (rightStep b x.a x.b x.c x.d k s e).hi) ↔ (s.lo ≤ t ∧ t ≤ s.hi) ∧ SatE b x k t e := by
   unfold rightStep SatE
   by_cases h : eqI [e.1.1, e.1.2] [-1, -1] = false ∧ (e.1.1 == k) = true
   ·rw [if_pos h, both_in]
    exact and_congr_right fun _ => ⟨fun h' _ _ => h', fun h' => h' h.1 h.2⟩
   ·rw [if_neg h]
    constructor
    ·exact fun h' => ⟨h', fun h1 h2 => absurd ⟨h1, h2⟩ h⟩
    ·exact fun h' => h'.1
  rw [this]
  simp only [List.mem_cons, forall_eq_or_imp]
  exact and_assoc
/-- What one survey says. -/
def SatY (b : Book) (x : W4) (k t : Int) (y : Sv) : Prop := y.s = k → y.r - y.e + wornF b.secs.length x.a x.b x.c x.d b.turns k y.d.toNat ≤ t ∧ t ≤ y.r + y.e + wornF b.secs.length x.a x.b x.c x.d b.turns k y.d.toNat
theorem eqI_key {a c : Int} (h : 0 ≤ a) : eqI [a, c] [-1, -1] = false := by
 cases hq : eqI [a, c] [-1, -1] with
 | false => rfl
 | true =>
  have := (eqI_iff _ _).1 hq
  simp only [List.cons.injEq, and_true] at this
  omega
theorem satE_key {b : Book} {x : W4} {k t : Int} {ks kd : Int} (h : 0 ≤ ks) (s u : Span) : SatE b x k t ((ks, kd), bothF s u) ↔ SatE b x k t ((ks, kd), s) ∧ SatE b x k t ((ks, kd), u) := by
 unfold SatE
 simp only [eqI_key h, true_implies]
 have e : ∀ z : Span, (z.lo + wornF b.secs.length x.a x.b x.c x.d b.turns k kd.toNat ≤ t ∧ t ≤ z.hi + wornF b.secs.length x.a x.b x.c x.d b.turns k kd.toNat) ↔ (z.lo ≤ t - wornF b.secs.length x.a x.b x.c x.d b.turns k kd.toNat ∧ t - wornF b.secs.length x.a x.b x.c x.d b.turns k kd.toNat ≤ z.hi) := fun z => by omega
 rw [e, e, e, both_in]
 constructor
 ·exact fun h => ⟨fun hk => (h hk).1, fun hk => (h hk).2⟩
 ·exact fun h hk => ⟨h.1 hk, h.2 hk⟩
theorem upd_sat {b : Book} {x : W4} {k t : Int} {ks kd : Int} (h : 0 ≤ ks) (s : Span) : ∀ l : List Ent, (∀ e ∈ updK l (ks, kd) (match lookK l (ks, kd) with | some old => bothF old s | none => s), SatE b x k t e) ↔ (∀ e ∈ l, SatE b x k t e) ∧ SatE b x k t ((ks, kd), s)
 | [] => by simp [updK, lookK]
 | (k', v) :: l => by
  simp only [updK, lookK]
  by_cases hk : (ks, kd) = k'
  ·subst hk
   rw [if_pos rfl, if_pos rfl]
   simp only [List.mem_cons, forall_eq_or_imp]
   rw [satE_key h]
   exact ⟨fun ⟨⟨h1, h2⟩, h3⟩ => ⟨⟨h1, h3⟩, h2⟩, fun ⟨⟨h1, h3⟩, h2⟩ => ⟨⟨h1, h2⟩, h3⟩⟩
  ·rw [if_neg hk, if_neg hk]
   simp only [List.mem_cons, forall_eq_or_imp]
   rw [upd_sat h s l]
   exact and_assoc.symm
theorem open_sat {b : Book} (but : List Int) {x : W4} {k t : Int} (hs : ∀ y ∈ b.svs, 0 ≤ y.s) : ∀ m, m ≤ b.svs.length → ((∀ e ∈ openTo b but m, SatE b x k t e) ↔ ∀ i < m, (i : Int) ∉ but → SatY b x k t (svZ b i))
 | 0, _ => by
  simp only [openTo, List.mem_singleton, forall_eq, Nat.not_lt_zero, false_implies, implies_true, iff_true]
  intro h
  cases h
 | m + 1, hm => by
  have ih := open_sat but (x := x) (k := k) (t := t) hs m (by omega)
  simp only [openTo, openStep]
  have hin : svZ b m ∈ b.svs := getD_mem b.svs m sv0 (by omega)
  have hY : SatE b x k t (((svZ b m).s, (svZ b m).d), ⟨(svZ b m).r - (svZ b m).e, (svZ b m).r + (svZ b m).e⟩) ↔ SatY b x k t (svZ b m) := by
   unfold SatE SatY
   simp only [eqI_key (hs _ hin), true_implies, beq_iff_eq]
  by_cases hb : (m : Int) ∈ but
  ·rw [if_pos hb, ih]
   constructor
   ·intro h i hi hn
    by_cases e : i = m
    ·subst e; exact absurd hb hn
    ·exact h i (by omega) hn
   ·exact fun h i hi hn => h i (by omega) hn
  ·rw [if_neg hb]
   have := upd_sat (b := b) (x := x) (k := k) (t := t) (kd := (svZ b m).d) (hs _ hin) ⟨(svZ b m).r - (svZ b m).e, (svZ b m).r + (svZ b m).e⟩ (openTo b but m)
   refine this.trans ?_
   rw [ih, hY]
   constructor
   ·rintro ⟨h1, h2⟩ i hi hn
    by_cases e : i = m
    ·subst e; exact h2
    ·exact h1 i (by omega) hn
   ·exact fun h => ⟨fun i hi hn => h i (by omega) hn, h m (by omega) hb⟩

/-! ### Truths -/
def W4.at (x : W4) (p : Nat) : Int := [x.a, x.b, x.c, x.d].getD p 0
/-- How thick sections are at first, and what places wear: as all that is told lets it be. -/
structure Feas (b : Book) (but : List Int) (T : Nat → Int) (x : W4) : Prop where
 wear : ∀ p < b.secs.length, (b.secs.getD p sec0).w.lo ≤ x.at p ∧ x.at p ≤ (b.secs.getD p sec0).w.hi
 zero : ∀ p, b.secs.length ≤ p → x.at p = 0
 thick : ∀ k < b.secs.length, (b.secs.getD k sec0).t.lo ≤ T k ∧ T k ≤ (b.secs.getD k sec0).t.hi
 right : ∀ i < b.svs.length, (i : Int) ∉ but → ∀ k : Nat, k < b.secs.length → SatY b x k (T k) (svZ b i)
theorem right_mem {b : Book} (but : List Int) {x : W4} (hs : ∀ y ∈ b.svs, 0 ≤ y.s) (k : Nat) (t : Int) : ((rightF b (openF b but) x.a x.b x.c x.d k).lo ≤ t ∧ t ≤ (rightF b (openF b but) x.a x.b x.c x.d k).hi) ↔ ((b.secs.getD k sec0).t.lo ≤ t ∧ t ≤ (b.secs.getD k sec0).t.hi) ∧ ∀ i < b.svs.length, (i : Int) ∉ but → SatY b x k t (svZ b i) := by
 unfold rightF
 rw [right_fold, Int.toNat_natCast]
 unfold openF
 rw [open_sat but hs _ (Nat.le_refl _)]

/-! ### One truth for each wear -/
def leafSet (b : Book) (l : List Ent) (x : W4) : Nat → Nat → TrC → TrC
 | 0, _, t => t
 | f + 1, i, t => leafSet b l x f (i + 1) (setF t i (rightF b l x.a x.b x.c x.d i))
theorem leafGo_mem (b : Book) (l : List Ent) (x : W4) (u : TrC) : ∀ (f i : Nat) (t : TrC), u ∈ leafGo b l x f i t ↔ (∀ k, i ≤ k → k < i + f → (rightF b l x.a x.b x.c x.d k).lo ≤ (rightF b l x.a x.b x.c x.d k).hi) ∧ u = leafSet b l x f i t
 | 0, i, t => by
  simp only [leafGo, leafSet, List.mem_singleton]
  exact ⟨fun h => ⟨fun k h1 h2 => by omega, h⟩, fun h => h.2⟩
 | f + 1, i, t => by
  simp only [leafGo, leafSet]
  by_cases h : (rightF b l x.a x.b x.c x.d i).lo ≤ (rightF b l x.a x.b x.c x.d i).hi
  ·rw [if_pos h, leafGo_mem b l x u f (i + 1)]
   refine and_congr_left fun _ => ⟨fun h' k h1 h2 => ?_, fun h' k h1 h2 => h' k (by omega) (by omega)⟩
   by_cases e : k = i
   ·subst e; exact h
   ·exact h' k (by omega) (by omega)
  ·rw [if_neg h]
   simp only [List.not_mem_nil, false_iff, not_and]
   exact fun h' => absurd (h' i (Nat.le_refl _) (by omega)) h
theorem firstF_set (t : TrC) (i : Nat) (s : Span) (hi : i < 4) (k : Nat) (hk : k < 4) : firstF (setF t i s) k = if k = i then s else firstF t k := by
 unfold firstF
 rw [Int.toNat_natCast]
 match i, hi, k, hk with
 | 0, _, 0, _ => rfl | 0, _, 1, _ => rfl | 0, _, 2, _ => rfl | 0, _, 3, _ => rfl
 | 1, _, 0, _ => rfl | 1, _, 1, _ => rfl | 1, _, 2, _ => rfl | 1, _, 3, _ => rfl
 | 2, _, 0, _ => rfl | 2, _, 1, _ => rfl | 2, _, 2, _ => rfl | 2, _, 3, _ => rfl
 | 3, _, 0, _ => rfl | 3, _, 1, _ => rfl | 3, _, 2, _ => rfl | 3, _, 3, _ => rfl
theorem leafSet_first (b : Book) (l : List Ent) (x : W4) : ∀ (f i : Nat) (t : TrC), i + f ≤ 4 → ∀ k : Nat, k < 4 → firstF (leafSet b l x f i t) k = if i ≤ k ∧ k < i + f then rightF b l x.a x.b x.c x.d k else firstF t k
 | 0, i, t, _, k, _ => by
  rw [if_neg (by omega)]
  rfl
 | f + 1, i, t, h, k, hk => by
  simp only [leafSet]
  rw [leafSet_first b l x f (i + 1) _ (by omega) k hk]
  by_cases h1 : i + 1 ≤ k ∧ k < i + 1 + f
  ·rw [if_pos h1, if_pos (by omega)]
  ·rw [if_neg h1, firstF_set t i _ (by omega) k hk]
   by_cases e : k = i
   ·subst e
    rw [if_pos rfl, if_pos (by omega)]
   ·rw [if_neg e, if_neg (by omega)]
theorem leafSet_w (b : Book) (l : List Ent) (x : W4) : ∀ (f i : Nat) (t : TrC), (leafSet b l x f i t).w0 = t.w0 ∧ (leafSet b l x f i t).w1 = t.w1 ∧ (leafSet b l x f i t).w2 = t.w2 ∧ (leafSet b l x f i t).w3 = t.w3
 | 0, _, _ => ⟨rfl, rfl, rfl, rfl⟩
 | f + 1, i, t => by
  simp only [leafSet]
  obtain ⟨h1, h2, h3, h4⟩ := leafSet_w b l x f (i + 1) (setF t i (rightF b l x.a x.b x.c x.d i))
  obtain ⟨g1, g2, g3, g4⟩ := setF_w t i (rightF b l x.a x.b x.c x.d i)
  exact ⟨h1.trans g1, h2.trans g2, h3.trans g3, h4.trans g4⟩
theorem set_at (x : W4) (p : Nat) (n : Int) (hp : p < 4) (q : Nat) : (x.set p n).at q = if q = p then n else x.at q := by
 match p, hp, q with
 | 0, _, 0 => rfl | 0, _, 1 => rfl | 0, _, 2 => rfl | 0, _, 3 => rfl
 | 1, _, 0 => rfl | 1, _, 1 => rfl | 1, _, 2 => rfl | 1, _, 3 => rfl
 | 2, _, 0 => rfl | 2, _, 1 => rfl | 2, _, 2 => rfl | 2, _, 3 => rfl
 | 3, _, 0 => rfl | 3, _, 1 => rfl | 3, _, 2 => rfl | 3, _, 3 => rfl
 | 0, _, q + 4 => simp [W4.at]
 | 1, _, q + 4 => simp [W4.at]
 | 2, _, q + 4 => simp [W4.at]
 | 3, _, q + 4 => simp [W4.at]
theorem W4.ext_at {x y : W4} (h : ∀ q, q < 4 → x.at q = y.at q) : x = y := by
 obtain ⟨a, b, c, d⟩ := x
 obtain ⟨a', b', c', d'⟩ := y
 have h0 : a = a' := h 0 (by omega)
 have h1 : b = b' := h 1 (by omega)
 have h2 : c = c' := h 2 (by omega)
 have h3 : d = d' := h 3 (by omega)
 rw [h0, h1, h2, h3]
theorem rates_mem' {s : Span} {n : Int} (h0 : 0 ≤ s.lo) : n ∈ ratesF s ↔ s.lo ≤ n ∧ n ≤ s.hi := by
 rw [rates_mem]
 omega
theorem whole_mem {b : Book} (l : List Ent) (u : TrC) (hw : ∀ p, 0 ≤ (b.secs.getD p sec0).w.lo) : ∀ (f p : Nat) (x : W4), p + f ≤ 4 → (u ∈ wholeGo b l f p x ↔ ∃ y : W4, (∀ q, ¬ (p ≤ q ∧ q < p + f) → y.at q = x.at q) ∧ (∀ q, p ≤ q → q < p + f → (b.secs.getD q sec0).w.lo ≤ y.at q ∧ y.at q ≤ (b.secs.getD q sec0).w.hi) ∧ u ∈ leafF b l y)
 | 0, p, x, _ => by
  simp only [wholeGo]
  constructor
  ·exact fun h => ⟨x, fun _ _ => rfl, fun q h1 h2 => by omega, h⟩
  ·rintro ⟨y, h1, _, h3⟩
   have : y = x := W4.ext_at fun q _ => h1 q (by omega)
   rwa [this] at h3
 | f + 1, p, x, hp => by
  simp only [wholeGo, List.mem_flatMap]
  constructor
  ·rintro ⟨n, hn, h⟩
   obtain ⟨y, h1, h2, h3⟩ := (whole_mem l u hw f (p + 1) (x.set p n) (by omega)).1 h
   have hn' := (rates_mem' (hw p)).1 hn
   refine ⟨y, fun q hq => ?_, fun q q1 q2 => ?_, h3⟩
   ·rw [h1 q (by omega), set_at x p n (by omega), if_neg (by omega)]
   ·by_cases e : q = p
    ·subst e
     rw [h1 q (by omega), set_at x q n (by omega), if_pos rfl]
     exact hn'
    ·exact h2 q (by omega) (by omega)
  ·rintro ⟨y, h1, h2, h3⟩
   refine ⟨y.at p, (rates_mem' (hw p)).2 (h2 p (Nat.le_refl _) (by omega)), (whole_mem l u hw f (p + 1) (x.set p (y.at p)) (by omega)).2 ⟨y, fun q hq => ?_, fun q q1 q2 => h2 q (by omega) (by omega), h3⟩⟩
   rw [set_at x p _ (by omega)]
   by_cases e : q = p
   ·rw [if_pos e, e]
   ·rw [if_neg e]
    exact h1 q (by omega)
end Go.Di

namespace Go.Di

/-! ### Truths, and what they let be -/
def wOf (u : TrC) : W4 := ⟨u.w0, u.w1, u.w2, u.w3⟩
theorem Valid.wlo {b : Book} (hV : Valid b) (p : Nat) : 0 ≤ (b.secs.getD p sec0).w.lo := by
 by_cases h : p < b.secs.length
 ·exact (hV.sec _ (getD_mem b.secs p sec0 h)).w.1
 ·rw [List.getD_eq_getElem?_getD, List.getElem?_eq_none (by omega)]
  decide
theorem Valid.svs0 {b : Book} (hV : Valid b) : ∀ y ∈ b.svs, 0 ≤ y.s := fun y hy => (survey_iff.1 (hV.sv y hy)).1.1
/-- What is asked of a book, that its truths can be told. -/
structure Base (b : Book) : Prop where
 n4 : b.secs.length ≤ 4
 wlo : ∀ p : Nat, 0 ≤ (b.secs.getD p sec0).w.lo
 svs0 : ∀ y ∈ b.svs, 0 ≤ y.s
theorem Valid.base {b : Book} (hV : Valid b) : Base b := ⟨hV.secs.2, hV.wlo, hV.svs0⟩
theorem Base.more {b : Book} (hB : Base b) {y : Sv} (hy : 0 ≤ y.s) : Base (more b y) := ⟨hB.n4, hB.wlo, fun z hz => by
 rcases List.mem_append.1 hz with hz | hz
 ·exact hB.svs0 z hz
 ·simp only [List.mem_singleton] at hz
  subst hz
  exact hy⟩
/-- Which truths there are. -/
theorem truth_mem {b : Book} (hV : Base b) (but : List Int) (u : TrC) : u ∈ truthsF b but ↔ ∃ x : W4, (∀ p < b.secs.length, (b.secs.getD p sec0).w.lo ≤ x.at p ∧ x.at p ≤ (b.secs.getD p sec0).w.hi) ∧ (∀ p, b.secs.length ≤ p → x.at p = 0) ∧
  (∀ k, k < b.secs.length → (rightF b (openF b but) x.a x.b x.c x.d k).lo ≤ (rightF b (openF b but) x.a x.b x.c x.d k).hi) ∧ u = leafSet b (openF b but) x b.secs.length 0 (trOf x) := by
 have h4 := hV.n4
 have h0 : ∀ q : Nat, (⟨0, 0, 0, 0⟩ : W4).at q = 0 := fun q => by
  match q with
  | 0 => rfl
  | 1 => rfl
  | 2 => rfl
  | 3 => rfl
  | q + 4 => simp [W4.at]
 unfold truthsF
 rw [whole_mem (openF b but) u hV.wlo b.secs.length 0 ⟨0, 0, 0, 0⟩ (by omega)]
 unfold leafF
 constructor
 ·rintro ⟨y, h1, h2, h3⟩
  obtain ⟨h5, h6⟩ := (leafGo_mem b _ y u _ _ _).1 h3
  exact ⟨y, fun p hp => h2 p (Nat.zero_le _) (by omega), fun p hp => (h1 p (by omega)).trans (h0 p), fun k hk => h5 k (Nat.zero_le _) (by omega), h6⟩
 ·rintro ⟨x, h1, h2, h3, h5⟩
  exact ⟨x, fun q hq => (h2 q (by omega)).trans (h0 q).symm, fun q _ hq => h1 q (by omega), (leafGo_mem b _ x u _ _ _).2 ⟨fun k _ hk => h3 k (by omega), h5⟩⟩
theorem leaf_wOf (b : Book) (l : List Ent) (x : W4) (f : Nat) : wOf (leafSet b l x f 0 (trOf x)) = x := by
 obtain ⟨h1, h2, h3, h4⟩ := leafSet_w b l x f 0 (trOf x)
 unfold wOf
 rw [h1, h2, h3, h4]
 rfl
/-- What is in a truth can be. -/
theorem feas_of_truth {b : Book} (hV : Base b) {but : List Int} {u : TrC} (hu : u ∈ truthsF b but) {T : Nat → Int} (hT : ∀ k : Nat, k < b.secs.length → (firstF u k).lo ≤ T k ∧ T k ≤ (firstF u k).hi) : Feas b but T (wOf u) := by
 have h4 := hV.n4
 obtain ⟨x, h1, h2, h3, rfl⟩ := (truth_mem hV but u).1 hu
 rw [leaf_wOf]
 have hf : ∀ k : Nat, k < b.secs.length → firstF (leafSet b (openF b but) x b.secs.length 0 (trOf x)) k = rightF b (openF b but) x.a x.b x.c x.d k := fun k hk => by
  rw [leafSet_first b _ x _ 0 _ (by omega) k (by omega), if_pos (by omega)]
 have hr : ∀ k : Nat, k < b.secs.length → ((b.secs.getD k sec0).t.lo ≤ T k ∧ T k ≤ (b.secs.getD k sec0).t.hi) ∧ ∀ i < b.svs.length, (i : Int) ∉ but → SatY b x k (T k) (svZ b i) := fun k hk => by
  have := hT k hk
  rw [hf k hk] at this
  exact (right_mem but hV.svs0 k (T k)).1 this
 exact ⟨h1, h2, fun k hk => (hr k hk).1, fun i hi hn k hk => (hr k hk).2 i hi hn⟩
/-- What can be is in a truth. -/
theorem truth_of_feas {b : Book} (hV : Base b) {but : List Int} {T : Nat → Int} {x : W4} (h : Feas b but T x) : ∃ u ∈ truthsF b but, wOf u = x ∧ ∀ k : Nat, k < b.secs.length → (firstF u k).lo ≤ T k ∧ T k ≤ (firstF u k).hi := by
 have h4 := hV.n4
 have hr : ∀ k : Nat, k < b.secs.length → (rightF b (openF b but) x.a x.b x.c x.d k).lo ≤ T k ∧ T k ≤ (rightF b (openF b but) x.a x.b x.c x.d k).hi := fun k hk =>
  (right_mem but hV.svs0 k (T k)).2 ⟨h.thick k hk, fun i hi hn => h.right i hi hn k hk⟩
 refine ⟨leafSet b (openF b but) x b.secs.length 0 (trOf x), (truth_mem hV but _).2 ⟨x, h.wear, h.zero, fun k hk => by have := hr k hk; omega, rfl⟩, leaf_wOf _ _ _ _, fun k hk => ?_⟩
 rw [leafSet_first b _ x _ 0 _ (by omega) k (by omega), if_pos (by omega)]
 exact hr k hk
theorem truth_full {b : Book} (hV : Base b) {but : List Int} {u : TrC} (hu : u ∈ truthsF b but) (k : Nat) (hk : k < b.secs.length) : (firstF u k).lo ≤ (firstF u k).hi := by
 have h4 := hV.n4
 obtain ⟨x, h1, h2, h3, rfl⟩ := (truth_mem hV but u).1 hu
 rw [leafSet_first b _ x _ 0 _ (by omega) k (by omega), if_pos (by omega)]
 exact h3 k hk
/-- A book can be true just if something can be. -/
theorem can_iff {b : Book} (hV : Base b) (but : List Int) : truthsF b but ≠ [] ↔ ∃ T x, Feas b but T x := by
 constructor
 ·intro h
  obtain ⟨u, hu⟩ := List.exists_mem_of_ne_nil _ h
  exact ⟨fun k => (firstF u k).lo, wOf u, feas_of_truth hV hu fun k hk => ⟨Int.le_refl _, truth_full hV hu k hk⟩⟩
 ·rintro ⟨T, x, h⟩ h0
  obtain ⟨u, hu, _⟩ := truth_of_feas hV h
  rw [h0] at hu
  cases hu

/-! ### What is told of all truths -/
theorem told_fold (g : TrC → Span) : ∀ (ts : List TrC) (s : Span), ((ts.foldl (fun o t => hullF o (g t)) s).lo = s.lo ∨ ∃ t ∈ ts, (ts.foldl (fun o t => hullF o (g t)) s).lo = (g t).lo) ∧ ((ts.foldl (fun o t => hullF o (g t)) s).hi = s.hi ∨ ∃ t ∈ ts, (ts.foldl (fun o t => hullF o (g t)) s).hi = (g t).hi) ∧
  (ts.foldl (fun o t => hullF o (g t)) s).lo ≤ s.lo ∧ s.hi ≤ (ts.foldl (fun o t => hullF o (g t)) s).hi ∧ ∀ t ∈ ts, (ts.foldl (fun o t => hullF o (g t)) s).lo ≤ (g t).lo ∧ (g t).hi ≤ (ts.foldl (fun o t => hullF o (g t)) s).hi
 | [], s => ⟨.inl rfl, .inl rfl, Int.le_refl _, Int.le_refl _, fun t ht => by cases ht⟩
 | t :: ts, s => by
  obtain ⟨h1, h2, h3, h4, h5⟩ := told_fold g ts (hullF s (g t))
  have e1 : (hullF s (g t)).lo = s.lo ∨ (hullF s (g t)).lo = (g t).lo := by simp only [hullF, mn]; split <;> simp
  have e2 : (hullF s (g t)).hi = s.hi ∨ (hullF s (g t)).hi = (g t).hi := by simp only [hullF, mx]; split <;> simp
  have e3 : (hullF s (g t)).lo ≤ s.lo ∧ (hullF s (g t)).lo ≤ (g t).lo := by simp only [hullF, mn]; split <;> omega
  have e4 : s.hi ≤ (hullF s (g t)).hi ∧ (g t).hi ≤ (hullF s (g t)).hi := by simp only [hullF, mx]; split <;> omega
  simp only [List.foldl_cons]
  refine ⟨?_, ?_, by omega, by omega, fun u hu => ?_⟩
  ·rcases h1 with h1 | ⟨u, hu, h1⟩
   ·rcases e1 with e1 | e1
    ·exact .inl (h1.trans e1)
    ·exact .inr ⟨t, by simp, h1.trans e1⟩
   ·exact .inr ⟨u, by simp [hu], h1⟩
  ·rcases h2 with h2 | ⟨u, hu, h2⟩
   ·rcases e2 with e2 | e2
    ·exact .inl (h2.trans e2)
    ·exact .inr ⟨t, by simp, h2.trans e2⟩
   ·exact .inr ⟨u, by simp [hu], h2⟩
  ·rcases List.mem_cons.1 hu with rfl | hu
   ·omega
   ·exact h5 u hu
theorem told_spec (g : TrC → Span) {ts : List TrC} (hne : ts ≠ []) : (∃ t ∈ ts, (toldF g ts).lo = (g t).lo) ∧ (∃ t ∈ ts, (toldF g ts).hi = (g t).hi) ∧ ∀ t ∈ ts, (toldF g ts).lo ≤ (g t).lo ∧ (g t).hi ≤ (toldF g ts).hi := by
 obtain ⟨h1, h2, _, _, h5⟩ := told_fold g ts (g (ts.getD 0 trc0))
 have h0 : ts.getD 0 trc0 ∈ ts := getD_mem ts 0 trc0 (List.length_pos_iff.2 hne)
 refine ⟨?_, ?_, h5⟩
 ·rcases h1 with h1 | h1
  ·exact ⟨_, h0, h1⟩
  ·exact h1
 ·rcases h2 with h2 | h2
  ·exact ⟨_, h0, h2⟩
  ·exact h2
/-- How much a section is worn. -/
def wornX (b : Book) (turns : List Int) (x : W4) (k : Nat) (d : Int) : Int := wornF b.secs.length x.a x.b x.c x.d turns k d.toNat
theorem wornT_eq (b : Book) (turns : List Int) (k : Nat) (d : Int) (u : TrC) : wornT b turns k d u = wornX b turns (wOf u) k d := rfl
theorem thick_in {b : Book} (hV : Base b) {but : List Int} {T : Nat → Int} {x : W4} (h : Feas b but T x) (turns : List Int) (k : Nat) (hk : k < b.secs.length) (d : Int) :
  (thickF b (truthsF b but) turns k d).lo ≤ T k - wornX b turns x k d ∧ T k - wornX b turns x k d ≤ (thickF b (truthsF b but) turns k d).hi := by
 obtain ⟨u, hu, rfl, hf⟩ := truth_of_feas hV h
 have hne : truthsF b but ≠ [] := fun e => by rw [e] at hu; cases hu
 have := (told_spec (thick1F b turns k d) hne).2.2 u hu
 have hk' := hf k hk
 simp only [thick1F, wornT_eq] at this
 unfold thickF
 omega
theorem thick_lo {b : Book} (hV : Base b) {but : List Int} (hne : truthsF b but ≠ []) (turns : List Int) (k : Nat) (hk : k < b.secs.length) (d : Int) : ∃ T x, Feas b but T x ∧ T k - wornX b turns x k d = (thickF b (truthsF b but) turns k d).lo := by
 obtain ⟨u, hu, h⟩ := (told_spec (thick1F b turns k d) hne).1
 exact ⟨fun k => (firstF u k).lo, wOf u, feas_of_truth hV hu fun k hk => ⟨Int.le_refl _, truth_full hV hu k hk⟩, h.symm⟩
theorem thick_hi {b : Book} (hV : Base b) {but : List Int} (hne : truthsF b but ≠ []) (turns : List Int) (k : Nat) (hk : k < b.secs.length) (d : Int) : ∃ T x, Feas b but T x ∧ T k - wornX b turns x k d = (thickF b (truthsF b but) turns k d).hi := by
 obtain ⟨u, hu, h⟩ := (told_spec (thick1F b turns k d) hne).2.1
 exact ⟨fun k => (firstF u k).hi, wOf u, feas_of_truth hV hu fun k hk => ⟨truth_full hV hu k hk, Int.le_refl _⟩, h.symm⟩
/-! ### One survey more -/
end Go.Di

namespace Go.Di
end Go.Di

namespace Go.Di

/-! ### How thick a section can be: from 0 to 200 -/
/-! ### The law ChainEnds -/
end Go.Di

namespace Go.Di

/-! ### What can be of one book can be of another -/
theorem span_ext {s t : Span} (h1 : s.lo = t.lo) (h2 : s.hi = t.hi) : s = t := by
 cases s; cases t; simp only at h1 h2; subst h1 h2; rfl
theorem can_true {b : Book} (h : truthsF b [] ≠ []) : canF b = true := by
 unfold canF
 cases hq : truthsF b [] with
 | nil => exact absurd hq h
 | cons x l => rfl
/-! ### Where a section lies, by the number of turns -/
def flips (turns : List Int) (d : Int) : Bool := turns.foldl (fun p t => if t ≤ d then !p else p) false
theorem flips_fold (d : Int) : ∀ (l : List Int) (p : Bool), l.foldl (fun p t => if t ≤ d then !p else p) p = Bool.xor p (flips l d)
 | [], p => by simp [flips]
 | t :: l, p => by
  unfold flips
  simp only [List.foldl_cons]
  rw [flips_fold d l, flips_fold d l]
  by_cases h : t ≤ d
  ·rw [if_pos h, if_pos h]; cases p <;> simp
  ·rw [if_neg h, if_neg h]; simp
theorem flips_append (l m : List Int) (d : Int) : flips (l ++ m) d = Bool.xor (flips l d) (flips m d) := by
 have : flips (l ++ m) d = m.foldl (fun p t => if t ≤ d then !p else p) (flips l d) := by
  unfold flips
  rw [List.foldl_append]
 rw [this, flips_fold]
theorem flips_one (t d : Int) : flips [t] d = decide (t ≤ d) := by
 unfold flips
 simp only [List.foldl_cons, List.foldl_nil]
 by_cases h : t ≤ d
 ·rw [if_pos h]; simp [h]
 ·rw [if_neg h]; simp [h]
theorem place_fold (n d : Int) : ∀ (l : List Int) (s : Int), placeF n l d s = if flips l d = true then n - 1 - s else s
 | [], s => by simp [placeF, flips]
 | t :: l, s => by
  have h1 : placeF n (t :: l) d s = placeF n l d (if t ≤ d then n - 1 - s else s) := rfl
  have h2 : flips (t :: l) d = Bool.xor (decide (t ≤ d)) (flips l d) := by
   have := flips_append [t] l d
   rwa [flips_one] at this
  rw [h1, place_fold n d l, h2]
  by_cases h : t ≤ d
  ·rw [if_pos h, decide_eq_true h]
   cases flips l d <;> simp
   omega
  ·rw [if_neg h, decide_eq_false h]
   cases flips l d <;> simp
/-! ### What can be, by all surveys -/
theorem svZ_mem {b : Book} {i : Nat} (hi : i < b.svs.length) : svZ b i ∈ b.svs := getD_mem b.svs i sv0 hi
theorem mem_svZ {b : Book} {y : Sv} (hy : y ∈ b.svs) : ∃ i, i < b.svs.length ∧ svZ b i = y := by
 obtain ⟨i, hi, h⟩ := List.getElem_of_mem hy
 refine ⟨i, hi, ?_⟩
 show b.svs.getD i sv0 = y
 rw [List.getD_eq_getElem?_getD, List.getElem?_eq_getElem hi, ← h]
 rfl
structure Feas0 (b : Book) (T : Nat → Int) (x : W4) : Prop where
 wear : ∀ p < b.secs.length, (b.secs.getD p sec0).w.lo ≤ x.at p ∧ x.at p ≤ (b.secs.getD p sec0).w.hi
 zero : ∀ p, b.secs.length ≤ p → x.at p = 0
 thick : ∀ k < b.secs.length, (b.secs.getD k sec0).t.lo ≤ T k ∧ T k ≤ (b.secs.getD k sec0).t.hi
theorem feas_nil {b : Book} {T : Nat → Int} {x : W4} : Feas b [] T x ↔ Feas0 b T x ∧ ∀ y ∈ b.svs, ∀ k : Nat, k < b.secs.length → SatY b x k (T k) y := by
 constructor
 ·intro h
  refine ⟨⟨h.wear, h.zero, h.thick⟩, fun y hy k hk => ?_⟩
  obtain ⟨i, hi, rfl⟩ := mem_svZ hy
  exact h.right i hi (by simp) k hk
 ·rintro ⟨h, h'⟩
  exact ⟨h.wear, h.zero, h.thick, fun i hi _ k hk => h' _ (svZ_mem hi) k hk⟩
/-- Ends of what places wear. -/
def wearsBy (b : Book) (f : Sec → Int) : W4 := ⟨f (b.secs.getD 0 sec0), f (b.secs.getD 1 sec0), f (b.secs.getD 2 sec0), f (b.secs.getD 3 sec0)⟩
theorem wearsBy_at {b : Book} {f : Sec → Int} (h4 : b.secs.length ≤ 4) (hf : f sec0 = 0) (p : Nat) : (wearsBy b f).at p = f (b.secs.getD p sec0) := by
 match p with
 | 0 => rfl
 | 1 => rfl
 | 2 => rfl
 | 3 => rfl
 | p + 4 =>
  rw [List.getD_eq_getElem?_getD, List.getElem?_eq_none (by omega)]
  show ([_, _, _, _] : List Int).getD (p + 4) 0 = f sec0
  rw [hf]
  simp
theorem feas0_by {b : Book} (hV : Valid b) {f g : Sec → Int} (hf : f sec0 = 0) (h : ∀ x ∈ b.secs, x.w.lo ≤ f x ∧ f x ≤ x.w.hi) (h' : ∀ x ∈ b.secs, x.t.lo ≤ g x ∧ g x ≤ x.t.hi) : Feas0 b (fun k => g (b.secs.getD k sec0)) (wearsBy b f) := by
 have h4 := hV.secs.2
 refine ⟨fun p hp => ?_, fun p hp => ?_, fun k hk => h' _ (getD_mem b.secs k sec0 hk)⟩
 ·rw [wearsBy_at h4 hf]
  exact h _ (getD_mem b.secs p sec0 hp)
 ·rw [wearsBy_at h4 hf, List.getD_eq_getElem?_getD, List.getElem?_eq_none (by omega)]
  exact hf
end Go.Di

namespace Go.Di

/-! ### Books with surveys to spare -/
structure Val9 (b : Book) : Prop where
 secs : 1 ≤ b.secs.length ∧ b.secs.length ≤ 4
 days : 1 ≤ b.days ∧ b.days ≤ 30
 turns : b.turns.length ≤ 4
 svs : b.svs.length ≤ 1000
 sec : ∀ x ∈ b.secs, SecOk x
 sv : ∀ y ∈ b.svs, isSurveyF b y = true
theorem Valid.v9 {b : Book} (hV : Valid b) : Val9 b := ⟨hV.secs, hV.days, hV.turns, by have := hV.svs; omega, hV.sec, hV.sv⟩
theorem Val9.wlo {b : Book} (hV : Val9 b) (p : Nat) : 0 ≤ (b.secs.getD p sec0).w.lo := by
 by_cases h : p < b.secs.length
 ·exact (hV.sec _ (getD_mem b.secs p sec0 h)).w.1
 ·rw [List.getD_eq_getElem?_getD, List.getElem?_eq_none (by omega)]
  decide
theorem Val9.base {b : Book} (hV : Val9 b) : Base b := ⟨hV.secs.2, hV.wlo, fun y hy => (survey_iff.1 (hV.sv y hy)).1.1⟩
theorem feas9_by {b : Book} (hV : Val9 b) {f g : Sec → Int} (hf : f sec0 = 0) (h : ∀ x ∈ b.secs, x.w.lo ≤ f x ∧ f x ≤ x.w.hi) (h' : ∀ x ∈ b.secs, x.t.lo ≤ g x ∧ g x ≤ x.t.hi) : Feas0 b (fun k => g (b.secs.getD k sec0)) (wearsBy b f) := by
 have h4 := hV.secs.2
 refine ⟨fun p hp => ?_, fun p hp => ?_, fun k hk => h' _ (getD_mem b.secs k sec0 hk)⟩
 ·rw [wearsBy_at h4 hf]
  exact h _ (getD_mem b.secs p sec0 hp)
 ·rw [wearsBy_at h4 hf, List.getD_eq_getElem?_getD, List.getElem?_eq_none (by omega)]
  exact hf

/-! ### The reference: a section and its other, by themselves -/
def othF (b : Book) (k : Nat) : Nat := b.secs.length - 1 - k
def th1 (turns : List Int) (t w v : Int) : Nat → Int
 | 0 => t
 | d + 1 => th1 turns t w v d - (if flips turns d = true then v else w)
def tr1D (u : Tr1) : D := .agg [.int .i64 u.t0, .int .i64 u.t1, .int .i64 u.w0, .int .i64 u.w1]
/-- Is a survey right? -/
def sat1 (b : Book) (k o : Nat) (u : Tr1) (y : Sv) : Bool :=
 if y.s = (k : Int) then insideF (y.r - th1 b.turns u.t0 u.w0 u.w1 y.d.toNat) (0 - y.e) y.e
 else if y.s = (o : Int) then insideF (y.r - th1 b.turns u.t1 u.w1 u.w0 y.d.toNat) (0 - y.e) y.e else true
def right1 (b : Book) (k o : Nat) (u : Tr1) : Bool := (List.range b.svs.length).all fun i => sat1 b k o u (svZ b i)
/-! What can be, in the order in which it is found. -/
def lpF (lo : Int) (g : Int → List Tr1) (i : Nat) : List Tr1 := (List.range i).flatMap fun (j : Nat) => g (lo + (j : Int))
def one1 (b : Book) (k o : Nat) (t0 t1 w0 w1 : Int) : List Tr1 := if k = o ∧ ¬ (t0 = t1 ∧ w0 = w1) then [] else if right1 b k o ⟨t0, t1, w0, w1⟩ = true then [⟨t0, t1, w0, w1⟩] else []
def sp1 (s : Span) : Nat := (s.hi + 1 - s.lo).toNat
def g3 (b : Book) (k o : Nat) (t0 t1 w0 : Int) (i : Nat) : List Tr1 := lpF (b.secs.getD o sec0).w.lo (one1 b k o t0 t1 w0) i
def g2 (b : Book) (k o : Nat) (t0 t1 : Int) (i : Nat) : List Tr1 := lpF (b.secs.getD k sec0).w.lo (fun w0 => g3 b k o t0 t1 w0 (sp1 (b.secs.getD o sec0).w)) i
def g1 (b : Book) (k o : Nat) (t0 : Int) (i : Nat) : List Tr1 := lpF (b.secs.getD o sec0).t.lo (fun t1 => g2 b k o t0 t1 (sp1 (b.secs.getD k sec0).w)) i
def g0 (b : Book) (k o : Nat) (i : Nat) : List Tr1 := lpF (b.secs.getD k sec0).t.lo (fun t0 => g1 b k o t0 (sp1 (b.secs.getD o sec0).t)) i
def truths1 (b : Book) (k : Nat) : List Tr1 := g0 b k (othF b k) (sp1 (b.secs.getD k sec0).t)
theorem lp_next (lo : Int) (g : Int → List Tr1) (i : Nat) : lpF lo g (i + 1) = lpF lo g i ++ g (lo + i) := by
 unfold lpF
 rw [List.range_succ, List.flatMap_append]
 simp
theorem mem_lp {lo : Int} {g : Int → List Tr1} {i : Nat} {u : Tr1} : u ∈ lpF lo g i ↔ ∃ n, lo ≤ n ∧ n < lo + i ∧ u ∈ g n := by
 unfold lpF
 rw [List.mem_flatMap]
 constructor
 ·rintro ⟨j, hj, hu⟩
  rw [List.mem_range] at hj
  exact ⟨lo + j, by omega, by omega, hu⟩
 ·rintro ⟨n, h1, h2, hu⟩
  refine ⟨(n - lo).toNat, List.mem_range.2 (by omega), ?_⟩
  rwa [show lo + ((n - lo).toNat : Int) = n by omega]
theorem lp_len {lo : Int} {g : Int → List Tr1} {M : Nat} (h : ∀ n, (g n).length ≤ M) : ∀ i : Nat, (lpF lo g i).length ≤ i * M
 | 0 => by simp [lpF]
 | i + 1 => by
  rw [lp_next, List.length_append, Nat.succ_mul]
  have := lp_len (lo := lo) h i
  have := h (lo + i)
  omega
theorem one1_len (b : Book) (k o : Nat) (t0 t1 w0 w1 : Int) : (one1 b k o t0 t1 w0 w1).length ≤ 1 := by
 unfold one1
 split
 ·simp
 ·split <;> simp
theorem g3_len (b : Book) (k o : Nat) (t0 t1 w0 : Int) (i : Nat) : (g3 b k o t0 t1 w0 i).length ≤ i := by
 have := lp_len (lo := (b.secs.getD o sec0).w.lo) (one1_len b k o t0 t1 w0) i
 unfold g3
 omega
theorem mem_one1 {b : Book} {k o : Nat} {t0 t1 w0 w1 : Int} {u : Tr1} : u ∈ one1 b k o t0 t1 w0 w1 ↔ u = ⟨t0, t1, w0, w1⟩ ∧ (k = o → t0 = t1 ∧ w0 = w1) ∧ right1 b k o ⟨t0, t1, w0, w1⟩ = true := by
 unfold one1
 by_cases h : k = o ∧ ¬ (t0 = t1 ∧ w0 = w1)
 ·rw [if_pos h]
  exact ⟨fun h' => by simp at h', fun h' => absurd (h'.2.1 h.1) h.2⟩
 ·rw [if_neg h]
  have h' : k = o → t0 = t1 ∧ w0 = w1 := fun e => Classical.byContradiction fun hc => h ⟨e, hc⟩
  by_cases hr : right1 b k o ⟨t0, t1, w0, w1⟩ = true
  ·rw [if_pos hr]
   simp [hr]
   exact fun _ => h'
  ·rw [if_neg hr]
   simp [hr]
structure In1 (b : Book) (k o : Nat) (u : Tr1) : Prop where
 t0 : (b.secs.getD k sec0).t.lo ≤ u.t0 ∧ u.t0 ≤ (b.secs.getD k sec0).t.hi
 t1 : (b.secs.getD o sec0).t.lo ≤ u.t1 ∧ u.t1 ≤ (b.secs.getD o sec0).t.hi
 w0 : (b.secs.getD k sec0).w.lo ≤ u.w0 ∧ u.w0 ≤ (b.secs.getD k sec0).w.hi
 w1 : (b.secs.getD o sec0).w.lo ≤ u.w1 ∧ u.w1 ≤ (b.secs.getD o sec0).w.hi
 same : k = o → u.t0 = u.t1 ∧ u.w0 = u.w1
 right : right1 b k o u = true
theorem mem_truths1 {b : Book} {k : Nat} {u : Tr1} : u ∈ truths1 b k ↔ In1 b k (othF b k) u := by
 unfold truths1 g0
 simp only [mem_lp, g1, g2, g3, mem_one1, sp1]
 constructor
 ·rintro ⟨t0, a1, a2, t1, b1, b2, w0, c1, c2, w1, d1, d2, rfl, e1, e2⟩
  exact ⟨by simp only; omega, by simp only; omega, by simp only; omega, by simp only; omega, e1, e2⟩
 ·rintro ⟨h1, h2, h3, h4, h5, h6⟩
  exact ⟨u.t0, h1.1, by omega, u.t1, h2.1, by omega, u.w0, h3.1, by omega, u.w1, h4.1, by omega, rfl, h5, h6⟩

/-! ### The pairs and the whole -/
theorem th1_worn {b : Book} {x : W4} {tn : List Int} {k : Nat} (hk : k < b.secs.length) (t : Int) : ∀ d : Nat, th1 tn t (x.at k) (x.at (othF b k)) d = t - wornX b tn x k d
 | 0 => by simp [th1, wornX, wornF]
 | d + 1 => by
  have ih := th1_worn (x := x) (tn := tn) hk t d
  have e : wornX b tn x k ((d + 1 : Nat) : Int) = wornX b tn x k d + wF x.a x.b x.c x.d (placeF b.secs.length tn d k) := rfl
  rw [e, place_fold]
  simp only [th1]
  rw [ih]
  by_cases h : flips tn d = true
  ·rw [if_pos h, if_pos h]
   have : wF x.a x.b x.c x.d ((b.secs.length : Int) - 1 - k) = x.at (othF b k) := by
    unfold wF W4.at othF
    rw [show ((b.secs.length : Int) - 1 - k).toNat = b.secs.length - 1 - k by omega]
   omega
  ·rw [if_neg h, if_neg h]
   have : wF x.a x.b x.c x.d (k : Int) = x.at k := rfl
   omega
theorem oth_lt {b : Book} {k : Nat} (hk : k < b.secs.length) : othF b k < b.secs.length := by unfold othF; omega
theorem oth_oth {b : Book} {k : Nat} (hk : k < b.secs.length) : othF b (othF b k) = k := by unfold othF; omega
/-- A survey's word of one section. -/
theorem satY_th {b : Book} {x : W4} {k : Nat} (hk : k < b.secs.length) {t : Int} {y : Sv} (hd : 0 ≤ y.d) : SatY b x k t y ↔ (y.s = k → insideF (y.r - th1 b.turns t (x.at k) (x.at (othF b k)) y.d.toNat) (0 - y.e) y.e = true) := by
 rw [th1_worn hk]
 unfold SatY wornX
 simp only [insideF, Bool.and_eq_true, decide_eq_true_eq, Int.toNat_natCast]
 constructor
 ·intro h hs
  have := h hs
  omega
 ·intro h hs
  have := h hs
  omega
theorem right1_iff {b : Book} {k o : Nat} {u : Tr1} : right1 b k o u = true ↔ ∀ y ∈ b.svs, sat1 b k o u y = true := by
 unfold right1
 rw [List.all_eq_true]
 constructor
 ·intro h y hy
  obtain ⟨i, hi, rfl⟩ := mem_svZ hy
  exact h i (List.mem_range.2 hi)
 ·intro h i hi
  exact h _ (svZ_mem (List.mem_range.1 hi))
theorem Val9.d0 {b : Book} (hV : Val9 b) : ∀ y ∈ b.svs, 0 ≤ y.d := fun y hy => (survey_iff.1 (hV.sv y hy)).2.1.1
theorem sat1_iff {b : Book} {T : Nat → Int} {x : W4} {k : Nat} (hk : k < b.secs.length) {y : Sv} (hd : 0 ≤ y.d) :
  sat1 b k (othF b k) ⟨T k, T (othF b k), x.at k, x.at (othF b k)⟩ y = true ↔ SatY b x k (T k) y ∧ (othF b k ≠ k → SatY b x (othF b k) (T (othF b k)) y) := by
 rw [satY_th hk hd, satY_th (oth_lt hk) hd, oth_oth hk]
 unfold sat1
 by_cases h1 : y.s = (k : Int)
 ·rw [if_pos h1]
  exact ⟨fun h => ⟨fun _ => h, fun hne hs => absurd (by omega) hne⟩, fun h => h.1 h1⟩
 ·rw [if_neg h1]
  by_cases h2 : y.s = (othF b k : Int)
  ·rw [if_pos h2]
   exact ⟨fun h => ⟨fun hs => absurd hs h1, fun _ _ => h⟩, fun h => h.2 (fun e => h1 (by rw [h2, e])) h2⟩
  ·rw [if_neg h2]
   exact ⟨fun _ => ⟨fun hs => absurd hs h1, fun _ hs => absurd hs h2⟩, fun _ => rfl⟩
/-- What can be gives a truth of each pair. -/
theorem pair_of_feas {b : Book} (hV : Val9 b) {T : Nat → Int} {x : W4} (h : Feas b [] T x) {k : Nat} (hk : k < b.secs.length) : (⟨T k, T (othF b k), x.at k, x.at (othF b k)⟩ : Tr1) ∈ truths1 b k := by
 obtain ⟨h0, hs⟩ := feas_nil.1 h
 have ho := oth_lt hk
 exact mem_truths1.2 ⟨h0.thick k hk, h0.thick _ ho, h0.wear k hk, h0.wear _ ho, fun e => by simp only [← e, and_self], right1_iff.2 fun y hy => (sat1_iff hk (hV.d0 y hy)).2 ⟨hs y hy k hk, fun _ => hs y hy _ ho⟩⟩
/-- A pair's truth in place of what was. -/
theorem glue {b : Book} (hV : Val9 b) {T : Nat → Int} {x : W4} (h0 : Feas0 b T x) {k : Nat} (hk : k < b.secs.length) {u : Tr1} (hu : u ∈ truths1 b k) :
  ∃ T' x', Feas0 b T' x' ∧ T' k = u.t0 ∧ x'.at k = u.w0 ∧ x'.at (othF b k) = u.w1 ∧ ∀ y ∈ b.svs, ∀ j < b.secs.length, (j = k ∨ j = othF b k ∨ SatY b x j (T j) y) → SatY b x' j (T' j) y := by
 have hi := mem_truths1.1 hu
 have ho := oth_lt hk
 have h4 := hV.secs.2
 let T' : Nat → Int := fun j => if j = k then u.t0 else if j = othF b k then u.t1 else T j
 let x' : W4 := (x.set (othF b k) u.w1).set k u.w0
 have xa : ∀ q, x'.at q = if q = k then u.w0 else if q = othF b k then u.w1 else x.at q := fun q => by
  show ((x.set (othF b k) u.w1).set k u.w0).at q = _
  rw [set_at _ _ _ (by omega), set_at _ _ _ (by omega)]
 have tk : T' k = u.t0 := if_pos rfl
 have to : T' (othF b k) = u.t1 := by
  show (if othF b k = k then u.t0 else if othF b k = othF b k then u.t1 else T (othF b k)) = _
  by_cases e : othF b k = k
  ·rw [if_pos e]; exact (hi.same e.symm).1
  ·rw [if_neg e, if_pos rfl]
 have xk : x'.at k = u.w0 := by rw [xa, if_pos rfl]
 have xo : x'.at (othF b k) = u.w1 := by
  rw [xa]
  by_cases e : othF b k = k
  ·rw [if_pos e]; exact (hi.same e.symm).2
  ·rw [if_neg e, if_pos rfl]
 have hsat : ∀ y ∈ b.svs, SatY b x' k (T' k) y ∧ (othF b k ≠ k → SatY b x' (othF b k) (T' (othF b k)) y) := fun y hy => by
  have := right1_iff.1 hi.right y hy
  rw [← sat1_iff hk (hV.d0 y hy), tk, to, xk, xo]
  exact this
 refine ⟨T', x', ⟨fun p hp => ?_, fun p hp => ?_, fun j hj => ?_⟩, tk, xk, xo, fun y hy j hj hc => ?_⟩
 ·rw [xa]
  by_cases e1 : p = k
  ·rw [if_pos e1, e1]; exact hi.w0
  ·rw [if_neg e1]
   by_cases e2 : p = othF b k
   ·rw [if_pos e2, e2]; exact hi.w1
   ·rw [if_neg e2]; exact h0.wear p hp
 ·rw [xa, if_neg (by omega), if_neg (by omega)]
  exact h0.zero p hp
 ·show (b.secs.getD j sec0).t.lo ≤ (if j = k then u.t0 else if j = othF b k then u.t1 else T j) ∧ (if j = k then u.t0 else if j = othF b k then u.t1 else T j) ≤ _
  by_cases e1 : j = k
  ·rw [if_pos e1, e1]; exact hi.t0
  ·rw [if_neg e1]
   by_cases e2 : j = othF b k
   ·rw [if_pos e2, e2]; exact hi.t1
   ·rw [if_neg e2]; exact h0.thick j hj
 ·by_cases e1 : j = k
  ·rw [e1]; exact (hsat y hy).1
  ·by_cases e2 : j = othF b k
   ·rw [e2]; exact (hsat y hy).2 (fun e => e1 (by rw [e2, e]))
   ·rcases hc with hc | hc | hc
    ·exact absurd hc e1
    ·exact absurd hc e2
    rw [satY_th hj (hV.d0 y hy)] at hc ⊢
    have q1 : x'.at j = x.at j := by rw [xa, if_neg e1, if_neg e2]
    have q2 : x'.at (othF b j) = x.at (othF b j) := by
     rw [xa, if_neg (fun e => e2 (by rw [← e, oth_oth hj])), if_neg (fun e => e1 (by rw [← oth_oth hj, e, oth_oth hk]))]
    have q3 : T' j = T j := by
     show (if j = k then u.t0 else if j = othF b k then u.t1 else T j) = _
     rw [if_neg e1, if_neg e2]
    rw [q1, q2, q3]
    exact hc
theorem feas_glue {b : Book} (hV : Val9 b) {T : Nat → Int} {x : W4} (h : Feas b [] T x) {k : Nat} (hk : k < b.secs.length) {u : Tr1} (hu : u ∈ truths1 b k) : ∃ T' x', Feas b [] T' x' ∧ T' k = u.t0 ∧ x'.at k = u.w0 ∧ x'.at (othF b k) = u.w1 := by
 obtain ⟨h0, hs⟩ := feas_nil.1 h
 obtain ⟨T', x', h0', a1, a2, a3, hs'⟩ := glue hV h0 hk hu
 exact ⟨T', x', feas_nil.2 ⟨h0', fun y hy j hj => hs' y hy j hj (.inr (.inr (hs y hy j hj)))⟩, a1, a2, a3⟩
/-- Something can be just when each pair's can. -/
theorem can_pairs {b : Book} (hV : Val9 b) : truthsF b [] ≠ [] ↔ ∀ k < b.secs.length, truths1 b k ≠ [] := by
 rw [can_iff hV.base]
 constructor
 ·rintro ⟨T, x, h⟩ k hk hn
  have := pair_of_feas hV h hk
  rw [hn] at this
  simp at this
 ·intro h
  suffices ∀ m, m ≤ b.secs.length → ∃ T x, Feas0 b T x ∧ ∀ y ∈ b.svs, ∀ j < m, SatY b x j (T j) y by
   obtain ⟨T, x, h0, hs⟩ := this b.secs.length (Nat.le_refl _)
   exact ⟨T, x, feas_nil.2 ⟨h0, fun y hy j hj => hs y hy j hj⟩⟩
  intro m
  induction m with
  | zero => exact fun _ => ⟨_, _, feas9_by hV (f := fun s => s.w.lo) (g := fun s => s.t.lo) rfl (fun x hx => ⟨Int.le_refl _, (hV.sec x hx).w.2.1⟩) (fun x hx => ⟨Int.le_refl _, (hV.sec x hx).t.2.1⟩), fun _ _ _ h => absurd h (by omega)⟩
  | succ m ih =>
   intro hm
   obtain ⟨T, x, h0, hs⟩ := ih (by omega)
   obtain ⟨u, hu⟩ := List.exists_mem_of_ne_nil _ (h m (by omega))
   obtain ⟨T', x', h0', _, _, _, hs'⟩ := glue hV h0 (k := m) (by omega) hu
   refine ⟨T', x', h0', fun y hy j hj => hs' y hy j (by omega) ?_⟩
   by_cases e : j = m
   ·exact .inl e
   ·exact .inr (.inr (hs y hy j (by omega)))
/-- The hull of what truths say. -/
def told1 (g : Tr1 → Int) (ts : List Tr1) (z : Tr1) : Nat → Span
 | 0 => ⟨g (ts.getD 0 z), g (ts.getD 0 z)⟩
 | i + 1 => hullF (told1 g ts z i) ⟨g (ts.getD i z), g (ts.getD i z)⟩
theorem hull_lo {s u : Span} : (hullF s u).lo ≤ s.lo ∧ (hullF s u).lo ≤ u.lo ∧ s.hi ≤ (hullF s u).hi ∧ u.hi ≤ (hullF s u).hi ∧ ((hullF s u).lo = s.lo ∨ (hullF s u).lo = u.lo) ∧ ((hullF s u).hi = s.hi ∨ (hullF s u).hi = u.hi) := by
 unfold hullF mn mx
 refine ⟨?_, ?_, ?_, ?_, ?_, ?_⟩ <;> simp only <;> split <;> omega
theorem told1_spec (g : Tr1 → Int) {ts : List Tr1} (z : Tr1) (hn : 0 < ts.length) : ∀ i, i ≤ ts.length → (∃ u ∈ ts, (told1 g ts z i).lo = g u) ∧ (∃ u ∈ ts, (told1 g ts z i).hi = g u) ∧ ∀ j < i, (told1 g ts z i).lo ≤ g (ts.getD j z) ∧ g (ts.getD j z) ≤ (told1 g ts z i).hi
 | 0, _ => ⟨⟨_, getD_mem ts 0 z hn, rfl⟩, ⟨_, getD_mem ts 0 z hn, rfl⟩, fun _ h => absurd h (by omega)⟩
 | i + 1, hi => by
  obtain ⟨⟨u, hu, e1⟩, ⟨v, hv, e2⟩, h⟩ := told1_spec g z hn i (by omega)
  have hh := hull_lo (s := told1 g ts z i) (u := ⟨g (ts.getD i z), g (ts.getD i z)⟩)
  simp only at hh
  have hm := getD_mem ts i z (by omega)
  refine ⟨?_, ?_, fun j hj => ?_⟩
  ·rcases hh.2.2.2.2.1 with e | e
   ·exact ⟨u, hu, by rw [← e1, ← e]; rfl⟩
   ·exact ⟨_, hm, by rw [← e]; rfl⟩
  ·rcases hh.2.2.2.2.2 with e | e
   ·exact ⟨v, hv, by rw [← e2, ← e]; rfl⟩
   ·exact ⟨_, hm, by rw [← e]; rfl⟩
  ·show (hullF (told1 g ts z i) ⟨g (ts.getD i z), g (ts.getD i z)⟩).lo ≤ _ ∧ _ ≤ (hullF (told1 g ts z i) ⟨g (ts.getD i z), g (ts.getD i z)⟩).hi
   by_cases e : j = i
   ·rw [e]; omega
   ·have := h j (by omega); omega
def tr10 : Tr1 := ⟨0, 0, 0, 0⟩
def toldAll (g : Tr1 → Int) (ts : List Tr1) : Span := told1 g ts tr10 ts.length
theorem toldAll_spec (g : Tr1 → Int) {ts : List Tr1} (hn : ts ≠ []) : (∃ u ∈ ts, (toldAll g ts).lo = g u) ∧ (∃ u ∈ ts, (toldAll g ts).hi = g u) ∧ ∀ u ∈ ts, (toldAll g ts).lo ≤ g u ∧ g u ≤ (toldAll g ts).hi := by
 obtain ⟨h1, h2, h3⟩ := told1_spec g tr10 (List.length_pos_iff.2 hn) ts.length (Nat.le_refl _)
 refine ⟨h1, h2, fun u hu => ?_⟩
 obtain ⟨i, hi, e⟩ := List.getElem_of_mem hu
 have := h3 i hi
 rw [List.getD_eq_getElem?_getD, List.getElem?_eq_getElem hi] at this
 simp only [Option.getD_some, e] at this
 exact this
/-- How thick a section may be: the pair's word and the whole's are the same. -/
theorem thick_ref {b : Book} {tn : List Int} (hV : Val9 b) (hne : truthsF b [] ≠ []) {k : Nat} (hk : k < b.secs.length) (d : Nat) :
  toldAll (fun u => th1 tn u.t0 u.w0 u.w1 d) (truths1 b k) = thickF b (truthsF b []) tn k d := by
 obtain ⟨⟨u, hu, e1⟩, ⟨v, hv, e2⟩, h⟩ := toldAll_spec (fun u => th1 tn u.t0 u.w0 u.w1 d) ((can_pairs hV).1 hne k hk)
 obtain ⟨T1, x1, f1, q1⟩ := thick_lo hV.base hne tn k hk (d : Int)
 obtain ⟨T2, x2, f2, q2⟩ := thick_hi hV.base hne tn k hk (d : Int)
 obtain ⟨T3, x3, f3, a1, a2, a3⟩ := feas_glue hV f1 hk hu
 obtain ⟨T4, x4, f4, c1, c2, c3⟩ := feas_glue hV f1 hk hv
 have g3 := thick_in hV.base f3 tn k hk (d : Int)
 have g4 := thick_in hV.base f4 tn k hk (d : Int)
 rw [← th1_worn hk, a1, a2, a3] at g3
 rw [← th1_worn hk, c1, c2, c3] at g4
 have m1 := h _ (pair_of_feas hV f1 hk)
 have m2 := h _ (pair_of_feas hV f2 hk)
 simp only at m1 m2 e1 e2
 rw [th1_worn hk] at m1 m2
 exact span_ext (by omega) (by omega)
end Go.Di

