/- Part 24: an interpreter over plain data for this code, with the proof that it says what the model does, and the contracts of the functions. No condition. -/
import Derived.Test.YtfkmodcjddfeiaaDoorDi23
set_option linter.unusedVariables false
set_option linter.unusedSimpArgs false
namespace Go.Di

/-! ### A book with a turn more -/
def sel (p : Int → Bool) : Nat → List Int
  | 0 => []
  | i + 1 => if p ((i : Int) + 1) = true then sel p i ++ [(i : Int) + 1] else sel p i
theorem sel_mem (p : Int → Bool) : ∀ (n : Nat) (x : Int), x ∈ sel p n ↔ 1 ≤ x ∧ x ≤ n ∧ p x = true
  | 0, x => by simp only [sel, List.not_mem_nil, false_iff]; omega
  | n + 1, x => by
    have ih := sel_mem p n x
    simp only [sel]
    by_cases h : p ((n : Int) + 1) = true
    · rw [if_pos h, List.mem_append, ih, List.mem_singleton]
      constructor
      · rintro (⟨h1, h2, h3⟩ | rfl)
        · exact ⟨h1, by omega, h3⟩
        · exact ⟨by omega, by omega, h⟩
      · rintro ⟨h1, h2, h3⟩
        by_cases e : x = n + 1
        · exact .inr e
        · exact .inl ⟨h1, by omega, h3⟩
    · rw [if_neg h, ih]
      constructor
      · rintro ⟨h1, h2, h3⟩
        exact ⟨h1, by omega, h3⟩
      · rintro ⟨h1, h2, h3⟩
        refine ⟨h1, ?_, h3⟩
        by_cases e : x = n + 1
        · subst e; exact absurd h3 h
        · omega
theorem sel_up (p : Int → Bool) : ∀ n : Nat, Up ((n : Int) + 1) 1 (sel p n)
  | 0 => trivial
  | n + 1 => by
    have ih := sel_up p n
    simp only [sel]
    split
    · exact Up.snoc (Int.le_refl _) (by omega) (by omega) ih (by omega)
    · exact Up.mono (by omega) ih
theorem sel_len (p : Int → Bool) : ∀ n : Nat, (sel p n).length ≤ n
  | 0 => by simp [sel]
  | n + 1 => by
    have ih := sel_len p n
    simp only [sel]
    split
    · simp only [List.length_append, List.length_singleton]; omega
    · omega
theorem up_same {n : Int} : ∀ {l m : List Int} {a : Int}, Up n a l → Up n a m → (∀ x, x ∈ l ↔ x ∈ m) → l = m
  | [], [], _, _, _, _ => rfl
  | [], y :: m, _, _, _, h => by have := (h y).2 (by simp); cases this
  | x :: l, [], _, _, _, h => by have := (h x).1 (by simp); cases this
  | x :: l, y :: m, a, ⟨h1, h2, h3⟩, ⟨g1, g2, g3⟩, h => by
    have e : x = y := by
      have q1 := (h x).1 (by simp)
      have q2 := (h y).2 (by simp)
      rcases List.mem_cons.1 q1 with e | q1
      · exact e
      · rcases List.mem_cons.1 q2 with e | q2
        · exact e.symm
        · have := (g3.mem q1).1
          have := (h3.mem q2).1
          omega
    subst e
    congr 1
    refine up_same h3 g3 fun z => ?_
    have hz := h z
    simp only [List.mem_cons] at hz
    constructor
    · intro q
      have := (h3.mem q).1
      rcases hz.1 (.inr q) with e | e
      · omega
      · exact e
    · intro q
      have := (g3.mem q).1
      rcases hz.2 (.inr q) with e | e
      · omega
      · exact e
theorem up_count {n : Int} : ∀ {l : List Int} {a : Int} {m : List Int}, Up n a l → (∀ x ∈ l, x ∈ m) → l.length ≤ m.length
  | [], _, _, _, _ => by simp
  | x :: l, a, m, ⟨h1, h2, h3⟩, h => by
    have hx : x ∈ m := h x (by simp)
    have := up_count (m := m.erase x) h3 fun y hy => by
      have hy1 := (h3.mem hy).1
      exact (List.mem_erase_of_ne (by omega)).2 (h y (by simp [hy]))
    rw [List.length_erase_of_mem hx] at this
    have : 0 < m.length := List.length_pos_of_mem hx
    simp only [List.length_cons]
    omega
theorem rises_up {days : Int} : ∀ (l : List Int) (a : Int), (l.foldl (turnF days) (true, a)).1 = true ↔ Up (days + 1) (a + 1) l
  | [], a => by simp [Up]
  | t :: l, a => by
    have ih := rises_up (days := days) l t
    simp only [List.foldl_cons, turnF, Up]
    rw [turns_and, Bool.and_eq_true, ih, Bool.true_and, within_iff]
    constructor
    · rintro ⟨⟨h1, h2⟩, h3⟩; exact ⟨h1, by omega, h3⟩
    · rintro ⟨h1, h2, h3⟩; exact ⟨⟨h1, by omega⟩, h3⟩
def withP (b : Book) (day : Int) (d : Int) : Bool := (d == day) || decide (d ∈ b.turns)
def withF (b : Book) (day : Int) : Book := ⟨b.secs, sel (withP b day) b.days.toNat, b.svs, b.rule, b.days⟩
theorem Valid.up {b : Book} (hV : Valid b) : Up (b.days + 1) 1 b.turns := by
  have := hV.rises
  unfold risesF at this
  rw [rises_up] at this
  exact this
theorem with_valid {b : Book} (hV : Valid b) (h3 : b.turns.length ≤ 3) (day : Int) : Valid (withF b day) := by
  have hdd := hV.days
  have hu := sel_up (withP b day) b.days.toNat
  rw [show ((b.days.toNat : Nat) : Int) = b.days by omega] at hu
  refine ⟨hV.secs, hV.days, hV.rule, ?_, hV.svs, hV.sec, hV.thick, ?_, hV.sv⟩
  · have := up_count (m := day :: b.turns) hu fun x hx => by
      have := ((sel_mem _ _ _).1 hx).2.2
      unfold withP at this
      rw [Bool.or_eq_true, beq_iff_eq, decide_eq_true_eq] at this
      exact List.mem_cons.2 this
    simp only [List.length_cons] at this
    show (sel (withP b day) b.days.toNat).length ≤ 4
    omega
  · show ((sel (withP b day) b.days.toNat).foldl (turnF b.days) (true, 0)).1 = true
    rw [rises_up]
    exact hu
theorem flips_sel (p : Int → Bool) (d : Int) (k : Nat) : flips (sel p (k + 1)) d = Bool.xor (flips (sel p k) d) (p ((k : Int) + 1) && decide ((k : Int) + 1 ≤ d)) := by
  simp only [sel]
  by_cases h : p ((k : Int) + 1) = true
  · rw [if_pos h, flips_append, flips_one, h, Bool.true_and]
  · rw [if_neg h]
    have : p ((k : Int) + 1) = false := by simpa using h
    rw [this]; simp
theorem flips_with {b : Book} {day : Int} (hn : day ∉ b.turns) (d : Int) : ∀ k : Nat, flips (sel (withP b day) k) d = Bool.xor (flips (sel (fun e => decide (e ∈ b.turns)) k) d) (decide (1 ≤ day ∧ day ≤ k ∧ day ≤ d))
  | 0 => by
    rw [decide_eq_false (by omega)]
    simp [sel]
  | k + 1 => by
    rw [flips_sel, flips_sel, flips_with hn d k]
    by_cases e : (k : Int) + 1 = day
    · have p1 : withP b day ((k : Int) + 1) = true := by unfold withP; rw [e]; simp
      have p2 : decide ((k : Int) + 1 ∈ b.turns) = false := decide_eq_false (by rw [e]; exact hn)
      rw [p1, p2, decide_eq_false (p := 1 ≤ day ∧ day ≤ k ∧ day ≤ d) (by omega)]
      have : decide ((k : Int) + 1 ≤ d) = decide (1 ≤ day ∧ day ≤ ((k + 1 : Nat) : Int) ∧ day ≤ d) := by
        rw [decide_eq_decide]; omega
      rw [this]
      simp
    · have p1 : withP b day ((k : Int) + 1) = decide ((k : Int) + 1 ∈ b.turns) := by
        unfold withP
        rw [show ((k : Int) + 1 == day) = false by simpa using e]
        simp
      have : decide (1 ≤ day ∧ day ≤ (k : Int) ∧ day ≤ d) = decide (1 ≤ day ∧ day ≤ ((k + 1 : Nat) : Int) ∧ day ≤ d) := by
        rw [decide_eq_decide]; omega
      rw [p1, this]
      simp only [Bool.xor_assoc]
      congr 1
      exact Bool.xor_comm _ _
theorem sel_turns {b : Book} (hV : Valid b) : sel (fun e => decide (e ∈ b.turns)) b.days.toNat = b.turns := by
  have hdd := hV.days
  have hu := sel_up (fun e => decide (e ∈ b.turns)) b.days.toNat
  rw [show ((b.days.toNat : Nat) : Int) = b.days by omega] at hu
  refine up_same hu hV.up fun x => ?_
  rw [sel_mem, decide_eq_true_eq]
  constructor
  · exact fun h => h.2.2
  · intro h
    have := hV.up.mem h
    exact ⟨by omega, by omega, h⟩
/-- The chain lies alike, with a turn more in its place or at the end of the list. -/
theorem flips_more {b : Book} (hV : Valid b) {day : Int} (hd : 1 ≤ day ∧ day ≤ b.days) (hn : day ∉ b.turns) (d : Int) : flips (withF b day).turns d = flips (b.turns ++ [day]) d ∧ (d < day → flips (withF b day).turns d = flips b.turns d) := by
  have hdd := hV.days
  have e : flips (withF b day).turns d = Bool.xor (flips b.turns d) (decide (1 ≤ day ∧ day ≤ b.days ∧ day ≤ d)) := by
    have := flips_with hn d b.days.toNat
    rw [sel_turns hV, show ((b.days.toNat : Nat) : Int) = b.days by omega] at this
    exact this
  constructor
  · rw [e, flips_append, flips_one]
    congr 1
    rw [decide_eq_decide]
    omega
  · intro h
    rw [e, decide_eq_false (by omega)]
    simp
theorem with_sat {b : Book} (hV : Valid b) {day : Int} (hd : 1 ≤ day ∧ day ≤ b.days) (hn : day ∉ b.turns) (hs : ∀ y ∈ b.svs, y.d ≤ day) (x : W4) (k t : Int) (y : Sv) (hy : y ∈ b.svs) : SatY (withF b day) x k t y ↔ SatY b x k t y := by
  unfold SatY
  have := hs y hy
  have e : wornF b.secs.length x.a x.b x.c x.d (withF b day).turns k y.d.toNat = wornF b.secs.length x.a x.b x.c x.d b.turns k y.d.toNat :=
    worn_flips _ fun e he => (flips_more hV hd hn e).2 (by omega)
  show (y.s = k → y.r - y.e + wornF b.secs.length x.a x.b x.c x.d (withF b day).turns k y.d.toNat ≤ t ∧ t ≤ y.r + y.e + wornF b.secs.length x.a x.b x.c x.d (withF b day).turns k y.d.toNat) ↔ _
  rw [e]
theorem with_feas {b : Book} (hV : Valid b) {day : Int} (hd : 1 ≤ day ∧ day ≤ b.days) (hn : day ∉ b.turns) (hs : ∀ y ∈ b.svs, y.d ≤ day) {T : Nat → Int} {x : W4} : Feas (withF b day) [] T x ↔ Feas b [] T x := by
  rw [feas_nil, feas_nil]
  constructor
  · rintro ⟨h, h'⟩
    exact ⟨⟨h.wear, h.zero, h.thick⟩, fun y hy k hk => (with_sat hV hd hn hs x k (T k) y hy).1 (h' y hy k hk)⟩
  · rintro ⟨h, h'⟩
    exact ⟨⟨h.wear, h.zero, h.thick⟩, fun y hy k hk => (with_sat hV hd hn hs x k (T k) y hy).2 (h' y hy k hk)⟩
theorem with_base {b : Book} (hV : Valid b) (day : Int) : Base (withF b day) := ⟨hV.base.n4, hV.base.wlo, hV.base.svs0⟩
theorem with_can {b : Book} (hV : Valid b) {day : Int} (hd : 1 ≤ day ∧ day ≤ b.days) (hn : day ∉ b.turns) (hs : ∀ y ∈ b.svs, y.d ≤ day) : truthsF (withF b day) [] ≠ [] ↔ truthsF b [] ≠ [] := by
  rw [can_iff (with_base hV day), can_iff hV.base]
  simp only [with_feas hV hd hn hs]
theorem with_thick {b : Book} (hV : Valid b) {day : Int} (hd : 1 ≤ day ∧ day ≤ b.days) (hn : day ∉ b.turns) (hs : ∀ y ∈ b.svs, y.d ≤ day) (hne : truthsF b [] ≠ []) (k : Nat) (hk : k < b.secs.length) (d : Int) :
    thickF b (truthsF b []) (b.turns ++ [day]) k d = thickF (withF b day) (truthsF (withF b day) []) (withF b day).turns k d := by
  have e : ∀ x : W4, wornX b (b.turns ++ [day]) x k d = wornX (withF b day) (withF b day).turns x k d := fun x =>
    (worn_flips _ fun e he => (flips_more hV hd hn e).1).symm
  exact thick_same hV.base (with_base hV day) hk hk hne ((with_can hV hd hn hs).2 hne) (fun T x h => ⟨T, x, (with_feas hV hd hn hs).1 h, by rw [e]⟩) (fun T x h => ⟨T, x, (with_feas hV hd hn hs).2 h, by rw [e]⟩)
theorem with_thin {b : Book} (hV : Valid b) {day : Int} (hd : 1 ≤ day ∧ day ≤ b.days) (hn : day ∉ b.turns) (hs : ∀ y ∈ b.svs, y.d ≤ day) (hne : truthsF b [] ≠ []) (k : Nat) (hk : k < b.secs.length) :
    thinF (withF b day) (truthsF (withF b day) []) (withF b day).turns k = thinF b (truthsF b []) (b.turns ++ [day]) k := by
  have := findF_same (p := mayF (withF b day) (truthsF (withF b day) []) (withF b day).turns k) (q := mayF b (truthsF b []) (b.turns ++ [day]) k) (b.days + 1).toNat 0 fun i _ _ => by
    unfold mayF
    rw [with_thick hV hd hn hs hne k hk i]
    rfl
  show ((findF (mayF (withF b day) (truthsF (withF b day) []) (withF b day).turns k) (b.days + 1).toNat 0 : Nat) : Int) = ((findF (mayF b (truthsF b []) (b.turns ++ [day]) k) (b.days + 1).toNat 0 : Nat) : Int)
  omega
theorem with_soonest {b : Book} (hV : Valid b) {day : Int} (hd : 1 ≤ day ∧ day ≤ b.days) (hn : day ∉ b.turns) (hs : ∀ y ∈ b.svs, y.d ≤ day) (hne : truthsF b [] ≠ []) : ∀ n : Nat, n ≤ b.secs.length →
    soonestF (withF b day) (truthsF (withF b day) []) (withF b day).turns n = soonestF b (truthsF b []) (b.turns ++ [day]) n
  | 0, _ => rfl
  | n + 1, h => by
    simp only [soonestF]
    rw [with_soonest hV hd hn hs hne n (by omega), with_thin hV hd hn hs hne n (by omega)]
theorem soonest_le (b : Book) (ts : List TrC) (turns : List Int) : ∀ n, soonestF b ts turns n ≤ b.days + 1
  | 0 => Int.le_refl _
  | n + 1 => by
    have := soonest_le b ts turns n
    simp only [soonestF, mn]
    split <;> omega
theorem soonest_nonneg {b : Book} (hd : 0 ≤ b.days) (ts : List TrC) (turns : List Int) : ∀ n, 0 ≤ soonestF b ts turns n
  | 0 => by simp only [soonestF]; omega
  | n + 1 => by
    have := soonest_nonneg hd ts turns n
    have h2 : 0 ≤ thinF b ts turns n := by unfold thinF; omega
    simp only [soonestF, mn]
    split <;> omega

/-! ### The turn that is told -/
theorem from_le {b : Book} : ∀ y ∈ b.svs, y.d ≤ fromF b := by
  have : ∀ (l : List Sv) (a : Int), a ≤ l.foldl (fun n y => mx n y.d) a ∧ ∀ y ∈ l, y.d ≤ l.foldl (fun n y => mx n y.d) a := by
    intro l
    induction l with
    | nil => exact fun a => ⟨Int.le_refl _, fun y hy => by cases hy⟩
    | cons z l ih =>
      intro a
      obtain ⟨h1, h2⟩ := ih (mx a z.d)
      have := mx_ge (a := a) (b := z.d)
      simp only [List.foldl_cons]
      refine ⟨by omega, fun y hy => ?_⟩
      rcases List.mem_cons.1 hy with rfl | hy
      · omega
      · exact h2 y hy
  unfold fromF fromGo
  rw [List.take_length]
  exact (this b.svs 1).2
theorem turn_spec (b : Book) (ts : List TrC) (fr : Int) (h1 : 1 ≤ fr) : ∀ i : Nat,
    ((turnGo b ts fr i).1 = 0 ∧ (turnGo b ts fr i).2 = soonestF b ts b.turns b.secs.length ∧ ∀ d, fr ≤ d → d < fr + i → d ∉ b.turns → soonestF b ts (b.turns ++ [d]) b.secs.length ≤ (turnGo b ts fr i).2) ∨
    (fr ≤ (turnGo b ts fr i).1 ∧ (turnGo b ts fr i).1 < fr + i ∧ (turnGo b ts fr i).1 ∉ b.turns ∧ (turnGo b ts fr i).2 = soonestF b ts (b.turns ++ [(turnGo b ts fr i).1]) b.secs.length ∧ soonestF b ts b.turns b.secs.length < (turnGo b ts fr i).2 ∧
      ∀ d, fr ≤ d → d < fr + i → d ∉ b.turns → soonestF b ts (b.turns ++ [d]) b.secs.length ≤ (turnGo b ts fr i).2 ∧ (d < (turnGo b ts fr i).1 → soonestF b ts (b.turns ++ [d]) b.secs.length < (turnGo b ts fr i).2))
  | 0 => .inl ⟨rfl, rfl, fun d h1 h2 => by omega⟩
  | i + 1 => by
    have ih := turn_spec b ts fr h1 i
    simp only [turnGo]
    generalize turnGo b ts fr i = p at ih
    unfold turnStep
    by_cases hm : fr + (i : Int) ∈ b.turns
    · rw [if_pos hm]
      have hd : ∀ d, d < fr + ((i + 1 : Nat) : Int) → d ∉ b.turns → d < fr + (i : Int) := fun d h h' => by
        by_cases e : d = fr + (i : Int)
        · subst e; exact absurd hm h'
        · omega
      rcases ih with ⟨a1, a2, a3⟩ | ⟨a1, a2, a3, a4, a5, a6⟩
      · exact .inl ⟨a1, a2, fun d d1 d2 d3 => a3 d d1 (hd d d2 d3) d3⟩
      · exact .inr ⟨a1, by omega, a3, a4, a5, fun d d1 d2 d3 => a6 d d1 (hd d d2 d3) d3⟩
    · rw [if_neg hm]
      by_cases hg : soonestF b ts (b.turns ++ [fr + (i : Int)]) b.secs.length > p.2
      · rw [if_pos hg]
        refine .inr ⟨by show fr ≤ fr + (i : Int); omega, by show fr + (i : Int) < _; omega, hm, rfl, ?_, fun d d1 d2 d3 => ?_⟩
        · show soonestF b ts b.turns b.secs.length < soonestF b ts (b.turns ++ [fr + (i : Int)]) b.secs.length
          rcases ih with ⟨a1, a2, a3⟩ | ⟨a1, a2, a3, a4, a5, a6⟩ <;> omega
        · show soonestF b ts (b.turns ++ [d]) b.secs.length ≤ soonestF b ts (b.turns ++ [fr + (i : Int)]) b.secs.length ∧ (d < fr + (i : Int) → soonestF b ts (b.turns ++ [d]) b.secs.length < soonestF b ts (b.turns ++ [fr + (i : Int)]) b.secs.length)
          by_cases e : d = fr + (i : Int)
          · subst e
            exact ⟨Int.le_refl _, fun h => absurd h (by omega)⟩
          · have : soonestF b ts (b.turns ++ [d]) b.secs.length ≤ p.2 := by
              rcases ih with ⟨a1, a2, a3⟩ | ⟨a1, a2, a3, a4, a5, a6⟩
              · exact a3 d d1 (by omega) d3
              · exact (a6 d d1 (by omega) d3).1
            exact ⟨by omega, fun _ => by omega⟩
      · rw [if_neg hg]
        rcases ih with ⟨a1, a2, a3⟩ | ⟨a1, a2, a3, a4, a5, a6⟩
        · refine .inl ⟨a1, a2, fun d d1 d2 d3 => ?_⟩
          by_cases e : d = fr + (i : Int)
          · subst e; omega
          · exact a3 d d1 (by omega) d3
        · refine .inr ⟨a1, by omega, a3, a4, a5, fun d d1 d2 d3 => ?_⟩
          by_cases e : d = fr + (i : Int)
          · subst e; exact ⟨by omega, fun h => by omega⟩
          · exact a6 d d1 (by omega) d3
end Go.Di

namespace Go.Di

/-! ### What is true, as numbers choose it -/
def chooseF (bits : List Int) (n : Int) : Int := if bits.length = 0 then 0 else bits.getD (modF n bits.length).toNat 0
def withinSF (s : Span) (n : Int) : Int := s.lo + modF n (s.hi - s.lo + 1)
theorem withinSF_in {s : Span} {n : Int} (h : s.lo ≤ s.hi) : s.lo ≤ withinSF s n ∧ withinSF s n ≤ s.hi := by
  have := modF_in (n := n) (m := s.hi - s.lo + 1) (by omega)
  unfold withinSF
  omega
def trT (b : Book) (bits : List Int) (k : Nat) : Int := withinSF (b.secs.getD k sec0).t (chooseF bits (2 * k))
def trW (b : Book) (bits : List Int) (k : Nat) : Int := withinSF (b.secs.getD k sec0).w (chooseF bits (2 * k + 1))
def trX (b : Book) (bits : List Int) : W4 := ⟨if 0 < b.secs.length then trW b bits 0 else 0, if 1 < b.secs.length then trW b bits 1 else 0, if 2 < b.secs.length then trW b bits 2 else 0, if 3 < b.secs.length then trW b bits 3 else 0⟩
theorem trX_at {b : Book} (h4 : b.secs.length ≤ 4) (bits : List Int) (p : Nat) : (trX b bits).at p = if p < b.secs.length then trW b bits p else 0 := by
  match p with
  | 0 => rfl
  | 1 => rfl
  | 2 => rfl
  | 3 => rfl
  | p + 4 =>
    rw [if_neg (by omega)]
    show ([_, _, _, _] : List Int).getD (p + 4) 0 = 0
    simp
theorem tr_feas0 {b : Book} (hV : Valid b) (bits : List Int) : Feas0 b (trT b bits) (trX b bits) := by
  have h4 := hV.secs.2
  refine ⟨fun p hp => ?_, fun p hp => ?_, fun k hk => ?_⟩
  · rw [trX_at h4, if_pos hp]
    exact withinSF_in (hV.sec _ (getD_mem b.secs p sec0 hp)).w.2.1
  · rw [trX_at h4, if_neg (by omega)]
  · exact withinSF_in (hV.sec _ (getD_mem b.secs k sec0 hk)).t.2.1

/-! ### How thick sections are, day by day -/
def rowF (b : Book) (T : Nat → Int) (x : W4) (d : Nat) : List Int := (List.range b.secs.length).map fun k => T k - wornX b b.turns x k d
theorem rowF_len (b : Book) (T : Nat → Int) (x : W4) (d : Nat) : (rowF b T x d).length = b.secs.length := by simp [rowF]
theorem range_getD {f : Nat → Int} {n k : Nat} (hk : k < n) : ((List.range n).map f).getD k 0 = f k := by
  rw [List.getD_eq_getElem?_getD, List.getElem?_map, List.getElem?_range hk]
  rfl
theorem rowF_get {b : Book} {T : Nat → Int} {x : W4} {d k : Nat} (hk : k < b.secs.length) : (rowF b T x d).getD k 0 = T k - wornX b b.turns x k d := range_getD hk
def idL (n : Nat) : List Int := (List.range n).map fun k : Nat => (k : Int)
def revL (n : Nat) : List Int := (List.range n).map fun k : Nat => ((n - 1 - k : Nat) : Int)
def liesL (b : Book) (f : Bool) : List Int := if f = true then revL b.secs.length else idL b.secs.length
theorem liesL_len (b : Book) (f : Bool) : (liesL b f).length = b.secs.length := by
  unfold liesL
  split <;> simp [revL, idL]
def piF (n : Nat) (f : Bool) (k : Nat) : Nat := if f = true then n - 1 - k else k
theorem piF_pi {n : Nat} {f : Bool} {k : Nat} (hk : k < n) : piF n f (piF n f k) = k ∧ piF n f k < n := by
  unfold piF
  split <;> omega
theorem liesL_get {b : Book} {f : Bool} {k : Nat} (hk : k < b.secs.length) : (liesL b f).getD k 0 = (piF b.secs.length f k : Nat) := by
  unfold liesL piF
  split
  · exact range_getD (f := fun k : Nat => ((b.secs.length - 1 - k : Nat) : Int)) hk
  · exact range_getD (f := fun k : Nat => (k : Int)) hk
theorem liesL_rev (b : Book) (f : Bool) : (liesL b f).reverse = liesL b (!f) := by
  refine ext_getD (by simp [liesL_len]) fun i hi => ?_
  rw [List.length_reverse, liesL_len] at hi
  rw [List.getD_eq_getElem?_getD, List.getElem?_reverse (by rw [liesL_len]; exact hi), ← List.getD_eq_getElem?_getD, liesL_len, liesL_get (by omega), liesL_get hi]
  unfold piF
  cases f <;> simp <;> omega
/-- One place after the other wears its section. -/
def wearIn (zs ls ws : List Int) : Nat → List Int
  | 0 => zs
  | p + 1 => (wearIn zs ls ws p).set ((ls.getD p 0).toNat * 1) ((wearIn zs ls ws p).getD ((ls.getD p 0).toNat * 1) 0 - ws.getD p 0)
theorem wearIn_len (zs ls ws : List Int) : ∀ p, (wearIn zs ls ws p).length = zs.length
  | 0 => rfl
  | p + 1 => by simp [wearIn, wearIn_len zs ls ws p]
theorem getD_set {l : List Int} {i k : Nat} {v : Int} (hk : k < l.length) : (l.set i v).getD k 0 = if i = k then v else l.getD k 0 := by
  rw [List.getD_eq_getElem?_getD, List.getD_eq_getElem?_getD, List.getElem?_set]
  by_cases e : i = k
  · rw [if_pos e, if_pos e, if_pos (by omega)]
    rfl
  · rw [if_neg e, if_neg e]
theorem wearIn_get {b : Book} {f : Bool} {zs ws : List Int} (hz : zs.length = b.secs.length) : ∀ p : Nat, p ≤ b.secs.length → ∀ k : Nat, k < b.secs.length →
    (wearIn zs (liesL b f) ws p).getD k 0 = zs.getD k 0 - if piF b.secs.length f k < p then ws.getD (piF b.secs.length f k) 0 else 0
  | 0, _, k, hk => by simp [wearIn]
  | p + 1, hp, k, hk => by
    have ih := wearIn_get (f := f) (ws := ws) hz p (by omega)
    simp only [wearIn]
    rw [liesL_get (by omega), Int.toNat_natCast, Nat.mul_one, getD_set (by rw [wearIn_len, hz]; exact hk)]
    have hpp := piF_pi (f := f) (n := b.secs.length) (k := p) (by omega)
    have hkk := piF_pi (f := f) (n := b.secs.length) (k := k) hk
    by_cases e : piF b.secs.length f p = k
    · rw [if_pos e, ih _ hpp.2, hpp.1, if_neg (by omega), e]
      have : piF b.secs.length f k = p := by rw [← e]; exact hpp.1
      rw [this, if_pos (by omega)]
      omega
    · rw [if_neg e, ih k hk]
      have : piF b.secs.length f k ≠ p := fun e' => e (by rw [← e']; exact hkk.1)
      by_cases h : piF b.secs.length f k < p
      · rw [if_pos h, if_pos (by omega)]
      · rw [if_neg h, if_neg (by omega)]
theorem row_next {b : Book} (hV : Valid b) (T : Nat → Int) (x : W4) (ws : List Int) (hw : ∀ p, p < b.secs.length → ws.getD p 0 = x.at p) (d : Nat) :
    wearIn (rowF b T x d) (liesL b (flips b.turns d)) ws b.secs.length = rowF b T x (d + 1) := by
  refine ext_getD (by rw [wearIn_len, rowF_len, rowF_len]) fun k hk => ?_
  rw [wearIn_len, rowF_len] at hk
  have hpp := piF_pi (f := flips b.turns d) (n := b.secs.length) (k := k) hk
  rw [wearIn_get (rowF_len b T x d) _ (Nat.le_refl _) k hk, rowF_get hk, rowF_get hk, if_pos hpp.2, hw _ hpp.2]
  have hplace : placeF b.secs.length b.turns d k = (piF b.secs.length (flips b.turns d) k : Nat) := by
    rw [place_fold]
    unfold piF
    split <;> omega
  unfold wornX
  rw [Int.toNat_natCast, Int.toNat_natCast]
  have e : wornF b.secs.length x.a x.b x.c x.d b.turns k (d + 1) = wornF b.secs.length x.a x.b x.c x.d b.turns k d + x.at (piF b.secs.length (flips b.turns d) k) := by
    simp only [wornF]
    rw [hplace]
    congr 1
  rw [e]
  omega
theorem flips_step {n : Int} {d : Int} : ∀ {l : List Int} {a : Int}, Up n a l → flips l d = Bool.xor (flips l (d - 1)) (decide (d ∈ l))
  | [], _, _ => by simp [flips]
  | t :: l, a, ⟨h1, h2, h3⟩ => by
    have ih := flips_step (d := d) h3
    have e1 : ∀ d, flips (t :: l) d = Bool.xor (decide (t ≤ d)) (flips l d) := fun d => by
      have := flips_append [t] l d
      rwa [flips_one] at this
    rw [e1, e1, ih]
    by_cases e : t = d
    · have hn : decide (d ∈ l) = false := decide_eq_false fun hm => by have := (h3.mem hm).1; omega
      rw [hn, decide_eq_true (show t ≤ d by omega), decide_eq_false (show ¬ t ≤ d - 1 by omega), decide_eq_true (show d ∈ t :: l by rw [e]; simp)]
      cases flips l (d - 1) <;> rfl
    · have h4 : decide (t ≤ d) = decide (t ≤ d - 1) := by rw [decide_eq_decide]; omega
      have h5 : decide (d ∈ t :: l) = decide (d ∈ l) := by
        rw [decide_eq_decide]
        simp only [List.mem_cons]
        exact ⟨fun h => h.resolve_left fun h => e h.symm, .inr⟩
      rw [h4, h5, Bool.xor_assoc]
/-- How sections lie at the head of a day. -/
def liesP (b : Book) : Nat → Bool
  | 0 => false
  | d + 1 => flips b.turns d
theorem lies_next {b : Book} (hV : Valid b) (d : Nat) : flips b.turns d = Bool.xor (liesP b d) (decide ((d : Int) ∈ b.turns)) := by
  have h := flips_step (d := d) hV.up
  rw [h]
  congr 1
  cases d with
  | zero =>
    simp only [liesP]
    have : ∀ l : List Int, (∀ t ∈ l, 1 ≤ t) → flips l (((0 : Nat) : Int) - 1) = false := by
      intro l
      induction l with
      | nil => exact fun _ => rfl
      | cons t l ih =>
        intro h
        have e := flips_append [t] l (((0 : Nat) : Int) - 1)
        rw [flips_one] at e
        rw [show t :: l = [t] ++ l from rfl, e, ih fun u hu => h u (by simp [hu]), decide_eq_false (by have := h t (by simp); omega)]
        rfl
    exact this b.turns fun t ht => (hV.up.mem ht).1
  | succ d =>
    simp only [liesP]
    congr 1
    omega

/-! ### A book whose surveys are right -/
def readF (now z e : Int) : Int := mn 200 (mx 0 (now + modF z (2 * e + 1) - e))
theorem read_near {now z e : Int} (hn : 0 ≤ now ∧ now ≤ 200) (he : 0 ≤ e) : (readF now z e - e ≤ now ∧ now ≤ readF now z e + e) ∧ 0 ≤ readF now z e ∧ readF now z e ≤ 200 := by
  have := modF_in (n := z) (m := 2 * e + 1) (by omega)
  unfold readF mn mx
  split <;> split <;> omega
def rgY (ds : List (List Int)) (n : Int) (i : Nat) (y : Sv) : Sv := ⟨y.s, y.d, readF ((ds.getD y.d.toNat []).getD y.s.toNat 0) (IntKind.i64.wrap (n + i)) y.e, y.e⟩
def rgTo (b : Book) (ds : List (List Int)) (n : Int) : Nat → List Sv
  | 0 => []
  | i + 1 => rgTo b ds n i ++ [rgY ds n i (svZ b i)]
theorem rgTo_len (b : Book) (ds : List (List Int)) (n : Int) : ∀ i, (rgTo b ds n i).length = i
  | 0 => rfl
  | i + 1 => by simp [rgTo, rgTo_len b ds n i]
theorem rgTo_all {P : Sv → Prop} (b : Book) (ds : List (List Int)) (n : Int) : ∀ m, (∀ y ∈ rgTo b ds n m, P y) ↔ ∀ i < m, P (rgY ds n i (svZ b i))
  | 0 => by simp [rgTo]
  | m + 1 => by
    have ih := rgTo_all (P := P) b ds n m
    simp only [rgTo, List.mem_append, List.mem_singleton]
    constructor
    · intro h i hi
      by_cases e : i = m
      · subst e; exact h _ (.inr rfl)
      · exact ih.1 (fun y hy => h y (.inl hy)) i (by omega)
    · rintro h y (hy | rfl)
      · exact ih.2 (fun i hi => h i (by omega)) y hy
      · exact h m (by omega)
def rightlyF (b : Book) (ds : List (List Int)) (n : Int) : Book := ⟨b.secs, b.turns, rgTo b ds n b.svs.length, b.rule, b.days⟩
def daysF (b : Book) (T : Nat → Int) (x : W4) : List (List Int) := (List.range (b.days.toNat + 1)).map (rowF b T x)
theorem daysF_get {b : Book} {T : Nat → Int} {x : W4} {d : Nat} (hd : d ≤ b.days.toNat) : (daysF b T x).getD d [] = rowF b T x d := by
  unfold daysF
  rw [List.getD_eq_getElem?_getD, List.getElem?_map, List.getElem?_range (by omega)]
  rfl
theorem days_now {b : Book} {T : Nat → Int} {x : W4} {d : Int} {k : Nat} (hd : 0 ≤ d ∧ d ≤ b.days) (hk : k < b.secs.length) : ((daysF b T x).getD d.toNat []).getD k 0 = T k - wornX b b.turns x k d := by
  rw [daysF_get (by omega), rowF_get hk, show ((d.toNat : Nat) : Int) = d by omega]
theorem now_200 {b : Book} (hV : Valid b) {T : Nat → Int} {x : W4} (h : Feas0 b T x) {k : Nat} (hk : k < b.secs.length) {d : Int} (hd : 0 ≤ d ∧ d ≤ b.days) : 0 ≤ T k - wornX b b.turns x k d ∧ T k - wornX b b.turns x k d ≤ 200 := by
  have hb : ∀ d : Nat, 0 ≤ wornF b.secs.length x.a x.b x.c x.d b.turns k d ∧ wornF b.secs.length x.a x.b x.c x.d b.turns k d ≤ mostF b.secs * d := fun d => by
    induction d with
    | zero => simp [wornF]
    | succ d ih =>
      have hin := placeF_in (n := b.secs.length) (turns := b.turns) (day := d) (s := (k : Int)) (by omega)
      have hp : (placeF b.secs.length b.turns d k).toNat < b.secs.length := by omega
      have hw := h.wear _ hp
      have hm := (most_le (l := b.secs) 0).2 _ (getD_mem b.secs _ sec0 hp)
      have h0 := hV.wlo (placeF b.secs.length b.turns d k).toNat
      have e : wF x.a x.b x.c x.d (placeF b.secs.length b.turns d k) = x.at (placeF b.secs.length b.turns d k).toNat := rfl
      have e2 : mostF b.secs * ((d + 1 : Nat) : Int) = mostF b.secs * d + mostF b.secs := by
        rw [show ((d + 1 : Nat) : Int) = (d : Int) + 1 by omega, Int.mul_add, Int.mul_one]
      simp only [wornF]
      rw [e, e2]
      unfold mostF at ih ⊢
      omega
  obtain ⟨h1, h2⟩ := hb d.toNat
  have ht := h.thick k hk
  have hs := hV.sec _ (getD_mem b.secs k sec0 hk)
  have hlo := hV.thick _ (getD_mem b.secs k sec0 hk)
  have hm : mostF b.secs * (d.toNat : Int) ≤ mostF b.secs * b.days := Int.mul_le_mul_of_nonneg_left (by omega) ((most_le (l := b.secs) 0).1)
  have := hs.t
  unfold wornX
  omega
theorem rightly_valid {b : Book} (hV : Valid b) {T : Nat → Int} {x : W4} (h : Feas0 b T x) (n : Int) : Valid (rightlyF b (daysF b T x) n) := by
  refine ⟨hV.secs, hV.days, hV.rule, hV.turns, by show (rgTo b _ n b.svs.length).length ≤ 8; rw [rgTo_len]; exact hV.svs, hV.sec, hV.thick, hV.rises, (rgTo_all b _ n b.svs.length).2 fun i hi => ?_⟩
  obtain ⟨h1, h2, h3, h4⟩ := survey_iff.1 (hV.sv _ (svZ_mem hi))
  refine survey_iff.2 ⟨h1, h2, ?_, h4⟩
  have hnow := days_now (b := b) (T := T) (x := x) (d := (svZ b i).d) (k := (svZ b i).s.toNat) h2 (by omega)
  have h200 := now_200 hV h (k := (svZ b i).s.toNat) (d := (svZ b i).d) (by omega) h2
  show 0 ≤ readF _ _ _ ∧ readF _ _ _ ≤ 200
  rw [hnow]
  exact (read_near h200 h4.1).2
theorem rightly_feas {b : Book} (hV : Valid b) {T : Nat → Int} {x : W4} (h : Feas0 b T x) (n : Int) : Feas (rightlyF b (daysF b T x) n) [] T x := by
  rw [feas_nil]
  refine ⟨⟨h.wear, h.zero, h.thick⟩, (rgTo_all (P := fun y => ∀ k : Nat, k < b.secs.length → SatY (rightlyF b (daysF b T x) n) x k (T k) y) b _ n b.svs.length).2 fun i hi k hk => ?_⟩
  obtain ⟨h1, h2, h3, h4⟩ := survey_iff.1 (hV.sv _ (svZ_mem hi))
  intro hs
  have hs : (svZ b i).s = k := hs
  have hnow := days_now (b := b) (T := T) (x := x) (d := (svZ b i).d) (k := k) h2 hk
  have h200 := now_200 hV h hk h2
  have hr := (read_near (z := IntKind.i64.wrap (n + i)) h200 h4.1).1
  show readF (((daysF b T x).getD (svZ b i).d.toNat []).getD (svZ b i).s.toNat 0) _ (svZ b i).e - (svZ b i).e + wornF b.secs.length x.a x.b x.c x.d b.turns k (svZ b i).d.toNat ≤ T k ∧ T k ≤ readF (((daysF b T x).getD (svZ b i).d.toNat []).getD (svZ b i).s.toNat 0) _ (svZ b i).e + (svZ b i).e + wornF b.secs.length x.a x.b x.c x.d b.turns k (svZ b i).d.toNat
  rw [hs, Int.toNat_natCast, hnow]
  unfold wornX at hr ⊢
  omega
end Go.Di

