/- Part 23: an interpreter over plain data for this code, with the proof that it says what the model does, and the contracts of the functions. No condition. -/
import Derived.Test.YtfkmodcjddfeiaaDoorDi22
set_option linter.unusedVariables false
set_option linter.unusedSimpArgs false
namespace Go.Di

/-! ### A book with a turn more -/
def sel (p : Int → Bool) : Nat → List Int
  | 0 => []
  | i + 1 => if p ((i : Int) + 1) = true then sel p i ++ [(i : Int) + 1] else sel p i
theorem sel_mem (p : Int → Bool) : ∀ (n : Nat) (x : Int), x ∈ sel p n ↔ 1 ≤ x ∧ x ≤ n ∧ p x = true
  | 0, x => by simp only [sel, List.not_mem_nil, false_iff]; omega
  | n + 1, x => by
    have ih := sel_mem p n x
    simp only [sel]
    by_cases h : p ((n : Int) + 1) = true
    · rw [if_pos h, List.mem_append, ih, List.mem_singleton]
      constructor
      · rintro (⟨h1, h2, h3⟩ | rfl)
        · exact ⟨h1, by omega, h3⟩
        · exact ⟨by omega, by omega, h⟩
      · rintro ⟨h1, h2, h3⟩
        by_cases e : x = n + 1
        · exact .inr e
        · exact .inl ⟨h1, by omega, h3⟩
    · rw [if_neg h, ih]
      constructor
      · rintro ⟨h1, h2, h3⟩
        exact ⟨h1, by omega, h3⟩
      · rintro ⟨h1, h2, h3⟩
        refine ⟨h1, ?_, h3⟩
        by_cases e : x = n + 1
        · subst e; exact absurd h3 h
        · omega
theorem sel_up (p : Int → Bool) : ∀ n : Nat, Up ((n : Int) + 1) 1 (sel p n)
  | 0 => trivial
  | n + 1 => by
    have ih := sel_up p n
    simp only [sel]
    split
    · exact Up.snoc (Int.le_refl _) (by omega) (by omega) ih (by omega)
    · exact Up.mono (by omega) ih
theorem sel_len (p : Int → Bool) : ∀ n : Nat, (sel p n).length ≤ n
  | 0 => by simp [sel]
  | n + 1 => by
    have ih := sel_len p n
    simp only [sel]
    split
    · simp only [List.length_append, List.length_singleton]; omega
    · omega
theorem up_same {n : Int} : ∀ {l m : List Int} {a : Int}, Up n a l → Up n a m → (∀ x, x ∈ l ↔ x ∈ m) → l = m
  | [], [], _, _, _, _ => rfl
  | [], y :: m, _, _, _, h => by have := (h y).2 (by simp); cases this
  | x :: l, [], _, _, _, h => by have := (h x).1 (by simp); cases this
  | x :: l, y :: m, a, ⟨h1, h2, h3⟩, ⟨g1, g2, g3⟩, h => by
    have e : x = y := by
      have q1 := (h x).1 (by simp)
      have q2 := (h y).2 (by simp)
      rcases List.mem_cons.1 q1 with e | q1
      · exact e
      · rcases List.mem_cons.1 q2 with e | q2
        · exact e.symm
        · have := (g3.mem q1).1
          have := (h3.mem q2).1
          omega
    subst e
    congr 1
    refine up_same h3 g3 fun z => ?_
    have hz := h z
    simp only [List.mem_cons] at hz
    constructor
    · intro q
      have := (h3.mem q).1
      rcases hz.1 (.inr q) with e | e
      · omega
      · exact e
    · intro q
      have := (g3.mem q).1
      rcases hz.2 (.inr q) with e | e
      · omega
      · exact e
theorem up_count {n : Int} : ∀ {l : List Int} {a : Int} {m : List Int}, Up n a l → (∀ x ∈ l, x ∈ m) → l.length ≤ m.length
  | [], _, _, _, _ => by simp
  | x :: l, a, m, ⟨h1, h2, h3⟩, h => by
    have hx : x ∈ m := h x (by simp)
    have := up_count (m := m.erase x) h3 fun y hy => by
      have hy1 := (h3.mem hy).1
      exact (List.mem_erase_of_ne (by omega)).2 (h y (by simp [hy]))
    rw [List.length_erase_of_mem hx] at this
    have : 0 < m.length := List.length_pos_of_mem hx
    simp only [List.length_cons]
    omega
theorem rises_up {days : Int} : ∀ (l : List Int) (a : Int), (l.foldl (turnF days) (true, a)).1 = true ↔ Up (days + 1) (a + 1) l
  | [], a => by simp [Up]
  | t :: l, a => by
    have ih := rises_up (days := days) l t
    simp only [List.foldl_cons, turnF, Up]
    rw [turns_and, Bool.and_eq_true, ih, Bool.true_and, within_iff]
    constructor
    · rintro ⟨⟨h1, h2⟩, h3⟩; exact ⟨h1, by omega, h3⟩
    · rintro ⟨h1, h2, h3⟩; exact ⟨⟨h1, by omega⟩, h3⟩
def withP (b : Book) (day : Int) (d : Int) : Bool := (d == day) || decide (d ∈ b.turns)
def withF (b : Book) (day : Int) : Book := ⟨b.secs, sel (withP b day) b.days.toNat, b.svs, b.rule, b.days⟩
theorem Valid.up {b : Book} (hV : Valid b) : Up (b.days + 1) 1 b.turns := by
  have := hV.rises
  unfold risesF at this
  rw [rises_up] at this
  exact this
theorem with_valid {b : Book} (hV : Valid b) (h3 : b.turns.length ≤ 3) (day : Int) : Valid (withF b day) := by
  have hdd := hV.days
  have hu := sel_up (withP b day) b.days.toNat
  rw [show ((b.days.toNat : Nat) : Int) = b.days by omega] at hu
  refine ⟨hV.secs, hV.days, hV.rule, ?_, hV.svs, hV.sec, hV.thick, ?_, hV.sv⟩
  · have := up_count (m := day :: b.turns) hu fun x hx => by
      have := ((sel_mem _ _ _).1 hx).2.2
      unfold withP at this
      rw [Bool.or_eq_true, beq_iff_eq, decide_eq_true_eq] at this
      exact List.mem_cons.2 this
    simp only [List.length_cons] at this
    show (sel (withP b day) b.days.toNat).length ≤ 4
    omega
  · show ((sel (withP b day) b.days.toNat).foldl (turnF b.days) (true, 0)).1 = true
    rw [rises_up]
    exact hu
theorem flips_sel (p : Int → Bool) (d : Int) (k : Nat) : flips (sel p (k + 1)) d = Bool.xor (flips (sel p k) d) (p ((k : Int) + 1) && decide ((k : Int) + 1 ≤ d)) := by
  simp only [sel]
  by_cases h : p ((k : Int) + 1) = true
  · rw [if_pos h, flips_append, flips_one, h, Bool.true_and]
  · rw [if_neg h]
    have : p ((k : Int) + 1) = false := by simpa using h
    rw [this]; simp
theorem flips_with {b : Book} {day : Int} (hn : day ∉ b.turns) (d : Int) : ∀ k : Nat, flips (sel (withP b day) k) d = Bool.xor (flips (sel (fun e => decide (e ∈ b.turns)) k) d) (decide (1 ≤ day ∧ day ≤ k ∧ day ≤ d))
  | 0 => by
    rw [decide_eq_false (by omega)]
    simp [sel]
  | k + 1 => by
    rw [flips_sel, flips_sel, flips_with hn d k]
    by_cases e : (k : Int) + 1 = day
    · have p1 : withP b day ((k : Int) + 1) = true := by unfold withP; rw [e]; simp
      have p2 : decide ((k : Int) + 1 ∈ b.turns) = false := decide_eq_false (by rw [e]; exact hn)
      rw [p1, p2, decide_eq_false (p := 1 ≤ day ∧ day ≤ k ∧ day ≤ d) (by omega)]
      have : decide ((k : Int) + 1 ≤ d) = decide (1 ≤ day ∧ day ≤ ((k + 1 : Nat) : Int) ∧ day ≤ d) := by
        rw [decide_eq_decide]; omega
      rw [this]
      simp
    · have p1 : withP b day ((k : Int) + 1) = decide ((k : Int) + 1 ∈ b.turns) := by
        unfold withP
        rw [show ((k : Int) + 1 == day) = false by simpa using e]
        simp
      have : decide (1 ≤ day ∧ day ≤ (k : Int) ∧ day ≤ d) = decide (1 ≤ day ∧ day ≤ ((k + 1 : Nat) : Int) ∧ day ≤ d) := by
        rw [decide_eq_decide]; omega
      rw [p1, this]
      simp only [Bool.xor_assoc]
      congr 1
      exact Bool.xor_comm _ _
theorem sel_turns {b : Book} (hV : Valid b) : sel (fun e => decide (e ∈ b.turns)) b.days.toNat = b.turns := by
  have hdd := hV.days
  have hu := sel_up (fun e => decide (e ∈ b.turns)) b.days.toNat
  rw [show ((b.days.toNat : Nat) : Int) = b.days by omega] at hu
  refine up_same hu hV.up fun x => ?_
  rw [sel_mem, decide_eq_true_eq]
  constructor
  · exact fun h => h.2.2
  · intro h
    have := hV.up.mem h
    exact ⟨by omega, by omega, h⟩
/-- The chain lies alike, with a turn more in its place or at the end of the list. -/
theorem flips_more {b : Book} (hV : Valid b) {day : Int} (hd : 1 ≤ day ∧ day ≤ b.days) (hn : day ∉ b.turns) (d : Int) : flips (withF b day).turns d = flips (b.turns ++ [day]) d ∧ (d < day → flips (withF b day).turns d = flips b.turns d) := by
  have hdd := hV.days
  have e : flips (withF b day).turns d = Bool.xor (flips b.turns d) (decide (1 ≤ day ∧ day ≤ b.days ∧ day ≤ d)) := by
    have := flips_with hn d b.days.toNat
    rw [sel_turns hV, show ((b.days.toNat : Nat) : Int) = b.days by omega] at this
    exact this
  constructor
  · rw [e, flips_append, flips_one]
    congr 1
    rw [decide_eq_decide]
    omega
  · intro h
    rw [e, decide_eq_false (by omega)]
    simp
theorem with_sat {b : Book} (hV : Valid b) {day : Int} (hd : 1 ≤ day ∧ day ≤ b.days) (hn : day ∉ b.turns) (hs : ∀ y ∈ b.svs, y.d ≤ day) (x : W4) (k t : Int) (y : Sv) (hy : y ∈ b.svs) : SatY (withF b day) x k t y ↔ SatY b x k t y := by
  unfold SatY
  have := hs y hy
  have e : wornF b.secs.length x.a x.b x.c x.d (withF b day).turns k y.d.toNat = wornF b.secs.length x.a x.b x.c x.d b.turns k y.d.toNat :=
    worn_flips _ fun e he => (flips_more hV hd hn e).2 (by omega)
  show (y.s = k → y.r - y.e + wornF b.secs.length x.a x.b x.c x.d (withF b day).turns k y.d.toNat ≤ t ∧ t ≤ y.r + y.e + wornF b.secs.length x.a x.b x.c x.d (withF b day).turns k y.d.toNat) ↔ _
  rw [e]
theorem with_feas {b : Book} (hV : Valid b) {day : Int} (hd : 1 ≤ day ∧ day ≤ b.days) (hn : day ∉ b.turns) (hs : ∀ y ∈ b.svs, y.d ≤ day) {T : Nat → Int} {x : W4} : Feas (withF b day) [] T x ↔ Feas b [] T x := by
  rw [feas_nil, feas_nil]
  constructor
  · rintro ⟨h, h'⟩
    exact ⟨⟨h.wear, h.zero, h.thick⟩, fun y hy k hk => (with_sat hV hd hn hs x k (T k) y hy).1 (h' y hy k hk)⟩
  · rintro ⟨h, h'⟩
    exact ⟨⟨h.wear, h.zero, h.thick⟩, fun y hy k hk => (with_sat hV hd hn hs x k (T k) y hy).2 (h' y hy k hk)⟩
theorem with_base {b : Book} (hV : Valid b) (day : Int) : Base (withF b day) := ⟨hV.base.n4, hV.base.wlo, hV.base.svs0⟩
theorem with_can {b : Book} (hV : Valid b) {day : Int} (hd : 1 ≤ day ∧ day ≤ b.days) (hn : day ∉ b.turns) (hs : ∀ y ∈ b.svs, y.d ≤ day) : truthsF (withF b day) [] ≠ [] ↔ truthsF b [] ≠ [] := by
  rw [can_iff (with_base hV day), can_iff hV.base]
  simp only [with_feas hV hd hn hs]
theorem with_thick {b : Book} (hV : Valid b) {day : Int} (hd : 1 ≤ day ∧ day ≤ b.days) (hn : day ∉ b.turns) (hs : ∀ y ∈ b.svs, y.d ≤ day) (hne : truthsF b [] ≠ []) (k : Nat) (hk : k < b.secs.length) (d : Int) :
    thickF b (truthsF b []) (b.turns ++ [day]) k d = thickF (withF b day) (truthsF (withF b day) []) (withF b day).turns k d := by
  have e : ∀ x : W4, wornX b (b.turns ++ [day]) x k d = wornX (withF b day) (withF b day).turns x k d := fun x =>
    (worn_flips _ fun e he => (flips_more hV hd hn e).1).symm
  exact thick_same hV.base (with_base hV day) hk hk hne ((with_can hV hd hn hs).2 hne) (fun T x h => ⟨T, x, (with_feas hV hd hn hs).1 h, by rw [e]⟩) (fun T x h => ⟨T, x, (with_feas hV hd hn hs).2 h, by rw [e]⟩)
theorem with_thin {b : Book} (hV : Valid b) {day : Int} (hd : 1 ≤ day ∧ day ≤ b.days) (hn : day ∉ b.turns) (hs : ∀ y ∈ b.svs, y.d ≤ day) (hne : truthsF b [] ≠ []) (k : Nat) (hk : k < b.secs.length) :
    thinF (withF b day) (truthsF (withF b day) []) (withF b day).turns k = thinF b (truthsF b []) (b.turns ++ [day]) k := by
  have := findF_same (p := mayF (withF b day) (truthsF (withF b day) []) (withF b day).turns k) (q := mayF b (truthsF b []) (b.turns ++ [day]) k) (b.days + 1).toNat 0 fun i _ _ => by
    unfold mayF
    rw [with_thick hV hd hn hs hne k hk i]
    rfl
  show ((findF (mayF (withF b day) (truthsF (withF b day) []) (withF b day).turns k) (b.days + 1).toNat 0 : Nat) : Int) = ((findF (mayF b (truthsF b []) (b.turns ++ [day]) k) (b.days + 1).toNat 0 : Nat) : Int)
  omega
theorem with_soonest {b : Book} (hV : Valid b) {day : Int} (hd : 1 ≤ day ∧ day ≤ b.days) (hn : day ∉ b.turns) (hs : ∀ y ∈ b.svs, y.d ≤ day) (hne : truthsF b [] ≠ []) : ∀ n : Nat, n ≤ b.secs.length →
    soonestF (withF b day) (truthsF (withF b day) []) (withF b day).turns n = soonestF b (truthsF b []) (b.turns ++ [day]) n
  | 0, _ => rfl
  | n + 1, h => by
    simp only [soonestF]
    rw [with_soonest hV hd hn hs hne n (by omega), with_thin hV hd hn hs hne n (by omega)]
theorem soonest_le (b : Book) (ts : List TrC) (turns : List Int) : ∀ n, soonestF b ts turns n ≤ b.days + 1
  | 0 => Int.le_refl _
  | n + 1 => by
    have := soonest_le b ts turns n
    simp only [soonestF, mn]
    split <;> omega
theorem soonest_nonneg {b : Book} (hd : 0 ≤ b.days) (ts : List TrC) (turns : List Int) : ∀ n, 0 ≤ soonestF b ts turns n
  | 0 => by simp only [soonestF]; omega
  | n + 1 => by
    have := soonest_nonneg hd ts turns n
    have h2 : 0 ≤ thinF b ts turns n := by unfold thinF; omega
    simp only [soonestF, mn]
    split <;> omega

/-! ### The turn that is told -/
theorem from_le {b : Book} : ∀ y ∈ b.svs, y.d ≤ fromF b := by
  have : ∀ (l : List Sv) (a : Int), a ≤ l.foldl (fun n y => mx n y.d) a ∧ ∀ y ∈ l, y.d ≤ l.foldl (fun n y => mx n y.d) a := by
    intro l
    induction l with
    | nil => exact fun a => ⟨Int.le_refl _, fun y hy => by cases hy⟩
    | cons z l ih =>
      intro a
      obtain ⟨h1, h2⟩ := ih (mx a z.d)
      have := mx_ge (a := a) (b := z.d)
      simp only [List.foldl_cons]
      refine ⟨by omega, fun y hy => ?_⟩
      rcases List.mem_cons.1 hy with rfl | hy
      · omega
      · exact h2 y hy
  unfold fromF fromGo
  rw [List.take_length]
  exact (this b.svs 1).2
theorem turn_spec (b : Book) (ts : List TrC) (fr : Int) (h1 : 1 ≤ fr) : ∀ i : Nat,
    ((turnGo b ts fr i).1 = 0 ∧ (turnGo b ts fr i).2 = soonestF b ts b.turns b.secs.length ∧ ∀ d, fr ≤ d → d < fr + i → d ∉ b.turns → soonestF b ts (b.turns ++ [d]) b.secs.length ≤ (turnGo b ts fr i).2) ∨
    (fr ≤ (turnGo b ts fr i).1 ∧ (turnGo b ts fr i).1 < fr + i ∧ (turnGo b ts fr i).1 ∉ b.turns ∧ (turnGo b ts fr i).2 = soonestF b ts (b.turns ++ [(turnGo b ts fr i).1]) b.secs.length ∧ soonestF b ts b.turns b.secs.length < (turnGo b ts fr i).2 ∧
      ∀ d, fr ≤ d → d < fr + i → d ∉ b.turns → soonestF b ts (b.turns ++ [d]) b.secs.length ≤ (turnGo b ts fr i).2 ∧ (d < (turnGo b ts fr i).1 → soonestF b ts (b.turns ++ [d]) b.secs.length < (turnGo b ts fr i).2))
  | 0 => .inl ⟨rfl, rfl, fun d h1 h2 => by omega⟩
  | i + 1 => by
    have ih := turn_spec b ts fr h1 i
    simp only [turnGo]
    generalize turnGo b ts fr i = p at ih
    unfold turnStep
    by_cases hm : fr + (i : Int) ∈ b.turns
    · rw [if_pos hm]
      have hd : ∀ d, d < fr + ((i + 1 : Nat) : Int) → d ∉ b.turns → d < fr + (i : Int) := fun d h h' => by
        by_cases e : d = fr + (i : Int)
        · subst e; exact absurd hm h'
        · omega
      rcases ih with ⟨a1, a2, a3⟩ | ⟨a1, a2, a3, a4, a5, a6⟩
      · exact .inl ⟨a1, a2, fun d d1 d2 d3 => a3 d d1 (hd d d2 d3) d3⟩
      · exact .inr ⟨a1, by omega, a3, a4, a5, fun d d1 d2 d3 => a6 d d1 (hd d d2 d3) d3⟩
    · rw [if_neg hm]
      by_cases hg : soonestF b ts (b.turns ++ [fr + (i : Int)]) b.secs.length > p.2
      · rw [if_pos hg]
        refine .inr ⟨by show fr ≤ fr + (i : Int); omega, by show fr + (i : Int) < _; omega, hm, rfl, ?_, fun d d1 d2 d3 => ?_⟩
        · show soonestF b ts b.turns b.secs.length < soonestF b ts (b.turns ++ [fr + (i : Int)]) b.secs.length
          rcases ih with ⟨a1, a2, a3⟩ | ⟨a1, a2, a3, a4, a5, a6⟩ <;> omega
        · show soonestF b ts (b.turns ++ [d]) b.secs.length ≤ soonestF b ts (b.turns ++ [fr + (i : Int)]) b.secs.length ∧ (d < fr + (i : Int) → soonestF b ts (b.turns ++ [d]) b.secs.length < soonestF b ts (b.turns ++ [fr + (i : Int)]) b.secs.length)
          by_cases e : d = fr + (i : Int)
          · subst e
            exact ⟨Int.le_refl _, fun h => absurd h (by omega)⟩
          · have : soonestF b ts (b.turns ++ [d]) b.secs.length ≤ p.2 := by
              rcases ih with ⟨a1, a2, a3⟩ | ⟨a1, a2, a3, a4, a5, a6⟩
              · exact a3 d d1 (by omega) d3
              · exact (a6 d d1 (by omega) d3).1
            exact ⟨by omega, fun _ => by omega⟩
      · rw [if_neg hg]
        rcases ih with ⟨a1, a2, a3⟩ | ⟨a1, a2, a3, a4, a5, a6⟩
        · refine .inl ⟨a1, a2, fun d d1 d2 d3 => ?_⟩
          by_cases e : d = fr + (i : Int)
          · subst e; omega
          · exact a3 d d1 (by omega) d3
        · refine .inr ⟨a1, by omega, a3, a4, a5, fun d d1 d2 d3 => ?_⟩
          by_cases e : d = fr + (i : Int)
          · subst e; exact ⟨by omega, fun h => by omega⟩
          · exact a6 d d1 (by omega) d3
end Go.Di

namespace Go.Di

/-! ### A chain whose places are told from its other end -/
def mirrorY (n : Int) (y : Sv) : Sv := ⟨n - 1 - y.s, y.d, y.r, y.e⟩
def mirrorF (b : Book) : Book := ⟨b.secs.reverse, b.turns, b.svs.map (mirrorY b.secs.length), b.rule, b.days⟩
def mk4 (f : Nat → Int) : W4 := ⟨f 0, f 1, f 2, f 3⟩
def revW (n : Nat) (x : W4) : W4 := mk4 fun p => if p < n then x.at (n - 1 - p) else 0
theorem revW_at {n : Nat} (hn : n ≤ 4) (x : W4) (p : Nat) : (revW n x).at p = if p < n then x.at (n - 1 - p) else 0 := by
  match p with
  | 0 => rfl
  | 1 => rfl
  | 2 => rfl
  | 3 => rfl
  | p + 4 =>
    rw [if_neg (by omega)]
    show ([_, _, _, _] : List Int).getD (p + 4) 0 = 0
    simp
theorem rev_sec {l : List Sec} {p : Nat} (hp : p < l.length) : l.reverse.getD p sec0 = l.getD (l.length - 1 - p) sec0 := by
  rw [List.getD_eq_getElem?_getD, List.getD_eq_getElem?_getD, List.getElem?_reverse hp]
theorem mirror_mirror (b : Book) : mirrorF (mirrorF b) = b := by
  have e : ∀ y : Sv, mirrorY b.secs.reverse.length (mirrorY b.secs.length y) = y := fun y => by
    rw [List.length_reverse]
    cases y
    simp only [mirrorY, Sv.mk.injEq, and_true]
    omega
  have : (b.svs.map (mirrorY b.secs.length)).map (mirrorY b.secs.reverse.length) = b.svs := by
    rw [List.map_map]
    conv => rhs; rw [← List.map_id b.svs]
    exact List.map_congr_left fun y _ => e y
  cases b
  simp only [mirrorF, List.reverse_reverse, Book.mk.injEq, true_and, and_true] at this ⊢
  exact this
theorem place_rev {n : Int} {l : List Int} {d s : Int} : placeF n l d (n - 1 - s) = n - 1 - placeF n l d s := by
  rw [place_fold, place_fold]
  split <;> omega
theorem worn_rev {n : Nat} (hn : n ≤ 4) (x : W4) (turns : List Int) (k : Nat) (hk : k < n) : ∀ d : Nat, wornF n (revW n x).a (revW n x).b (revW n x).c (revW n x).d turns ((n - 1 - k : Nat) : Int) d = wornF n x.a x.b x.c x.d turns k d
  | 0 => rfl
  | d + 1 => by
    have e : ((n - 1 - k : Nat) : Int) = (n : Int) - 1 - k := by omega
    have hin := placeF_in (n := n) (turns := turns) (day := d) (s := (k : Int)) (by omega)
    have w1 : wF (revW n x).a (revW n x).b (revW n x).c (revW n x).d ((n : Int) - 1 - placeF n turns d k) = (revW n x).at ((n : Int) - 1 - placeF n turns d k).toNat := rfl
    have w2 : wF x.a x.b x.c x.d (placeF n turns d k) = x.at (placeF n turns d k).toNat := rfl
    have ih := worn_rev hn x turns k hk d
    rw [e] at ih ⊢
    simp only [wornF]
    rw [ih, place_rev, w1, w2, revW_at hn, if_pos (by omega)]
    congr 2
    omega
theorem svZ_mirror {b : Book} {i : Nat} (hi : i < b.svs.length) : svZ (mirrorF b) i = mirrorY b.secs.length (svZ b i) := by
  show (b.svs.map (mirrorY b.secs.length)).getD i sv0 = mirrorY b.secs.length (b.svs.getD i sv0)
  rw [List.getD_eq_getElem?_getD, List.getD_eq_getElem?_getD, List.getElem?_map, List.getElem?_eq_getElem hi]
  rfl
theorem mirror_feas {b : Book} (h4 : b.secs.length ≤ 4) {but : List Int} {T : Nat → Int} {x : W4} (h : Feas b but T x) : Feas (mirrorF b) but (fun k => T (b.secs.length - 1 - k)) (revW b.secs.length x) := by
  have hl : (mirrorF b).secs.length = b.secs.length := List.length_reverse
  have hvl : (mirrorF b).svs.length = b.svs.length := List.length_map ..
  have hsec : ∀ p, p < b.secs.length → (mirrorF b).secs.getD p sec0 = b.secs.getD (b.secs.length - 1 - p) sec0 := fun p hp => rev_sec hp
  refine ⟨fun p hp => ?_, fun p hp => ?_, fun k hk => ?_, fun i hi hn k hk => ?_⟩
  · rw [hl] at hp
    rw [hsec p hp, revW_at h4, if_pos hp]
    exact h.wear _ (by omega)
  · rw [hl] at hp
    rw [revW_at h4, if_neg (by omega)]
  · rw [hl] at hk
    rw [hsec k hk]
    exact h.thick _ (by omega)
  · rw [hl] at hk
    rw [hvl] at hi
    rw [svZ_mirror hi]
    intro hs
    have hs' : (b.secs.length : Int) - 1 - (svZ b i).s = k := hs
    have := h.right i hi hn (b.secs.length - 1 - k) (by omega) (by omega)
    have hw := worn_rev h4 x b.turns (b.secs.length - 1 - k) (by omega) (svZ b i).d.toNat
    rw [show b.secs.length - 1 - (b.secs.length - 1 - k) = k by omega] at hw
    show (svZ b i).r - (svZ b i).e + wornF (mirrorF b).secs.length _ _ _ _ b.turns k (svZ b i).d.toNat ≤ _ ∧ _ ≤ (svZ b i).r + (svZ b i).e + wornF (mirrorF b).secs.length _ _ _ _ b.turns k (svZ b i).d.toNat
    rw [hl, hw]
    exact this
theorem mirror_most (l : List Sec) : mostF l.reverse = mostF l := by
  have le : ∀ (l : List Sec) (a c : Int), a ≤ c → (∀ x ∈ l, x.w.hi ≤ c) → l.foldl (fun m x => mx m x.w.hi) a ≤ c := by
    intro l
    induction l with
    | nil => exact fun a c h _ => h
    | cons z l ih =>
      intro a c h h'
      simp only [List.foldl_cons]
      refine ih _ _ ?_ fun x hx => h' x (by simp [hx])
      have := h' z (by simp)
      unfold mx
      split <;> omega
  have k1 := most_le (l := l) 0
  have k2 := most_le (l := l.reverse) 0
  apply Int.le_antisymm
  · exact le l.reverse 0 _ k1.1 fun x hx => k1.2 x (List.mem_reverse.1 hx)
  · exact le l 0 _ k2.1 fun x hx => k2.2 x (List.mem_reverse.2 hx)
theorem mirror_valid {b : Book} (hV : Valid b) : Valid (mirrorF b) := by
  have hl : (mirrorF b).secs.length = b.secs.length := List.length_reverse
  refine ⟨by rw [hl]; exact hV.secs, hV.days, hV.rule, hV.turns, by show (b.svs.map _).length ≤ 8; rw [List.length_map]; exact hV.svs, fun x hx => hV.sec x (List.mem_reverse.1 hx), fun x hx => ?_, hV.rises, fun y hy => ?_⟩
  · show mostF b.secs.reverse * b.days ≤ x.t.lo
    rw [mirror_most]
    exact hV.thick x (List.mem_reverse.1 hx)
  · obtain ⟨z, hz, rfl⟩ := List.mem_map.1 hy
    obtain ⟨h1, h2, h3, h4⟩ := survey_iff.1 (hV.sv z hz)
    refine survey_iff.2 ⟨?_, h2, h3, h4⟩
    rw [hl]
    show 0 ≤ (b.secs.length : Int) - 1 - z.s ∧ (b.secs.length : Int) - 1 - z.s ≤ _
    omega
theorem mirror_can {b : Book} (hV : Valid b) (but : List Int) : truthsF (mirrorF b) but ≠ [] ↔ truthsF b but ≠ [] := by
  have hV' := mirror_valid hV
  rw [can_iff hV'.base, can_iff hV.base]
  constructor
  · rintro ⟨T, x, h⟩
    have := mirror_feas hV'.secs.2 h
    rw [mirror_mirror] at this
    exact ⟨_, _, this⟩
  · rintro ⟨T, x, h⟩
    exact ⟨_, _, mirror_feas hV.secs.2 h⟩
theorem mirror_thick {b : Book} (hV : Valid b) (hne : truthsF b [] ≠ []) (turns : List Int) (k : Nat) (hk : k < b.secs.length) (d : Int) :
    thickF b (truthsF b []) turns k d = thickF (mirrorF b) (truthsF (mirrorF b) []) turns ((b.secs.length - 1 - k : Nat) : Int) d := by
  have hV' := mirror_valid hV
  have hl : (mirrorF b).secs.length = b.secs.length := List.length_reverse
  have h4 := hV.secs.2
  refine thick_same hV.base hV'.base hk (by omega) hne ((mirror_can hV []).2 hne) (fun T x h => ?_) (fun T x h => ?_)
  · have h' := mirror_feas hV'.secs.2 h
    rw [mirror_mirror] at h'
    refine ⟨_, _, h', ?_⟩
    have hw := worn_rev h4 x turns (b.secs.length - 1 - k) (by omega) d.toNat
    rw [show b.secs.length - 1 - (b.secs.length - 1 - k) = k by omega] at hw
    unfold wornX
    rw [hl, hw]
  · refine ⟨_, _, mirror_feas h4 h, ?_⟩
    have hw := worn_rev h4 x turns k hk d.toNat
    unfold wornX
    rw [hl, hw, show b.secs.length - 1 - (b.secs.length - 1 - k) = k by omega]
theorem mirror_wear {b : Book} (hV : Valid b) (hne : truthsF b [] ≠ []) (k : Nat) (hk : k < b.secs.length) :
    toldF (wearAt k) (truthsF b []) = toldF (wearAt ((b.secs.length - 1 - k : Nat) : Int)) (truthsF (mirrorF b) []) := by
  have hV' := mirror_valid hV
  have hl : (mirrorF b).secs.length = b.secs.length := List.length_reverse
  have h4 := hV.secs.2
  refine wear_same hV.base hV'.base hne ((mirror_can hV []).2 hne) (fun T x h => ?_) (fun T x h => ?_)
  · have h' := mirror_feas hV'.secs.2 h
    rw [mirror_mirror] at h'
    refine ⟨_, _, h', ?_⟩
    rw [hl, revW_at h4, if_pos hk]
  · refine ⟨_, _, mirror_feas h4 h, ?_⟩
    rw [revW_at h4, if_pos (by omega), show b.secs.length - 1 - (b.secs.length - 1 - k) = k by omega]
theorem mirror_thin {b : Book} (hV : Valid b) (hne : truthsF b [] ≠ []) (turns : List Int) (k : Nat) (hk : k < b.secs.length) :
    thinF b (truthsF b []) turns k = thinF (mirrorF b) (truthsF (mirrorF b) []) turns ((b.secs.length - 1 - k : Nat) : Int) := by
  have := findF_same (p := mayF b (truthsF b []) turns k) (q := mayF (mirrorF b) (truthsF (mirrorF b) []) turns ((b.secs.length - 1 - k : Nat) : Int)) (b.days + 1).toNat 0 fun i _ _ => by
    unfold mayF
    rw [mirror_thick hV hne turns k hk i]
    rfl
  show ((findF (mayF b (truthsF b []) turns k) (b.days + 1).toNat 0 : Nat) : Int) = ((findF (mayF (mirrorF b) (truthsF (mirrorF b) []) turns ((b.secs.length - 1 - k : Nat) : Int)) (b.days + 1).toNat 0 : Nat) : Int)
  omega
theorem soonest_iff {b : Book} {ts : List TrC} {turns : List Int} {c : Int} : ∀ n : Nat, c ≤ soonestF b ts turns n ↔ c ≤ b.days + 1 ∧ ∀ k : Nat, k < n → c ≤ thinF b ts turns k
  | 0 => by simp [soonestF]
  | n + 1 => by
    have ih := soonest_iff (b := b) (ts := ts) (turns := turns) (c := c) n
    have e : c ≤ soonestF b ts turns (n + 1) ↔ c ≤ soonestF b ts turns n ∧ c ≤ thinF b ts turns n := by
      simp only [soonestF, mn]
      split <;> omega
    rw [e, ih]
    constructor
    · rintro ⟨⟨h1, h2⟩, h3⟩
      refine ⟨h1, fun k hk => ?_⟩
      by_cases e : k = n
      · subst e; exact h3
      · exact h2 k (by omega)
    · rintro ⟨h1, h2⟩
      exact ⟨⟨h1, fun k hk => h2 k (by omega)⟩, h2 n (by omega)⟩
theorem mirror_soonest {b : Book} (hV : Valid b) (hne : truthsF b [] ≠ []) (turns : List Int) : soonestF (mirrorF b) (truthsF (mirrorF b) []) turns b.secs.length = soonestF b (truthsF b []) turns b.secs.length := by
  have a1 := (soonest_iff (b := mirrorF b) (ts := truthsF (mirrorF b) []) (turns := turns) b.secs.length).1 (Int.le_refl _)
  have a2 := (soonest_iff (b := b) (ts := truthsF b []) (turns := turns) b.secs.length).1 (Int.le_refl _)
  apply Int.le_antisymm
  · refine (soonest_iff (b := b) _).2 ⟨a1.1, fun k hk => ?_⟩
    rw [mirror_thin hV hne turns k hk]
    exact a1.2 _ (by omega)
  · refine (soonest_iff (b := mirrorF b) _).2 ⟨a2.1, fun k hk => ?_⟩
    have := mirror_thin hV hne turns (b.secs.length - 1 - k) (by omega)
    rw [show b.secs.length - 1 - (b.secs.length - 1 - k) = k by omega] at this
    rw [← this]
    exact a2.2 _ (by omega)
theorem mirror_from (b : Book) : fromF (mirrorF b) = fromF b := by
  unfold fromF fromGo
  rw [List.take_length, List.take_length]
  show (b.svs.map (mirrorY b.secs.length)).foldl (fun n (y : Sv) => mx n y.d) 1 = _
  rw [List.foldl_map]
  rfl
theorem mirror_turn {b : Book} (hV : Valid b) (hne : truthsF b [] ≠ []) : turnLF (mirrorF b) (truthsF (mirrorF b) []) = turnLF b (truthsF b []) := by
  have hl : (mirrorF b).secs.length = b.secs.length := List.length_reverse
  have hgo : ∀ fr i, turnGo (mirrorF b) (truthsF (mirrorF b) []) fr i = turnGo b (truthsF b []) fr i := fun fr i => by
    induction i with
    | zero =>
      simp only [turnGo]
      rw [hl]
      show (0, soonestF (mirrorF b) (truthsF (mirrorF b) []) b.turns b.secs.length) = _
      rw [mirror_soonest hV hne]
    | succ i ih =>
      simp only [turnGo]
      rw [ih]
      unfold turnStep
      rw [hl]
      show (if fr + (i : Int) ∈ b.turns then _ else if soonestF (mirrorF b) (truthsF (mirrorF b) []) (b.turns ++ [fr + (i : Int)]) b.secs.length > _ then (fr + (i : Int), soonestF (mirrorF b) (truthsF (mirrorF b) []) (b.turns ++ [fr + (i : Int)]) b.secs.length) else _) = _
      rw [mirror_soonest hV hne]
  unfold turnLF
  rw [mirror_from]
  exact hgo _ _
theorem mirror_lv {b : Book} (hV : Valid b) : ∀ (f : Nat) (sm : List Int), lvGo (mirrorF b) f sm = lvGo b f sm
  | 0, sm => by
    simp only [lvGo]
    congr 2
    have := mirror_can hV sm
    cases h1 : truthsF (mirrorF b) sm <;> cases h2 : truthsF b sm
    · rfl
    · rw [h1, h2] at this; simp at this
    · rw [h1, h2] at this; simp at this
    · rfl
  | f + 1, sm => by
    have e : (fun j => lvGo (mirrorF b) f (sm ++ [j])) = fun j => lvGo b f (sm ++ [j]) := funext fun j => mirror_lv hV f _
    have hvl : (mirrorF b).svs.length = b.svs.length := List.length_map ..
    simp only [lvGo]
    rw [e, hvl]
theorem mirror_wrong {b : Book} (hV : Valid b) : wrongGo (mirrorF b) = wrongGo b := by
  have e : (fun j : Int => lvGo (mirrorF b) j.toNat []) = fun j => lvGo b j.toNat [] := funext fun j => mirror_lv hV _ _
  have hvl : (mirrorF b).svs.length = b.svs.length := List.length_map ..
  unfold wrongGo
  rw [e, hvl]
theorem cutGo_up (b : Book) (ts : List TrC) (d : Int) : ∀ n : Nat, Up n 0 (cutGo b ts d n)
  | 0 => trivial
  | n + 1 => by
    have ih := cutGo_up b ts d n
    simp only [cutGo]
    split
    · exact Up.snoc (Int.le_refl _) (by omega) (by omega) ih (by omega)
    · exact Up.mono (by omega) ih
theorem up_count_f {n : Int} {f : Int → Int} (hf : ∀ x y, f x = f y → x = y) : ∀ {l : List Int} {a : Int} {m : List Int}, Up n a l → (∀ x ∈ l, f x ∈ m) → l.length ≤ m.length
  | [], _, _, _, _ => by simp
  | x :: l, a, m, ⟨h1, h2, h3⟩, h => by
    have hx : f x ∈ m := h x (by simp)
    have := up_count_f hf (m := m.erase (f x)) h3 fun y hy => by
      have hy1 := (h3.mem hy).1
      exact (List.mem_erase_of_ne (fun e => by have := hf _ _ e; omega)).2 (h y (by simp [hy]))
    rw [List.length_erase_of_mem hx] at this
    have : 0 < m.length := List.length_pos_of_mem hx
    simp only [List.length_cons]
    omega
theorem mirror_cut {b : Book} (hV : Valid b) (hne : truthsF b [] ≠ []) (d : Int) :
    (∀ x ∈ cutGo b (truthsF b []) d b.secs.length, (b.secs.length : Int) - 1 - x ∈ cutGo (mirrorF b) (truthsF (mirrorF b) []) d b.secs.length) ∧ (cutGo b (truthsF b []) d b.secs.length).length = (cutGo (mirrorF b) (truthsF (mirrorF b) []) d b.secs.length).length := by
  have h1 : ∀ x ∈ cutGo b (truthsF b []) d b.secs.length, (b.secs.length : Int) - 1 - x ∈ cutGo (mirrorF b) (truthsF (mirrorF b) []) d b.secs.length := fun x hx => by
    obtain ⟨x1, x2, x3⟩ := (cutGo_mem _ _ _ _ _).1 hx
    obtain ⟨k, rfl⟩ : ∃ k : Nat, x = k := ⟨x.toNat, by omega⟩
    refine (cutGo_mem _ _ _ _ _).2 ⟨by omega, by omega, ?_⟩
    rw [mirror_thick hV hne b.turns k (by omega) d] at x3
    rw [show (b.secs.length : Int) - 1 - (k : Int) = ((b.secs.length - 1 - k : Nat) : Int) by omega]
    exact x3
  have h2 : ∀ x ∈ cutGo (mirrorF b) (truthsF (mirrorF b) []) d b.secs.length, (b.secs.length : Int) - 1 - x ∈ cutGo b (truthsF b []) d b.secs.length := fun x hx => by
    obtain ⟨x1, x2, x3⟩ := (cutGo_mem _ _ _ _ _).1 hx
    obtain ⟨k, rfl⟩ : ∃ k : Nat, x = k := ⟨x.toNat, by omega⟩
    refine (cutGo_mem _ _ _ _ _).2 ⟨by omega, by omega, ?_⟩
    have := mirror_thick hV hne b.turns (b.secs.length - 1 - k) (by omega) d
    rw [show b.secs.length - 1 - (b.secs.length - 1 - k) = k by omega] at this
    rw [show (b.secs.length : Int) - 1 - (k : Int) = ((b.secs.length - 1 - k : Nat) : Int) by omega, this]
    exact x3
  refine ⟨h1, Nat.le_antisymm ?_ ?_⟩
  · exact up_count_f (f := fun x => (b.secs.length : Int) - 1 - x) (fun x y h => by omega) (cutGo_up b (truthsF b []) d b.secs.length) h1
  · exact up_count_f (f := fun x => (b.secs.length : Int) - 1 - x) (fun x y h => by omega) (cutGo_up (mirrorF b) (truthsF (mirrorF b) []) d b.secs.length) h2
end Go.Di

