/- Part 23: an interpreter over plain data for this code, with the proof that it says what the model does, and the contracts of the functions. No condition. -/
import Derived.Test.YtfkmodcjddfeiaaDoorDi22
set_option linter.unusedVariables false
set_option linter.unusedSimpArgs false
namespace Go.Di

/-! ### A book with a turn more -/
def sel (p : Int → Bool) : Nat → List Int
  | 0 => []
  | i + 1 => if p ((i : Int) + 1) = true then sel p i ++ [(i : Int) + 1] else sel p i
theorem sel_mem (p : Int → Bool) : ∀ (n : Nat) (x : Int), x ∈ sel p n ↔ 1 ≤ x ∧ x ≤ n ∧ p x = true
  | 0, x => by simp only [sel, List.not_mem_nil, false_iff]; omega
  | n + 1, x => by
    have ih := sel_mem p n x
    simp only [sel]
    by_cases h : p ((n : Int) + 1) = true
    · rw [if_pos h, List.mem_append, ih, List.mem_singleton]
      constructor
      · rintro (⟨h1, h2, h3⟩ | rfl)
        · exact ⟨h1, by omega, h3⟩
        · exact ⟨by omega, by omega, h⟩
      · rintro ⟨h1, h2, h3⟩
        by_cases e : x = n + 1
        · exact .inr e
        · exact .inl ⟨h1, by omega, h3⟩
    · rw [if_neg h, ih]
      constructor
      · rintro ⟨h1, h2, h3⟩
        exact ⟨h1, by omega, h3⟩
      · rintro ⟨h1, h2, h3⟩
        refine ⟨h1, ?_, h3⟩
        by_cases e : x = n + 1
        · subst e; exact absurd h3 h
        · omega
theorem sel_up (p : Int → Bool) : ∀ n : Nat, Up ((n : Int) + 1) 1 (sel p n)
  | 0 => trivial
  | n + 1 => by
    have ih := sel_up p n
    simp only [sel]
    split
    · exact Up.snoc (Int.le_refl _) (by omega) (by omega) ih (by omega)
    · exact Up.mono (by omega) ih
theorem sel_len (p : Int → Bool) : ∀ n : Nat, (sel p n).length ≤ n
  | 0 => by simp [sel]
  | n + 1 => by
    have ih := sel_len p n
    simp only [sel]
    split
    · simp only [List.length_append, List.length_singleton]; omega
    · omega
theorem up_same {n : Int} : ∀ {l m : List Int} {a : Int}, Up n a l → Up n a m → (∀ x, x ∈ l ↔ x ∈ m) → l = m
  | [], [], _, _, _, _ => rfl
  | [], y :: m, _, _, _, h => by have := (h y).2 (by simp); cases this
  | x :: l, [], _, _, _, h => by have := (h x).1 (by simp); cases this
  | x :: l, y :: m, a, ⟨h1, h2, h3⟩, ⟨g1, g2, g3⟩, h => by
    have e : x = y := by
      have q1 := (h x).1 (by simp)
      have q2 := (h y).2 (by simp)
      rcases List.mem_cons.1 q1 with e | q1
      · exact e
      · rcases List.mem_cons.1 q2 with e | q2
        · exact e.symm
        · have := (g3.mem q1).1
          have := (h3.mem q2).1
          omega
    subst e
    congr 1
    refine up_same h3 g3 fun z => ?_
    have hz := h z
    simp only [List.mem_cons] at hz
    constructor
    · intro q
      have := (h3.mem q).1
      rcases hz.1 (.inr q) with e | e
      · omega
      · exact e
    · intro q
      have := (g3.mem q).1
      rcases hz.2 (.inr q) with e | e
      · omega
      · exact e
theorem up_count {n : Int} : ∀ {l : List Int} {a : Int} {m : List Int}, Up n a l → (∀ x ∈ l, x ∈ m) → l.length ≤ m.length
  | [], _, _, _, _ => by simp
  | x :: l, a, m, ⟨h1, h2, h3⟩, h => by
    have hx : x ∈ m := h x (by simp)
    have := up_count (m := m.erase x) h3 fun y hy => by
      have hy1 := (h3.mem hy).1
      exact (List.mem_erase_of_ne (by omega)).2 (h y (by simp [hy]))
    rw [List.length_erase_of_mem hx] at this
    have : 0 < m.length := List.length_pos_of_mem hx
    simp only [List.length_cons]
    omega
theorem rises_up {days : Int} : ∀ (l : List Int) (a : Int), (l.foldl (turnF days) (true, a)).1 = true ↔ Up (days + 1) (a + 1) l
  | [], a => by simp [Up]
  | t :: l, a => by
    have ih := rises_up (days := days) l t
    simp only [List.foldl_cons, turnF, Up]
    rw [turns_and, Bool.and_eq_true, ih, Bool.true_and, within_iff]
    constructor
    · rintro ⟨⟨h1, h2⟩, h3⟩; exact ⟨h1, by omega, h3⟩
    · rintro ⟨h1, h2, h3⟩; exact ⟨⟨h1, by omega⟩, h3⟩
def withP (b : Book) (day : Int) (d : Int) : Bool := (d == day) || decide (d ∈ b.turns)
def withF (b : Book) (day : Int) : Book := ⟨b.secs, sel (withP b day) b.days.toNat, b.svs, b.rule, b.days⟩
theorem Valid.up {b : Book} (hV : Valid b) : Up (b.days + 1) 1 b.turns := by
  have := hV.rises
  unfold risesF at this
  rw [rises_up] at this
  exact this
theorem with_valid {b : Book} (hV : Valid b) (h3 : b.turns.length ≤ 3) (day : Int) : Valid (withF b day) := by
  have hdd := hV.days
  have hu := sel_up (withP b day) b.days.toNat
  rw [show ((b.days.toNat : Nat) : Int) = b.days by omega] at hu
  refine ⟨hV.secs, hV.days, hV.rule, ?_, hV.svs, hV.sec, hV.thick, ?_, hV.sv⟩
  · have := up_count (m := day :: b.turns) hu fun x hx => by
      have := ((sel_mem _ _ _).1 hx).2.2
      unfold withP at this
      rw [Bool.or_eq_true, beq_iff_eq, decide_eq_true_eq] at this
      exact List.mem_cons.2 this
    simp only [List.length_cons] at this
    show (sel (withP b day) b.days.toNat).length ≤ 4
    omega
  · show ((sel (withP b day) b.days.toNat).foldl (turnF b.days) (true, 0)).1 = true
    rw [rises_up]
    exact hu
theorem flips_sel (p : Int → Bool) (d : Int) (k : Nat) : flips (sel p (k + 1)) d = Bool.xor (flips (sel p k) d) (p ((k : Int) + 1) && decide ((k : Int) + 1 ≤ d)) := by
  simp only [sel]
  by_cases h : p ((k : Int) + 1) = true
  · rw [if_pos h, flips_append, flips_one, h, Bool.true_and]
  · rw [if_neg h]
    have : p ((k : Int) + 1) = false := by simpa using h
    rw [this]; simp
theorem flips_with {b : Book} {day : Int} (hn : day ∉ b.turns) (d : Int) : ∀ k : Nat, flips (sel (withP b day) k) d = Bool.xor (flips (sel (fun e => decide (e ∈ b.turns)) k) d) (decide (1 ≤ day ∧ day ≤ k ∧ day ≤ d))
  | 0 => by
    rw [decide_eq_false (by omega)]
    simp [sel]
  | k + 1 => by
    rw [flips_sel, flips_sel, flips_with hn d k]
    by_cases e : (k : Int) + 1 = day
    · have p1 : withP b day ((k : Int) + 1) = true := by unfold withP; rw [e]; simp
      have p2 : decide ((k : Int) + 1 ∈ b.turns) = false := decide_eq_false (by rw [e]; exact hn)
      rw [p1, p2, decide_eq_false (p := 1 ≤ day ∧ day ≤ k ∧ day ≤ d) (by omega)]
      have : decide ((k : Int) + 1 ≤ d) = decide (1 ≤ day ∧ day ≤ ((k + 1 : Nat) : Int) ∧ day ≤ d) := by
        rw [decide_eq_decide]; omega
      rw [this]
      simp
    · have p1 : withP b day ((k : Int) + 1) = decide ((k : Int) + 1 ∈ b.turns) := by
        unfold withP
        rw [show ((k : Int) + 1 == day) = false by simpa using e]
        simp
      have : decide (1 ≤ day ∧ day ≤ (k : Int) ∧ day ≤ d) = decide (1 ≤ day ∧ day ≤ ((k + 1 : Nat) : Int) ∧ day ≤ d) := by
        rw [decide_eq_decide]; omega
      rw [p1, this]
      simp only [Bool.xor_assoc]
      congr 1
      exact Bool.xor_comm _ _
theorem sel_turns {b : Book} (hV : Valid b) : sel (fun e => decide (e ∈ b.turns)) b.days.toNat = b.turns := by
  have hdd := hV.days
  have hu := sel_up (fun e => decide (e ∈ b.turns)) b.days.toNat
  rw [show ((b.days.toNat : Nat) : Int) = b.days by omega] at hu
  refine up_same hu hV.up fun x => ?_
  rw [sel_mem, decide_eq_true_eq]
  constructor
  · exact fun h => h.2.2
  · intro h
    have := hV.up.mem h
    exact ⟨by omega, by omega, h⟩
/-- The chain lies alike, with a turn more in its place or at the end of the list. -/
theorem flips_more {b : Book} (hV : Valid b) {day : Int} (hd : 1 ≤ day ∧ day ≤ b.days) (hn : day ∉ b.turns) (d : Int) : flips (withF b day).turns d = flips (b.turns ++ [day]) d ∧ (d < day → flips (withF b day).turns d = flips b.turns d) := by
  have hdd := hV.days
  have e : flips (withF b day).turns d = Bool.xor (flips b.turns d) (decide (1 ≤ day ∧ day ≤ b.days ∧ day ≤ d)) := by
    have := flips_with hn d b.days.toNat
    rw [sel_turns hV, show ((b.days.toNat : Nat) : Int) = b.days by omega] at this
    exact this
  constructor
  · rw [e, flips_append, flips_one]
    congr 1
    rw [decide_eq_decide]
    omega
  · intro h
    rw [e, decide_eq_false (by omega)]
    simp
theorem with_sat {b : Book} (hV : Valid b) {day : Int} (hd : 1 ≤ day ∧ day ≤ b.days) (hn : day ∉ b.turns) (hs : ∀ y ∈ b.svs, y.d ≤ day) (x : W4) (k t : Int) (y : Sv) (hy : y ∈ b.svs) : SatY (withF b day) x k t y ↔ SatY b x k t y := by
  unfold SatY
  have := hs y hy
  have e : wornF b.secs.length x.a x.b x.c x.d (withF b day).turns k y.d.toNat = wornF b.secs.length x.a x.b x.c x.d b.turns k y.d.toNat :=
    worn_flips _ fun e he => (flips_more hV hd hn e).2 (by omega)
  show (y.s = k → y.r - y.e + wornF b.secs.length x.a x.b x.c x.d (withF b day).turns k y.d.toNat ≤ t ∧ t ≤ y.r + y.e + wornF b.secs.length x.a x.b x.c x.d (withF b day).turns k y.d.toNat) ↔ _
  rw [e]
theorem with_feas {b : Book} (hV : Valid b) {day : Int} (hd : 1 ≤ day ∧ day ≤ b.days) (hn : day ∉ b.turns) (hs : ∀ y ∈ b.svs, y.d ≤ day) {T : Nat → Int} {x : W4} : Feas (withF b day) [] T x ↔ Feas b [] T x := by
  rw [feas_nil, feas_nil]
  constructor
  · rintro ⟨h, h'⟩
    exact ⟨⟨h.wear, h.zero, h.thick⟩, fun y hy k hk => (with_sat hV hd hn hs x k (T k) y hy).1 (h' y hy k hk)⟩
  · rintro ⟨h, h'⟩
    exact ⟨⟨h.wear, h.zero, h.thick⟩, fun y hy k hk => (with_sat hV hd hn hs x k (T k) y hy).2 (h' y hy k hk)⟩
theorem with_base {b : Book} (hV : Valid b) (day : Int) : Base (withF b day) := ⟨hV.base.n4, hV.base.wlo, hV.base.svs0⟩
theorem with_can {b : Book} (hV : Valid b) {day : Int} (hd : 1 ≤ day ∧ day ≤ b.days) (hn : day ∉ b.turns) (hs : ∀ y ∈ b.svs, y.d ≤ day) : truthsF (withF b day) [] ≠ [] ↔ truthsF b [] ≠ [] := by
  rw [can_iff (with_base hV day), can_iff hV.base]
  simp only [with_feas hV hd hn hs]
theorem with_thick {b : Book} (hV : Valid b) {day : Int} (hd : 1 ≤ day ∧ day ≤ b.days) (hn : day ∉ b.turns) (hs : ∀ y ∈ b.svs, y.d ≤ day) (hne : truthsF b [] ≠ []) (k : Nat) (hk : k < b.secs.length) (d : Int) :
    thickF b (truthsF b []) (b.turns ++ [day]) k d = thickF (withF b day) (truthsF (withF b day) []) (withF b day).turns k d := by
  have e : ∀ x : W4, wornX b (b.turns ++ [day]) x k d = wornX (withF b day) (withF b day).turns x k d := fun x =>
    (worn_flips _ fun e he => (flips_more hV hd hn e).1).symm
  exact thick_same hV.base (with_base hV day) hk hk hne ((with_can hV hd hn hs).2 hne) (fun T x h => ⟨T, x, (with_feas hV hd hn hs).1 h, by rw [e]⟩) (fun T x h => ⟨T, x, (with_feas hV hd hn hs).2 h, by rw [e]⟩)
theorem with_thin {b : Book} (hV : Valid b) {day : Int} (hd : 1 ≤ day ∧ day ≤ b.days) (hn : day ∉ b.turns) (hs : ∀ y ∈ b.svs, y.d ≤ day) (hne : truthsF b [] ≠ []) (k : Nat) (hk : k < b.secs.length) :
    thinF (withF b day) (truthsF (withF b day) []) (withF b day).turns k = thinF b (truthsF b []) (b.turns ++ [day]) k := by
  have := findF_same (p := mayF (withF b day) (truthsF (withF b day) []) (withF b day).turns k) (q := mayF b (truthsF b []) (b.turns ++ [day]) k) (b.days + 1).toNat 0 fun i _ _ => by
    unfold mayF
    rw [with_thick hV hd hn hs hne k hk i]
    rfl
  show ((findF (mayF (withF b day) (truthsF (withF b day) []) (withF b day).turns k) (b.days + 1).toNat 0 : Nat) : Int) = ((findF (mayF b (truthsF b []) (b.turns ++ [day]) k) (b.days + 1).toNat 0 : Nat) : Int)
  omega
theorem with_soonest {b : Book} (hV : Valid b) {day : Int} (hd : 1 ≤ day ∧ day ≤ b.days) (hn : day ∉ b.turns) (hs : ∀ y ∈ b.svs, y.d ≤ day) (hne : truthsF b [] ≠ []) : ∀ n : Nat, n ≤ b.secs.length →
    soonestF (withF b day) (truthsF (withF b day) []) (withF b day).turns n = soonestF b (truthsF b []) (b.turns ++ [day]) n
  | 0, _ => rfl
  | n + 1, h => by
    simp only [soonestF]
    rw [with_soonest hV hd hn hs hne n (by omega), with_thin hV hd hn hs hne n (by omega)]
theorem soonest_le (b : Book) (ts : List TrC) (turns : List Int) : ∀ n, soonestF b ts turns n ≤ b.days + 1
  | 0 => Int.le_refl _
  | n + 1 => by
    have := soonest_le b ts turns n
    simp only [soonestF, mn]
    split <;> omega
theorem soonest_nonneg {b : Book} (hd : 0 ≤ b.days) (ts : List TrC) (turns : List Int) : ∀ n, 0 ≤ soonestF b ts turns n
  | 0 => by simp only [soonestF]; omega
  | n + 1 => by
    have := soonest_nonneg hd ts turns n
    have h2 : 0 ≤ thinF b ts turns n := by unfold thinF; omega
    simp only [soonestF, mn]
    split <;> omega

/-! ### The turn that is told -/
theorem from_le {b : Book} : ∀ y ∈ b.svs, y.d ≤ fromF b := by
  have : ∀ (l : List Sv) (a : Int), a ≤ l.foldl (fun n y => mx n y.d) a ∧ ∀ y ∈ l, y.d ≤ l.foldl (fun n y => mx n y.d) a := by
    intro l
    induction l with
    | nil => exact fun a => ⟨Int.le_refl _, fun y hy => by cases hy⟩
    | cons z l ih =>
      intro a
      obtain ⟨h1, h2⟩ := ih (mx a z.d)
      have := mx_ge (a := a) (b := z.d)
      simp only [List.foldl_cons]
      refine ⟨by omega, fun y hy => ?_⟩
      rcases List.mem_cons.1 hy with rfl | hy
      · omega
      · exact h2 y hy
  unfold fromF fromGo
  rw [List.take_length]
  exact (this b.svs 1).2
theorem turn_spec (b : Book) (ts : List TrC) (fr : Int) (h1 : 1 ≤ fr) : ∀ i : Nat,
    ((turnGo b ts fr i).1 = 0 ∧ (turnGo b ts fr i).2 = soonestF b ts b.turns b.secs.length ∧ ∀ d, fr ≤ d → d < fr + i → d ∉ b.turns → soonestF b ts (b.turns ++ [d]) b.secs.length ≤ (turnGo b ts fr i).2) ∨
    (fr ≤ (turnGo b ts fr i).1 ∧ (turnGo b ts fr i).1 < fr + i ∧ (turnGo b ts fr i).1 ∉ b.turns ∧ (turnGo b ts fr i).2 = soonestF b ts (b.turns ++ [(turnGo b ts fr i).1]) b.secs.length ∧ soonestF b ts b.turns b.secs.length < (turnGo b ts fr i).2 ∧
      ∀ d, fr ≤ d → d < fr + i → d ∉ b.turns → soonestF b ts (b.turns ++ [d]) b.secs.length ≤ (turnGo b ts fr i).2 ∧ (d < (turnGo b ts fr i).1 → soonestF b ts (b.turns ++ [d]) b.secs.length < (turnGo b ts fr i).2))
  | 0 => .inl ⟨rfl, rfl, fun d h1 h2 => by omega⟩
  | i + 1 => by
    have ih := turn_spec b ts fr h1 i
    simp only [turnGo]
    generalize turnGo b ts fr i = p at ih
    unfold turnStep
    by_cases hm : fr + (i : Int) ∈ b.turns
    · rw [if_pos hm]
      have hd : ∀ d, d < fr + ((i + 1 : Nat) : Int) → d ∉ b.turns → d < fr + (i : Int) := fun d h h' => by
        by_cases e : d = fr + (i : Int)
        · subst e; exact absurd hm h'
        · omega
      rcases ih with ⟨a1, a2, a3⟩ | ⟨a1, a2, a3, a4, a5, a6⟩
      · exact .inl ⟨a1, a2, fun d d1 d2 d3 => a3 d d1 (hd d d2 d3) d3⟩
      · exact .inr ⟨a1, by omega, a3, a4, a5, fun d d1 d2 d3 => a6 d d1 (hd d d2 d3) d3⟩
    · rw [if_neg hm]
      by_cases hg : soonestF b ts (b.turns ++ [fr + (i : Int)]) b.secs.length > p.2
      · rw [if_pos hg]
        refine .inr ⟨by show fr ≤ fr + (i : Int); omega, by show fr + (i : Int) < _; omega, hm, rfl, ?_, fun d d1 d2 d3 => ?_⟩
        · show soonestF b ts b.turns b.secs.length < soonestF b ts (b.turns ++ [fr + (i : Int)]) b.secs.length
          rcases ih with ⟨a1, a2, a3⟩ | ⟨a1, a2, a3, a4, a5, a6⟩ <;> omega
        · show soonestF b ts (b.turns ++ [d]) b.secs.length ≤ soonestF b ts (b.turns ++ [fr + (i : Int)]) b.secs.length ∧ (d < fr + (i : Int) → soonestF b ts (b.turns ++ [d]) b.secs.length < soonestF b ts (b.turns ++ [fr + (i : Int)]) b.secs.length)
          by_cases e : d = fr + (i : Int)
          · subst e
            exact ⟨Int.le_refl _, fun h => absurd h (by omega)⟩
          · have : soonestF b ts (b.turns ++ [d]) b.secs.length ≤ p.2 := by
              rcases ih with ⟨a1, a2, a3⟩ | ⟨a1, a2, a3, a4, a5, a6⟩
              · exact a3 d d1 (by omega) d3
              · exact (a6 d d1 (by omega) d3).1
            exact ⟨by omega, fun _ => by omega⟩
      · rw [if_neg hg]
        rcases ih with ⟨a1, a2, a3⟩ | ⟨a1, a2, a3, a4, a5, a6⟩
        · refine .inl ⟨a1, a2, fun d d1 d2 d3 => ?_⟩
          by_cases e : d = fr + (i : Int)
          · subst e; omega
          · exact a3 d d1 (by omega) d3
        · refine .inr ⟨a1, by omega, a3, a4, a5, fun d d1 d2 d3 => ?_⟩
          by_cases e : d = fr + (i : Int)
          · subst e; exact ⟨by omega, fun h => by omega⟩
          · exact a6 d d1 (by omega) d3
end Go.Di

namespace Go.Di
theorem lsoon_fn : FnOk Proofs.Tryd.prog (mk Proofs.Tryd.prog (lookN types) glob 35) 56 (body Proofs.Tryd.f56) [.tmp 2] := ⟨Proofs.Tryd.f56, by kernel_rfl, by kernel_rfl, by kernel_rfl, by kernel_rfl, by kernel_rfl⟩
theorem wiB_fn : FnOk Proofs.Tryd.prog (mk Proofs.Tryd.prog (lookN types) glob 32) 57 (body Proofs.Tryd.f57) [.cell 4 26] := ⟨Proofs.Tryd.f57, by kernel_rfl, by kernel_rfl, by kernel_rfl, by kernel_rfl, by kernel_rfl⟩
theorem wiA_fn : FnOk Proofs.Tryd.prog (mk Proofs.Tryd.prog (lookN types) glob 32) 57 (body Proofs.Tryd.f57) [.cell 4 26] := ⟨Proofs.Tryd.f57, by kernel_rfl, by kernel_rfl, by kernel_rfl, by kernel_rfl, by kernel_rfl⟩
theorem cturn_fn : FnOk Proofs.Tryd.prog (mk Proofs.Tryd.prog (lookN types) glob 134) 11 (body Proofs.Tryd.f11) [.tmp 4] := ⟨Proofs.Tryd.f11, by kernel_rfl, by kernel_rfl, by kernel_rfl, by kernel_rfl, by kernel_rfl⟩
def lsoon_S0 (b : Book) (i : Nat) (day : Int) : List (Key × Val) :=
  [(.tmp 1, .d (D.ptr 1 0)),
   (.tmp 3, .d (.int .i64 day)),
   (.tmp 4, .d (.int .i64 i)),
   (.box 1, .bx (some (Box.mk false (cellsOf (bookD b)))))]
def lsoon_K0 : List Key := [.tmp 1, .tmp 3, .tmp 4, .box 1]
def wiB_S0 (b : Book) (day : Int) (i : Nat) (y : Int) (r : List Int) : List (Key × Val) :=
  [(.tmp 1, .d (D.int .i64 day)),
   (.tmp 2, .d (D.ptr 2 0)),
   (.tmp 4, .d (D.ptr 4 0)),
   (.tmp 5, .d (D.ptr 5 0)),
   (.tmp 6, .d (.int .i64 ((i : Int) + 1))),
   (.box 2, .bx (some (Box.mk false (cellsOf (bookD b))))),
   (.box 4, .bx (some (Box.mk false [D.nil, D.nil, D.nil, D.int .i64 (0 : Int), D.int .i64 (0 : Int)]))),
   (.box 5, .bx (some ⟨false, [.sl false .sec b.secs, .own 29 (y :: r).length, .sl false .sv b.svs, .int .i64 b.rule, .int .i64 b.days]⟩)),
   (.obj 29, .ob (some ⟨.int, y :: r⟩))]
def wiB_K0 : List Key := [.tmp 1, .tmp 2, .tmp 4, .tmp 5, .tmp 6, .box 2, .box 4, .box 5, .obj 29]
def wiA_S0 (b : Book) (day : Int) (i : Nat) : List (Key × Val) :=
  [(.tmp 1, .d (D.int .i64 day)),
   (.tmp 2, .d (D.ptr 2 0)),
   (.tmp 4, .d (D.ptr 4 0)),
   (.tmp 5, .d (D.ptr 5 0)),
   (.tmp 6, .d (.int .i64 ((i : Int) + 1))),
   (.box 2, .bx (some (Box.mk false (cellsOf (bookD b))))),
   (.box 4, .bx (some (Box.mk false [D.nil, D.nil, D.nil, D.int .i64 (0 : Int), D.int .i64 (0 : Int)]))),
   (.box 5, .bx (some (Box.mk false [D.sl false E.sec (Book.secs b), D.sl true E.int [], D.sl false E.sv (Book.svs b), D.int .i64 (Book.rule b), D.int .i64 (Book.days b)]))),
   (.obj 29, .ob none)]
def wiA_K0 : List Key := [.tmp 1, .tmp 2, .tmp 4, .tmp 5, .tmp 6, .box 2, .box 4, .box 5, .obj 29]
def cturn_S0 (b : Book) (n : Int) (day e was : Int) (i : Nat) (fr : Int) : List (Key × Val) :=
  [(.tmp 1, .d (D.int .i64 n)),
   (.tmp 2, .d (D.ptr 2 0)),
   (.tmp 5, .d (D.int .i64 day)),
   (.tmp 6, .d (D.int .i64 e)),
   (.tmp 7, .d (D.int .i64 was)),
   (.tmp 8, .d (.int .i64 fr)),
   (.tmp 9, .d (.int .i64 i)),
   (.box 2, .bx (some (Box.mk false (cellsOf (bookD b)))))]
def cturn_K0 : List Key := [.tmp 1, .tmp 2, .tmp 5, .tmp 6, .tmp 7, .tmp 8, .tmp 9, .box 2]
theorem lsoon_0_ok (b : Book) (i : Nat) (day : Int) (k : Int) :
    runK (mk Proofs.Tryd.prog (lookN types) glob 35) [(14, true)] [(20, .tup [.int .i64 k, .int .i64 0])] [] (Code.at [1, 1, 0, 1, 0, 0] (body Proofs.Tryd.f56)) (lsoon_S0 b i day) lsoon_K0 =
      some ([decide ((Nat.cast : Nat → Int) i < (Nat.cast : Nat → Int) (List.length (Book.secs b))) = true, Contract Proofs.Tryd.prog glob 43 [bookD b, D.int .i64 ((Nat.cast : Nat → Int) i)] (D.tup [D.int .i64 k, D.int .i64 (0 : Int)]), inI64 ((Nat.cast : Nat → Int) i + (1 : Int))], Ex.normal, [(.tmp 1, .d (D.ptr 1 0)), (.tmp 3, .d (D.int .i64 (List.foldl mn day [k]))), (.tmp 4, .d (D.int .i64 ((Nat.cast : Nat → Int) i + (1 : Int)))), (.box 1, .bx (some (Box.mk false (cellsOf (bookD b)))))]) := by kernel_rfl
theorem lsoon_0_none (b : Book) (i : Nat) (day : Int) :
    runK (mk Proofs.Tryd.prog (lookN types) glob 35) [(14, true)] [(20, .tup [.int .i64 0, .int .i64 4])] [] (Code.at [1, 1, 0, 1, 0, 0] (body Proofs.Tryd.f56)) (lsoon_S0 b i day) lsoon_K0 =
      some ([decide ((Nat.cast : Nat → Int) i < (Nat.cast : Nat → Int) (List.length (Book.secs b))) = true, Contract Proofs.Tryd.prog glob 43 [bookD b, D.int .i64 ((Nat.cast : Nat → Int) i)] (D.tup [D.int .i64 (0 : Int), D.int .i64 (4 : Int)]), inI64 ((Nat.cast : Nat → Int) i + (1 : Int))], Ex.normal, [(.tmp 1, .d (D.ptr 1 0)), (.tmp 3, .d (D.int .i64 day)), (.tmp 4, .d (D.int .i64 ((Nat.cast : Nat → Int) i + (1 : Int)))), (.box 1, .bx (some (Box.mk false (cellsOf (bookD b)))))]) := by kernel_rfl
theorem lsoon_0_bad (b : Book) (i : Nat) (day : Int) :
    runK (mk Proofs.Tryd.prog (lookN types) glob 35) [(14, true)] [(20, .tup [.int .i64 0, .int .i64 12])] [] (Code.at [1, 1, 0, 1, 0, 0] (body Proofs.Tryd.f56)) (lsoon_S0 b i day) [.tmp 1, .tmp 3, .tmp 4, .box 1, .tmp 2] =
      some ([decide ((Nat.cast : Nat → Int) i < (Nat.cast : Nat → Int) (List.length (Book.secs b))) = true, Contract Proofs.Tryd.prog glob 43 [bookD b, D.int .i64 ((Nat.cast : Nat → Int) i)] (D.tup [D.int .i64 (0 : Int), D.int .i64 (12 : Int)])], Ex.ret, [(.tmp 1, .d (D.ptr 1 0)), (.tmp 3, .d (D.int .i64 day)), (.tmp 4, .d (D.int .i64 ((Nat.cast : Nat → Int) i))), (.box 1, .bx (some (Box.mk false (cellsOf (bookD b))))), (.tmp 2, .d (D.int .i64 (-(1 : Int))))]) := by kernel_rfl
theorem lsoon_0_end (b : Book) (i : Nat) (day : Int) :
    runK (mk Proofs.Tryd.prog (lookN types) glob 35) [(14, false)] [] [] (Code.at [1, 1, 0, 1, 0, 0] (body Proofs.Tryd.f56)) (lsoon_S0 b i day) lsoon_K0 =
      some ([decide ((Nat.cast : Nat → Int) i < (Nat.cast : Nat → Int) (List.length (Book.secs b))) = false], Ex.exit 0, [(.tmp 1, .d (D.ptr 1 0)), (.tmp 3, .d (D.int .i64 day)), (.tmp 4, .d (D.int .i64 ((Nat.cast : Nat → Int) i))), (.box 1, .bx (some (Box.mk false (cellsOf (bookD b)))))]) := by kernel_rfl
theorem wiB_0_eq (b : Book) (day : Int) (i : Nat) (y : Int) (r : List Int) (z : Int) :
    runK (mk Proofs.Tryd.prog (lookN types) glob 32) [(12, true), (18, true)] [(22, .int .i64 z)] [] (Code.at [1, 1, 1, 0, 1, 0, 0] (body Proofs.Tryd.f57)) (wiB_S0 b day i y r) wiB_K0 =
      some ([decide ((Nat.cast : Nat → Int) i + (1 : Int) ≤ Book.days b) = true, ((Nat.cast : Nat → Int) i + (1 : Int) == day) = true, ((Nat.cast : Nat → Int) i + (1 : Int) == day) = true, ((Nat.cast : Nat → Int) i + (1 : Int) == day) = true, ((Nat.cast : Nat → Int) i + (1 : Int) == day) = true, ((Nat.cast : Nat → Int) i + (1 : Int) == day) = true, ((Nat.cast : Nat → Int) i + (1 : Int) == day) = true, List.length (y :: r) = List.length ((y :: r)), List.length ((y :: r) ++ [(Nat.cast : Nat → Int) i + (1 : Int)]) * (8 + 1) ≤ 140737488355328, List.length ((y :: r) ++ [(Nat.cast : Nat → Int) i + (1 : Int)]) = List.length (((y :: r) ++ [(Nat.cast : Nat → Int) i + (1 : Int)])), inI64 ((Nat.cast : Nat → Int) i + (1 : Int) + (1 : Int))], Ex.normal, [(.tmp 1, .d (D.int .i64 day)), (.tmp 2, .d (D.ptr 2 0)), (.tmp 4, .d (D.ptr 4 0)), (.tmp 5, .d (D.ptr 5 0)), (.tmp 6, .d (D.int .i64 ((Nat.cast : Nat → Int) i + (1 : Int) + (1 : Int)))), (.box 2, .bx (some (Box.mk false (cellsOf (bookD b))))), (.box 4, .bx (some (Box.mk false [D.nil, D.nil, D.nil, D.int .i64 (0 : Int), D.int .i64 (0 : Int)]))), (.box 5, .bx (some (Box.mk false [D.sl false E.sec (Book.secs b), D.own 29 (List.length ((y :: r) ++ [(Nat.cast : Nat → Int) i + (1 : Int)])), D.sl false E.sv (Book.svs b), D.int .i64 (Book.rule b), D.int .i64 (Book.days b)]))), (.obj 29, .ob (some (Ob.mk E.int ((y :: r) ++ [(Nat.cast : Nat → Int) i + (1 : Int)]))))]) := by kernel_rfl
theorem wiB_0_at (b : Book) (day : Int) (i : Nat) (y : Int) (r : List Int) (z : Int) :
    runK (mk Proofs.Tryd.prog (lookN types) glob 32) [(12, true), (18, false), (24, true)] [(22, .int .i64 z)] [] (Code.at [1, 1, 1, 0, 1, 0, 0] (body Proofs.Tryd.f57)) (wiB_S0 b day i y r) wiB_K0 =
      some ([decide ((Nat.cast : Nat → Int) i + (1 : Int) ≤ Book.days b) = true, ((Nat.cast : Nat → Int) i + (1 : Int) == day) = false, ((Nat.cast : Nat → Int) i + (1 : Int) == day) = false, ((Nat.cast : Nat → Int) i + (1 : Int) == day) = false, ((Nat.cast : Nat → Int) i + (1 : Int) == day) = false, Contract Proofs.Tryd.prog glob 46 [D.sl false E.int (Book.turns b), D.int .i64 ((Nat.cast : Nat → Int) i + (1 : Int))] (D.int .i64 z), ((Nat.cast : Nat → Int) i + (1 : Int) == day) = false, ((Nat.cast : Nat → Int) i + (1 : Int) == day) = false, decide (z ≥ (0 : Int)) = true, List.length (y :: r) = List.length ((y :: r)), List.length ((y :: r) ++ [(Nat.cast : Nat → Int) i + (1 : Int)]) * (8 + 1) ≤ 140737488355328, List.length ((y :: r) ++ [(Nat.cast : Nat → Int) i + (1 : Int)]) = List.length (((y :: r) ++ [(Nat.cast : Nat → Int) i + (1 : Int)])), inI64 ((Nat.cast : Nat → Int) i + (1 : Int) + (1 : Int))], Ex.normal, [(.tmp 1, .d (D.int .i64 day)), (.tmp 2, .d (D.ptr 2 0)), (.tmp 4, .d (D.ptr 4 0)), (.tmp 5, .d (D.ptr 5 0)), (.tmp 6, .d (D.int .i64 ((Nat.cast : Nat → Int) i + (1 : Int) + (1 : Int)))), (.box 2, .bx (some (Box.mk false (cellsOf (bookD b))))), (.box 4, .bx (some (Box.mk false [D.nil, D.nil, D.nil, D.int .i64 (0 : Int), D.int .i64 (0 : Int)]))), (.box 5, .bx (some (Box.mk false [D.sl false E.sec (Book.secs b), D.own 29 (List.length ((y :: r) ++ [(Nat.cast : Nat → Int) i + (1 : Int)])), D.sl false E.sv (Book.svs b), D.int .i64 (Book.rule b), D.int .i64 (Book.days b)]))), (.obj 29, .ob (some (Ob.mk E.int ((y :: r) ++ [(Nat.cast : Nat → Int) i + (1 : Int)]))))]) := by kernel_rfl
theorem wiB_0_no (b : Book) (day : Int) (i : Nat) (y : Int) (r : List Int) (z : Int) :
    runK (mk Proofs.Tryd.prog (lookN types) glob 32) [(12, true), (18, false), (24, false)] [(22, .int .i64 z)] [] (Code.at [1, 1, 1, 0, 1, 0, 0] (body Proofs.Tryd.f57)) (wiB_S0 b day i y r) wiB_K0 =
      some ([decide ((Nat.cast : Nat → Int) i + (1 : Int) ≤ Book.days b) = true, ((Nat.cast : Nat → Int) i + (1 : Int) == day) = false, ((Nat.cast : Nat → Int) i + (1 : Int) == day) = false, ((Nat.cast : Nat → Int) i + (1 : Int) == day) = false, ((Nat.cast : Nat → Int) i + (1 : Int) == day) = false, Contract Proofs.Tryd.prog glob 46 [D.sl false E.int (Book.turns b), D.int .i64 ((Nat.cast : Nat → Int) i + (1 : Int))] (D.int .i64 z), ((Nat.cast : Nat → Int) i + (1 : Int) == day) = false, ((Nat.cast : Nat → Int) i + (1 : Int) == day) = false, decide (z ≥ (0 : Int)) = false, inI64 ((Nat.cast : Nat → Int) i + (1 : Int) + (1 : Int))], Ex.normal, [(.tmp 1, .d (D.int .i64 day)), (.tmp 2, .d (D.ptr 2 0)), (.tmp 4, .d (D.ptr 4 0)), (.tmp 5, .d (D.ptr 5 0)), (.tmp 6, .d (D.int .i64 ((Nat.cast : Nat → Int) i + (1 : Int) + (1 : Int)))), (.box 2, .bx (some (Box.mk false (cellsOf (bookD b))))), (.box 4, .bx (some (Box.mk false [D.nil, D.nil, D.nil, D.int .i64 (0 : Int), D.int .i64 (0 : Int)]))), (.box 5, .bx (some (Box.mk false [D.sl false E.sec (Book.secs b), D.own 29 (List.length (y :: r)), D.sl false E.sv (Book.svs b), D.int .i64 (Book.rule b), D.int .i64 (Book.days b)]))), (.obj 29, .ob (some (Ob.mk E.int (y :: r))))]) := by kernel_rfl
theorem wiB_0_end (b : Book) (day : Int) (i : Nat) (y : Int) (r : List Int) :
    runK (mk Proofs.Tryd.prog (lookN types) glob 32) [(12, false)] [] [] (Code.at [1, 1, 1, 0, 1, 0, 0] (body Proofs.Tryd.f57)) (wiB_S0 b day i y r) wiB_K0 =
      some ([decide ((Nat.cast : Nat → Int) i + (1 : Int) ≤ Book.days b) = false], Ex.exit 0, [(.tmp 1, .d (D.int .i64 day)), (.tmp 2, .d (D.ptr 2 0)), (.tmp 4, .d (D.ptr 4 0)), (.tmp 5, .d (D.ptr 5 0)), (.tmp 6, .d (D.int .i64 ((Nat.cast : Nat → Int) i + (1 : Int)))), (.box 2, .bx (some (Box.mk false (cellsOf (bookD b))))), (.box 4, .bx (some (Box.mk false [D.nil, D.nil, D.nil, D.int .i64 (0 : Int), D.int .i64 (0 : Int)]))), (.box 5, .bx (some (Box.mk false [D.sl false E.sec (Book.secs b), D.own 29 (List.length (y :: r)), D.sl false E.sv (Book.svs b), D.int .i64 (Book.rule b), D.int .i64 (Book.days b)]))), (.obj 29, .ob (some (Ob.mk E.int (y :: r))))]) := by kernel_rfl
theorem wiA_0_eq (b : Book) (day : Int) (i : Nat) (z : Int) :
    runK (mk Proofs.Tryd.prog (lookN types) glob 32) [(12, true), (18, true)] [(22, .int .i64 z)] [] (Code.at [1, 1, 1, 0, 1, 0, 0] (body Proofs.Tryd.f57)) (wiA_S0 b day i) wiB_K0 =
      some ([decide ((Nat.cast : Nat → Int) i + (1 : Int) ≤ Book.days b) = true, ((Nat.cast : Nat → Int) i + (1 : Int) == day) = true, ((Nat.cast : Nat → Int) i + (1 : Int) == day) = true, ((Nat.cast : Nat → Int) i + (1 : Int) == day) = true, ((Nat.cast : Nat → Int) i + (1 : Int) == day) = true, ((Nat.cast : Nat → Int) i + (1 : Int) == day) = true, ((Nat.cast : Nat → Int) i + (1 : Int) == day) = true, 1 * (8 + 1) ≤ 140737488355328, 1 = 1, inI64 ((Nat.cast : Nat → Int) i + (1 : Int) + (1 : Int))], Ex.normal, [(.tmp 1, .d (D.int .i64 day)), (.tmp 2, .d (D.ptr 2 0)), (.tmp 4, .d (D.ptr 4 0)), (.tmp 5, .d (D.ptr 5 0)), (.tmp 6, .d (D.int .i64 ((Nat.cast : Nat → Int) i + (1 : Int) + (1 : Int)))), (.box 2, .bx (some (Box.mk false (cellsOf (bookD b))))), (.box 4, .bx (some (Box.mk false [D.nil, D.nil, D.nil, D.int .i64 (0 : Int), D.int .i64 (0 : Int)]))), (.box 5, .bx (some (Box.mk false [D.sl false E.sec (Book.secs b), D.own 29 1, D.sl false E.sv (Book.svs b), D.int .i64 (Book.rule b), D.int .i64 (Book.days b)]))), (.obj 29, .ob (some (Ob.mk E.int ([] ++ [(Nat.cast : Nat → Int) i + (1 : Int)]))))]) := by kernel_rfl
theorem wiA_0_at (b : Book) (day : Int) (i : Nat) (z : Int) :
    runK (mk Proofs.Tryd.prog (lookN types) glob 32) [(12, true), (18, false), (24, true)] [(22, .int .i64 z)] [] (Code.at [1, 1, 1, 0, 1, 0, 0] (body Proofs.Tryd.f57)) (wiA_S0 b day i) wiB_K0 =
      some ([decide ((Nat.cast : Nat → Int) i + (1 : Int) ≤ Book.days b) = true, ((Nat.cast : Nat → Int) i + (1 : Int) == day) = false, ((Nat.cast : Nat → Int) i + (1 : Int) == day) = false, ((Nat.cast : Nat → Int) i + (1 : Int) == day) = false, ((Nat.cast : Nat → Int) i + (1 : Int) == day) = false, Contract Proofs.Tryd.prog glob 46 [D.sl false E.int (Book.turns b), D.int .i64 ((Nat.cast : Nat → Int) i + (1 : Int))] (D.int .i64 z), ((Nat.cast : Nat → Int) i + (1 : Int) == day) = false, ((Nat.cast : Nat → Int) i + (1 : Int) == day) = false, decide (z ≥ (0 : Int)) = true, 1 * (8 + 1) ≤ 140737488355328, 1 = 1, inI64 ((Nat.cast : Nat → Int) i + (1 : Int) + (1 : Int))], Ex.normal, [(.tmp 1, .d (D.int .i64 day)), (.tmp 2, .d (D.ptr 2 0)), (.tmp 4, .d (D.ptr 4 0)), (.tmp 5, .d (D.ptr 5 0)), (.tmp 6, .d (D.int .i64 ((Nat.cast : Nat → Int) i + (1 : Int) + (1 : Int)))), (.box 2, .bx (some (Box.mk false (cellsOf (bookD b))))), (.box 4, .bx (some (Box.mk false [D.nil, D.nil, D.nil, D.int .i64 (0 : Int), D.int .i64 (0 : Int)]))), (.box 5, .bx (some (Box.mk false [D.sl false E.sec (Book.secs b), D.own 29 1, D.sl false E.sv (Book.svs b), D.int .i64 (Book.rule b), D.int .i64 (Book.days b)]))), (.obj 29, .ob (some (Ob.mk E.int ([] ++ [(Nat.cast : Nat → Int) i + (1 : Int)]))))]) := by kernel_rfl
theorem wiA_0_no (b : Book) (day : Int) (i : Nat) (z : Int) :
    runK (mk Proofs.Tryd.prog (lookN types) glob 32) [(12, true), (18, false), (24, false)] [(22, .int .i64 z)] [] (Code.at [1, 1, 1, 0, 1, 0, 0] (body Proofs.Tryd.f57)) (wiA_S0 b day i) wiA_K0 =
      some ([decide ((Nat.cast : Nat → Int) i + (1 : Int) ≤ Book.days b) = true, ((Nat.cast : Nat → Int) i + (1 : Int) == day) = false, ((Nat.cast : Nat → Int) i + (1 : Int) == day) = false, ((Nat.cast : Nat → Int) i + (1 : Int) == day) = false, ((Nat.cast : Nat → Int) i + (1 : Int) == day) = false, Contract Proofs.Tryd.prog glob 46 [D.sl false E.int (Book.turns b), D.int .i64 ((Nat.cast : Nat → Int) i + (1 : Int))] (D.int .i64 z), ((Nat.cast : Nat → Int) i + (1 : Int) == day) = false, ((Nat.cast : Nat → Int) i + (1 : Int) == day) = false, decide (z ≥ (0 : Int)) = false, inI64 ((Nat.cast : Nat → Int) i + (1 : Int) + (1 : Int))], Ex.normal, [(.tmp 1, .d (D.int .i64 day)), (.tmp 2, .d (D.ptr 2 0)), (.tmp 4, .d (D.ptr 4 0)), (.tmp 5, .d (D.ptr 5 0)), (.tmp 6, .d (D.int .i64 ((Nat.cast : Nat → Int) i + (1 : Int) + (1 : Int)))), (.box 2, .bx (some (Box.mk false (cellsOf (bookD b))))), (.box 4, .bx (some (Box.mk false [D.nil, D.nil, D.nil, D.int .i64 (0 : Int), D.int .i64 (0 : Int)]))), (.box 5, .bx (some (Box.mk false [D.sl false E.sec (Book.secs b), D.sl true E.int [], D.sl false E.sv (Book.svs b), D.int .i64 (Book.rule b), D.int .i64 (Book.days b)]))), (.obj 29, .ob Option.none)]) := by kernel_rfl
theorem wiA_0_end (b : Book) (day : Int) (i : Nat) :
    runK (mk Proofs.Tryd.prog (lookN types) glob 32) [(12, false)] [] [] (Code.at [1, 1, 1, 0, 1, 0, 0] (body Proofs.Tryd.f57)) (wiA_S0 b day i) wiA_K0 =
      some ([decide ((Nat.cast : Nat → Int) i + (1 : Int) ≤ Book.days b) = false], Ex.exit 0, [(.tmp 1, .d (D.int .i64 day)), (.tmp 2, .d (D.ptr 2 0)), (.tmp 4, .d (D.ptr 4 0)), (.tmp 5, .d (D.ptr 5 0)), (.tmp 6, .d (D.int .i64 ((Nat.cast : Nat → Int) i + (1 : Int)))), (.box 2, .bx (some (Box.mk false (cellsOf (bookD b))))), (.box 4, .bx (some (Box.mk false [D.nil, D.nil, D.nil, D.int .i64 (0 : Int), D.int .i64 (0 : Int)]))), (.box 5, .bx (some (Box.mk false [D.sl false E.sec (Book.secs b), D.sl true E.int [], D.sl false E.sv (Book.svs b), D.int .i64 (Book.rule b), D.int .i64 (Book.days b)]))), (.obj 29, .ob Option.none)]) := by kernel_rfl
theorem cturn_0_on (b : Book) (n : Int) (day e was : Int) (i : Nat) (fr : Int) :
    runK (mk Proofs.Tryd.prog (lookN types) glob 134) [(45, true)] [] [] (Code.at [1, 1, 1, 1, 1, 0, 1, 0, 0] (body Proofs.Tryd.f11)) (cturn_S0 b n day e was i fr) cturn_K0 =
      some ([decide ((Nat.cast : Nat → Int) i < (Nat.cast : Nat → Int) (List.length (Book.svs b))) = true, (0 : Int) ≤ (Nat.cast : Nat → Int) i ∧ (Nat.cast : Nat → Int) i < (Nat.cast : Nat → Int) (List.length (Book.svs b)), 0 + 1 + 1 ≤ 4, inI64 ((Nat.cast : Nat → Int) i + (1 : Int))], Ex.normal, [(.tmp 1, .d (D.int .i64 n)), (.tmp 2, .d (D.ptr 2 0)), (.tmp 5, .d (D.int .i64 day)), (.tmp 6, .d (D.int .i64 e)), (.tmp 7, .d (D.int .i64 was)), (.tmp 8, .d (D.int .i64 (List.foldl mx fr [Sv.d (List.getD (Book.svs b) (Int.toNat ((Nat.cast : Nat → Int) i)) (E.z E.sv))]))), (.tmp 9, .d (D.int .i64 ((Nat.cast : Nat → Int) i + (1 : Int)))), (.box 2, .bx (some (Box.mk false (cellsOf (bookD b)))))]) := by kernel_rfl
theorem cturn_0_end (b : Book) (n : Int) (day e was : Int) (i : Nat) (fr : Int) :
    runK (mk Proofs.Tryd.prog (lookN types) glob 134) [(45, false)] [] [] (Code.at [1, 1, 1, 1, 1, 0, 1, 0, 0] (body Proofs.Tryd.f11)) (cturn_S0 b n day e was i fr) cturn_K0 =
      some ([decide ((Nat.cast : Nat → Int) i < (Nat.cast : Nat → Int) (List.length (Book.svs b))) = false], Ex.exit 0, [(.tmp 1, .d (D.int .i64 n)), (.tmp 2, .d (D.ptr 2 0)), (.tmp 5, .d (D.int .i64 day)), (.tmp 6, .d (D.int .i64 e)), (.tmp 7, .d (D.int .i64 was)), (.tmp 8, .d (D.int .i64 fr)), (.tmp 9, .d (D.int .i64 ((Nat.cast : Nat → Int) i))), (.box 2, .bx (some (Box.mk false (cellsOf (bookD b)))))]) := by kernel_rfl
def lsoon_T0_bad (b : Book) (i : Nat) (day : Int)  : List (Key × Val) :=
  [(.tmp 1, .d (D.ptr 1 0)), (.tmp 3, .d (D.int .i64 day)), (.tmp 4, .d (D.int .i64 ((Nat.cast : Nat → Int) i))), (.box 1, .bx (some (Box.mk false (cellsOf (bookD b))))), (.tmp 2, .d (D.int .i64 (-(1 : Int))))]
theorem lsoon_all (b : Book) (i : Nat) (day : Int) :
    callF (mk Proofs.Tryd.prog (lookN types) glob 35) [] [] [(0, (lsoon_K0, (.normal, lsoon_S0 b i day)))] (body Proofs.Tryd.f56) [.tmp 2] [bookD b] =
      some ([inI64 (Book.days b + (1 : Int)), LoopT Proofs.Tryd.prog glob 35 (Code.at [1, 1, 0, 1] (body Proofs.Tryd.f56)) [(.tmp 1, .d (D.ptr 1 0)), (.tmp 3, .d (D.int .i64 (Book.days b + (1 : Int)))), (.tmp 4, .d (D.int .i64 (0 : Int))), (.box 1, .bx (some (Box.mk false (cellsOf (bookD b)))))] Ex.normal (lsoon_S0 b i day)], D.int .i64 day) := by kernel_rfl
theorem lsoon_bad (b : Book) (i : Nat) (day : Int) :
    callF (mk Proofs.Tryd.prog (lookN types) glob 35) [] [] [(0, (lsoon_K0, (.ret, lsoon_T0_bad b i day)))] (body Proofs.Tryd.f56) [.tmp 2] [bookD b] =
      some ([inI64 (Book.days b + (1 : Int)), LoopT Proofs.Tryd.prog glob 35 (Code.at [1, 1, 0, 1] (body Proofs.Tryd.f56)) [(.tmp 1, .d (D.ptr 1 0)), (.tmp 3, .d (D.int .i64 (Book.days b + (1 : Int)))), (.tmp 4, .d (D.int .i64 (0 : Int))), (.box 1, .bx (some (Box.mk false (cellsOf (bookD b)))))] Ex.ret (lsoon_T0_bad b i day)], D.int .i64 (-(1 : Int))) := by kernel_rfl
theorem wiA_none (b : Book) (day : Int) (i : Nat) :
    callF (mk Proofs.Tryd.prog (lookN types) glob 32) [] [] [(0, (wiA_K0, (.normal, wiA_S0 b day i)))] (body Proofs.Tryd.f57) [.cell 4 26] [bookD b, .int .i64 day] =
      some ([LoopT Proofs.Tryd.prog glob 32 (Code.at [1, 1, 1, 0, 1] (body Proofs.Tryd.f57)) [(.tmp 1, .d (D.int .i64 day)), (.tmp 2, .d (D.ptr 2 0)), (.tmp 4, .d (D.ptr 4 0)), (.tmp 5, .d (D.ptr 5 0)), (.tmp 6, .d (D.int .i64 (1 : Int))), (.box 2, .bx (some (Box.mk false (cellsOf (bookD b))))), (.box 4, .bx (some (Box.mk false [D.nil, D.nil, D.nil, D.int .i64 (0 : Int), D.int .i64 (0 : Int)]))), (.box 5, .bx (some (Box.mk false [D.sl false E.sec (Book.secs b), D.sl true E.int [], D.sl false E.sv (Book.svs b), D.int .i64 (Book.rule b), D.int .i64 (Book.days b)]))), (.obj 29, .ob Option.none)] Ex.normal (wiA_S0 b day i)], D.agg [D.sl false E.sec (Book.secs b), D.sl true E.int [], D.sl false E.sv (Book.svs b), D.int .i64 (Book.rule b), D.int .i64 (Book.days b)]) := by kernel_rfl
theorem wiA_some (b : Book) (day : Int) (i : Nat) (y : Int) (r : List Int) :
    callF (mk Proofs.Tryd.prog (lookN types) glob 32) [] [] [(0, (wiB_K0, (.normal, wiB_S0 b day i y r)))] (body Proofs.Tryd.f57) [.cell 4 26] [bookD b, .int .i64 day] =
      some ([LoopT Proofs.Tryd.prog glob 32 (Code.at [1, 1, 1, 0, 1] (body Proofs.Tryd.f57)) [(.tmp 1, .d (D.int .i64 day)), (.tmp 2, .d (D.ptr 2 0)), (.tmp 4, .d (D.ptr 4 0)), (.tmp 5, .d (D.ptr 5 0)), (.tmp 6, .d (D.int .i64 (1 : Int))), (.box 2, .bx (some (Box.mk false (cellsOf (bookD b))))), (.box 4, .bx (some (Box.mk false [D.nil, D.nil, D.nil, D.int .i64 (0 : Int), D.int .i64 (0 : Int)]))), (.box 5, .bx (some (Box.mk false [D.sl false E.sec (Book.secs b), D.sl true E.int [], D.sl false E.sv (Book.svs b), D.int .i64 (Book.rule b), D.int .i64 (Book.days b)]))), (.obj 29, .ob Option.none)] Ex.normal (wiB_S0 b day i y r), List.length (y :: r) = List.length ((y :: r)), List.length (y :: r) = List.length ((y :: r))], D.agg [D.sl false E.sec (Book.secs b), D.sl false E.int ((y :: r)), D.sl false E.sv (Book.svs b), D.int .i64 (Book.rule b), D.int .i64 (Book.days b)]) := by kernel_rfl
theorem cturn_bad (b : Book) (n : Int) :
    callF (mk Proofs.Tryd.prog (lookN types) glob 134) [] [(14, .bool false), (22, .bool true)] [] (body Proofs.Tryd.f11) [.tmp 4] [bookD b, .int .i64 n] =
      some ([Contract Proofs.Tryd.prog glob 33 [bookD b] (D.bool false), Contract Proofs.Tryd.prog glob 30 [] (D.bool true)], D.bool true) := by kernel_rfl
theorem cturn_full (b : Book) (n : Int) :
    callF (mk Proofs.Tryd.prog (lookN types) glob 134) [(21, true)] [(14, .bool true), (22, .bool true)] [] (body Proofs.Tryd.f11) [.tmp 4] [bookD b, .int .i64 n] =
      some ([Contract Proofs.Tryd.prog glob 33 [bookD b] (D.bool true), ((Nat.cast : Nat → Int) (List.length (Book.turns b)) == (4 : Int)) = true, Contract Proofs.Tryd.prog glob 30 [] (D.bool true)], D.bool true) := by kernel_rfl
theorem cturn_neg (b : Book) (n : Int) (was : Int) :
    callF (mk Proofs.Tryd.prog (lookN types) glob 134) [(21, false), (31, true)] [(14, .bool true), (25, .tup [.int .i64 0, .int .i64 12]), (29, .int .i64 was), (39, .bool true)] [] (body Proofs.Tryd.f11) [.tmp 4] [bookD b, .int .i64 n] =
      some ([Contract Proofs.Tryd.prog glob 33 [bookD b] (D.bool true), ((Nat.cast : Nat → Int) (List.length (Book.turns b)) == (4 : Int)) = false, Contract Proofs.Tryd.prog glob 54 [bookD b] (D.tup [D.int .i64 (0 : Int), D.int .i64 (12 : Int)]), Contract Proofs.Tryd.prog glob 56 [bookD b] (D.int .i64 was), decide (was < (0 : Int)) = true, Contract Proofs.Tryd.prog glob 30 [] (D.bool true)], D.bool true) := by kernel_rfl
theorem cturn_has0 (b : Book) (n : Int) (day was k z z2 late best fr : Int) (i : Nat) (b1 b2 : Book) :
    callF (mk Proofs.Tryd.prog (lookN types) glob 134) [(21, false), (31, false), (76, false), (80, false), (104, true)] [(14, .bool true), (29, .int .i64 was), (61, bookD b1), (62, .int .i64 best), (67, .bool true), (73, .int .i64 z), (98, .int .i64 k), (103, .int .i64 z2), (105, .bool true), (108, bookD b2), (109, .int .i64 late), (132, .bool true), (25, .tup [.int .i64 day, .int .i64 0])] [(0, (cturn_K0, (.normal, cturn_S0 b n day 0 was i fr)))] (body Proofs.Tryd.f11) [.tmp 4] [bookD b, .int .i64 n] =
      some ([Contract Proofs.Tryd.prog glob 33 [bookD b] (D.bool true), ((Nat.cast : Nat → Int) (List.length (Book.turns b)) == (4 : Int)) = false, Contract Proofs.Tryd.prog glob 54 [bookD b] (D.tup [D.int .i64 day, D.int .i64 (0 : Int)]), Contract Proofs.Tryd.prog glob 56 [bookD b] (D.int .i64 was), decide (was < (0 : Int)) = false, LoopT Proofs.Tryd.prog glob 134 (Code.at [1, 1, 1, 1, 1, 0, 1] (body Proofs.Tryd.f11)) [(.tmp 1, .d (D.int .i64 n)), (.tmp 2, .d (D.ptr 2 0)), (.tmp 5, .d (D.int .i64 day)), (.tmp 6, .d (D.int .i64 (0 : Int))), (.tmp 7, .d (D.int .i64 was)), (.tmp 8, .d (D.int .i64 (1 : Int))), (.tmp 9, .d (D.int .i64 (0 : Int))), (.box 2, .bx (some (Box.mk false (cellsOf (bookD b)))))] Ex.normal (cturn_S0 b n day (0 : Int) was i fr), Contract Proofs.Tryd.prog glob 57 [bookD b, D.int .i64 day] (bookD b1), Contract Proofs.Tryd.prog glob 56 [bookD b1] (D.int .i64 best), Contract Proofs.Tryd.prog glob 50 [D.int .i64 day, D.int .i64 fr, D.int .i64 (Book.days b)] (D.bool true), Contract Proofs.Tryd.prog glob 46 [D.sl false E.int (Book.turns b), D.int .i64 day] (D.int .i64 z), decide (z ≥ (0 : Int)) = false, decide (z ≥ (0 : Int)) = false, decide (z ≥ (0 : Int)) = false, decide (z ≥ (0 : Int)) = false, decide (best ≤ was) = false, inI64 (Book.days b - fr), inI64 (Book.days b - fr + (1 : Int)), Contract Proofs.Tryd.prog glob 39 [D.int .i64 n, D.int .i64 (Book.days b - fr + (1 : Int))] (D.int .i64 k), inI64 (fr + k), Contract Proofs.Tryd.prog glob 46 [D.sl false E.int (Book.turns b), D.int .i64 (fr + k)] (D.int .i64 z2), decide (z2 ≥ (0 : Int)) = true, Contract Proofs.Tryd.prog glob 30 [] (D.bool true)], D.bool true) := by kernel_rfl
theorem cturn_lt0 (b : Book) (n : Int) (day was k z z2 late best fr : Int) (i : Nat) (b1 b2 : Book) :
    callF (mk Proofs.Tryd.prog (lookN types) glob 134) [(21, false), (31, false), (76, false), (80, false), (104, false), (112, true), (116, true)] [(14, .bool true), (29, .int .i64 was), (61, bookD b1), (62, .int .i64 best), (67, .bool true), (73, .int .i64 z), (98, .int .i64 k), (103, .int .i64 z2), (105, .bool true), (108, bookD b2), (109, .int .i64 late), (132, .bool true), (25, .tup [.int .i64 day, .int .i64 0])] [(0, (cturn_K0, (.normal, cturn_S0 b n day 0 was i fr)))] (body Proofs.Tryd.f11) [.tmp 4] [bookD b, .int .i64 n] =
      some ([Contract Proofs.Tryd.prog glob 33 [bookD b] (D.bool true), ((Nat.cast : Nat → Int) (List.length (Book.turns b)) == (4 : Int)) = false, Contract Proofs.Tryd.prog glob 54 [bookD b] (D.tup [D.int .i64 day, D.int .i64 (0 : Int)]), Contract Proofs.Tryd.prog glob 56 [bookD b] (D.int .i64 was), decide (was < (0 : Int)) = false, LoopT Proofs.Tryd.prog glob 134 (Code.at [1, 1, 1, 1, 1, 0, 1] (body Proofs.Tryd.f11)) [(.tmp 1, .d (D.int .i64 n)), (.tmp 2, .d (D.ptr 2 0)), (.tmp 5, .d (D.int .i64 day)), (.tmp 6, .d (D.int .i64 (0 : Int))), (.tmp 7, .d (D.int .i64 was)), (.tmp 8, .d (D.int .i64 (1 : Int))), (.tmp 9, .d (D.int .i64 (0 : Int))), (.box 2, .bx (some (Box.mk false (cellsOf (bookD b)))))] Ex.normal (cturn_S0 b n day (0 : Int) was i fr), Contract Proofs.Tryd.prog glob 57 [bookD b, D.int .i64 day] (bookD b1), Contract Proofs.Tryd.prog glob 56 [bookD b1] (D.int .i64 best), Contract Proofs.Tryd.prog glob 50 [D.int .i64 day, D.int .i64 fr, D.int .i64 (Book.days b)] (D.bool true), Contract Proofs.Tryd.prog glob 46 [D.sl false E.int (Book.turns b), D.int .i64 day] (D.int .i64 z), decide (z ≥ (0 : Int)) = false, decide (z ≥ (0 : Int)) = false, decide (z ≥ (0 : Int)) = false, decide (z ≥ (0 : Int)) = false, decide (best ≤ was) = false, inI64 (Book.days b - fr), inI64 (Book.days b - fr + (1 : Int)), Contract Proofs.Tryd.prog glob 39 [D.int .i64 n, D.int .i64 (Book.days b - fr + (1 : Int))] (D.int .i64 k), inI64 (fr + k), Contract Proofs.Tryd.prog glob 46 [D.sl false E.int (Book.turns b), D.int .i64 (fr + k)] (D.int .i64 z2), decide (z2 ≥ (0 : Int)) = false, Contract Proofs.Tryd.prog glob 57 [bookD b, D.int .i64 (fr + k)] (bookD b2), Contract Proofs.Tryd.prog glob 56 [bookD b2] (D.int .i64 late), decide (late ≥ (0 : Int)) = true, decide (late ≥ (0 : Int)) = true, decide (late ≥ (0 : Int)) = true, decide (late ≥ (0 : Int)) = true, decide (late < best) = true, decide (late < best) = true, decide (late < best) = true, decide (late < best) = true, decide (late < best) = true, decide (late ≥ (0 : Int)) = true, decide (late < best) = true, decide (late ≥ (0 : Int)) = true, Contract Proofs.Tryd.prog glob 30 [] (D.bool true)], D.bool true) := by kernel_rfl
theorem cturn_eq0 (b : Book) (n : Int) (day was k z z2 late best fr : Int) (i : Nat) (b1 b2 : Book) :
    callF (mk Proofs.Tryd.prog (lookN types) glob 134) [(21, false), (31, false), (76, false), (80, false), (104, false), (112, true), (116, false), (120, true), (131, true)] [(14, .bool true), (29, .int .i64 was), (61, bookD b1), (62, .int .i64 best), (67, .bool true), (73, .int .i64 z), (98, .int .i64 k), (103, .int .i64 z2), (105, .bool true), (108, bookD b2), (109, .int .i64 late), (132, .bool true), (25, .tup [.int .i64 day, .int .i64 0])] [(0, (cturn_K0, (.normal, cturn_S0 b n day 0 was i fr)))] (body Proofs.Tryd.f11) [.tmp 4] [bookD b, .int .i64 n] =
      some ([Contract Proofs.Tryd.prog glob 33 [bookD b] (D.bool true), ((Nat.cast : Nat → Int) (List.length (Book.turns b)) == (4 : Int)) = false, Contract Proofs.Tryd.prog glob 54 [bookD b] (D.tup [D.int .i64 day, D.int .i64 (0 : Int)]), Contract Proofs.Tryd.prog glob 56 [bookD b] (D.int .i64 was), decide (was < (0 : Int)) = false, LoopT Proofs.Tryd.prog glob 134 (Code.at [1, 1, 1, 1, 1, 0, 1] (body Proofs.Tryd.f11)) [(.tmp 1, .d (D.int .i64 n)), (.tmp 2, .d (D.ptr 2 0)), (.tmp 5, .d (D.int .i64 day)), (.tmp 6, .d (D.int .i64 (0 : Int))), (.tmp 7, .d (D.int .i64 was)), (.tmp 8, .d (D.int .i64 (1 : Int))), (.tmp 9, .d (D.int .i64 (0 : Int))), (.box 2, .bx (some (Box.mk false (cellsOf (bookD b)))))] Ex.normal (cturn_S0 b n day (0 : Int) was i fr), Contract Proofs.Tryd.prog glob 57 [bookD b, D.int .i64 day] (bookD b1), Contract Proofs.Tryd.prog glob 56 [bookD b1] (D.int .i64 best), Contract Proofs.Tryd.prog glob 50 [D.int .i64 day, D.int .i64 fr, D.int .i64 (Book.days b)] (D.bool true), Contract Proofs.Tryd.prog glob 46 [D.sl false E.int (Book.turns b), D.int .i64 day] (D.int .i64 z), decide (z ≥ (0 : Int)) = false, decide (z ≥ (0 : Int)) = false, decide (z ≥ (0 : Int)) = false, decide (z ≥ (0 : Int)) = false, decide (best ≤ was) = false, inI64 (Book.days b - fr), inI64 (Book.days b - fr + (1 : Int)), Contract Proofs.Tryd.prog glob 39 [D.int .i64 n, D.int .i64 (Book.days b - fr + (1 : Int))] (D.int .i64 k), inI64 (fr + k), Contract Proofs.Tryd.prog glob 46 [D.sl false E.int (Book.turns b), D.int .i64 (fr + k)] (D.int .i64 z2), decide (z2 ≥ (0 : Int)) = false, Contract Proofs.Tryd.prog glob 57 [bookD b, D.int .i64 (fr + k)] (bookD b2), Contract Proofs.Tryd.prog glob 56 [bookD b2] (D.int .i64 late), decide (late ≥ (0 : Int)) = true, decide (late ≥ (0 : Int)) = true, decide (late ≥ (0 : Int)) = true, decide (late ≥ (0 : Int)) = true, decide (late < best) = false, decide (late < best) = false, decide (late < best) = false, decide (late < best) = false, (late == best) = true, (late == best) = true, (late == best) = true, (late == best) = true, decide (late < best) = false, (late == best) = true, decide (late ≥ (0 : Int)) = true, decide (late < best) = false, decide (late ≥ (0 : Int)) = true, decide (fr + k ≥ day) = true, Contract Proofs.Tryd.prog glob 30 [] (D.bool true), decide (fr + k ≥ day) = true], D.bool true) := by kernel_rfl
theorem cturn_has4 (b : Book) (n : Int) (day was k z z2 late best fr : Int) (i : Nat) (b1 b2 : Book) :
    callF (mk Proofs.Tryd.prog (lookN types) glob 134) [(21, false), (31, false), (104, true)] [(14, .bool true), (29, .int .i64 was), (61, bookD b1), (62, .int .i64 best), (67, .bool true), (73, .int .i64 z), (98, .int .i64 k), (103, .int .i64 z2), (105, .bool true), (108, bookD b2), (109, .int .i64 late), (132, .bool true), (25, .tup [.int .i64 0, .int .i64 4])] [(0, (cturn_K0, (.normal, cturn_S0 b n 0 4 was i fr)))] (body Proofs.Tryd.f11) [.tmp 4] [bookD b, .int .i64 n] =
      some ([Contract Proofs.Tryd.prog glob 33 [bookD b] (D.bool true), ((Nat.cast : Nat → Int) (List.length (Book.turns b)) == (4 : Int)) = false, Contract Proofs.Tryd.prog glob 54 [bookD b] (D.tup [D.int .i64 (0 : Int), D.int .i64 (4 : Int)]), Contract Proofs.Tryd.prog glob 56 [bookD b] (D.int .i64 was), decide (was < (0 : Int)) = false, LoopT Proofs.Tryd.prog glob 134 (Code.at [1, 1, 1, 1, 1, 0, 1] (body Proofs.Tryd.f11)) [(.tmp 1, .d (D.int .i64 n)), (.tmp 2, .d (D.ptr 2 0)), (.tmp 5, .d (D.int .i64 (0 : Int))), (.tmp 6, .d (D.int .i64 (4 : Int))), (.tmp 7, .d (D.int .i64 was)), (.tmp 8, .d (D.int .i64 (1 : Int))), (.tmp 9, .d (D.int .i64 (0 : Int))), (.box 2, .bx (some (Box.mk false (cellsOf (bookD b)))))] Ex.normal (cturn_S0 b n (0 : Int) (4 : Int) was i fr), inI64 (Book.days b - fr), inI64 (Book.days b - fr + (1 : Int)), Contract Proofs.Tryd.prog glob 39 [D.int .i64 n, D.int .i64 (Book.days b - fr + (1 : Int))] (D.int .i64 k), inI64 (fr + k), Contract Proofs.Tryd.prog glob 46 [D.sl false E.int (Book.turns b), D.int .i64 (fr + k)] (D.int .i64 z2), decide (z2 ≥ (0 : Int)) = true, Contract Proofs.Tryd.prog glob 30 [] (D.bool true)], D.bool true) := by kernel_rfl
theorem cturn_lt4 (b : Book) (n : Int) (day was k z z2 late best fr : Int) (i : Nat) (b1 b2 : Book) :
    callF (mk Proofs.Tryd.prog (lookN types) glob 134) [(21, false), (31, false), (104, false), (112, true), (116, true)] [(14, .bool true), (29, .int .i64 was), (61, bookD b1), (62, .int .i64 best), (67, .bool true), (73, .int .i64 z), (98, .int .i64 k), (103, .int .i64 z2), (105, .bool true), (108, bookD b2), (109, .int .i64 late), (132, .bool true), (25, .tup [.int .i64 0, .int .i64 4])] [(0, (cturn_K0, (.normal, cturn_S0 b n 0 4 was i fr)))] (body Proofs.Tryd.f11) [.tmp 4] [bookD b, .int .i64 n] =
      some ([Contract Proofs.Tryd.prog glob 33 [bookD b] (D.bool true), ((Nat.cast : Nat → Int) (List.length (Book.turns b)) == (4 : Int)) = false, Contract Proofs.Tryd.prog glob 54 [bookD b] (D.tup [D.int .i64 (0 : Int), D.int .i64 (4 : Int)]), Contract Proofs.Tryd.prog glob 56 [bookD b] (D.int .i64 was), decide (was < (0 : Int)) = false, LoopT Proofs.Tryd.prog glob 134 (Code.at [1, 1, 1, 1, 1, 0, 1] (body Proofs.Tryd.f11)) [(.tmp 1, .d (D.int .i64 n)), (.tmp 2, .d (D.ptr 2 0)), (.tmp 5, .d (D.int .i64 (0 : Int))), (.tmp 6, .d (D.int .i64 (4 : Int))), (.tmp 7, .d (D.int .i64 was)), (.tmp 8, .d (D.int .i64 (1 : Int))), (.tmp 9, .d (D.int .i64 (0 : Int))), (.box 2, .bx (some (Box.mk false (cellsOf (bookD b)))))] Ex.normal (cturn_S0 b n (0 : Int) (4 : Int) was i fr), inI64 (Book.days b - fr), inI64 (Book.days b - fr + (1 : Int)), Contract Proofs.Tryd.prog glob 39 [D.int .i64 n, D.int .i64 (Book.days b - fr + (1 : Int))] (D.int .i64 k), inI64 (fr + k), Contract Proofs.Tryd.prog glob 46 [D.sl false E.int (Book.turns b), D.int .i64 (fr + k)] (D.int .i64 z2), decide (z2 ≥ (0 : Int)) = false, Contract Proofs.Tryd.prog glob 57 [bookD b, D.int .i64 (fr + k)] (bookD b2), Contract Proofs.Tryd.prog glob 56 [bookD b2] (D.int .i64 late), decide (late ≥ (0 : Int)) = true, decide (late ≥ (0 : Int)) = true, decide (late ≥ (0 : Int)) = true, decide (late ≥ (0 : Int)) = true, decide (late < was) = true, decide (late < was) = true, decide (late < was) = true, decide (late < was) = true, decide (late < was) = true, decide (late ≥ (0 : Int)) = true, decide (late < was) = true, decide (late ≥ (0 : Int)) = true, Contract Proofs.Tryd.prog glob 30 [] (D.bool true)], D.bool true) := by kernel_rfl
theorem cturn_eq4 (b : Book) (n : Int) (day was k z z2 late best fr : Int) (i : Nat) (b1 b2 : Book) :
    callF (mk Proofs.Tryd.prog (lookN types) glob 134) [(21, false), (31, false), (104, false), (112, true), (116, false), (120, true)] [(14, .bool true), (29, .int .i64 was), (61, bookD b1), (62, .int .i64 best), (67, .bool true), (73, .int .i64 z), (98, .int .i64 k), (103, .int .i64 z2), (105, .bool true), (108, bookD b2), (109, .int .i64 late), (132, .bool true), (25, .tup [.int .i64 0, .int .i64 4])] [(0, (cturn_K0, (.normal, cturn_S0 b n 0 4 was i fr)))] (body Proofs.Tryd.f11) [.tmp 4] [bookD b, .int .i64 n] =
      some ([Contract Proofs.Tryd.prog glob 33 [bookD b] (D.bool true), ((Nat.cast : Nat → Int) (List.length (Book.turns b)) == (4 : Int)) = false, Contract Proofs.Tryd.prog glob 54 [bookD b] (D.tup [D.int .i64 (0 : Int), D.int .i64 (4 : Int)]), Contract Proofs.Tryd.prog glob 56 [bookD b] (D.int .i64 was), decide (was < (0 : Int)) = false, LoopT Proofs.Tryd.prog glob 134 (Code.at [1, 1, 1, 1, 1, 0, 1] (body Proofs.Tryd.f11)) [(.tmp 1, .d (D.int .i64 n)), (.tmp 2, .d (D.ptr 2 0)), (.tmp 5, .d (D.int .i64 (0 : Int))), (.tmp 6, .d (D.int .i64 (4 : Int))), (.tmp 7, .d (D.int .i64 was)), (.tmp 8, .d (D.int .i64 (1 : Int))), (.tmp 9, .d (D.int .i64 (0 : Int))), (.box 2, .bx (some (Box.mk false (cellsOf (bookD b)))))] Ex.normal (cturn_S0 b n (0 : Int) (4 : Int) was i fr), inI64 (Book.days b - fr), inI64 (Book.days b - fr + (1 : Int)), Contract Proofs.Tryd.prog glob 39 [D.int .i64 n, D.int .i64 (Book.days b - fr + (1 : Int))] (D.int .i64 k), inI64 (fr + k), Contract Proofs.Tryd.prog glob 46 [D.sl false E.int (Book.turns b), D.int .i64 (fr + k)] (D.int .i64 z2), decide (z2 ≥ (0 : Int)) = false, Contract Proofs.Tryd.prog glob 57 [bookD b, D.int .i64 (fr + k)] (bookD b2), Contract Proofs.Tryd.prog glob 56 [bookD b2] (D.int .i64 late), decide (late ≥ (0 : Int)) = true, decide (late ≥ (0 : Int)) = true, decide (late ≥ (0 : Int)) = true, decide (late ≥ (0 : Int)) = true, decide (late < was) = false, decide (late < was) = false, decide (late < was) = false, decide (late < was) = false, (late == was) = true, (late == was) = true, (late == was) = true, (late == was) = true, decide (late < was) = false, (late == was) = true, decide (late ≥ (0 : Int)) = true, decide (late < was) = false, decide (late ≥ (0 : Int)) = true, Contract Proofs.Tryd.prog glob 30 [] (D.bool true)], D.bool true) := by kernel_rfl
end Go.Di

