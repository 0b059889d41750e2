/- Part 26: an interpreter over plain data for this code, with the proof that it says what the model does, and the contracts of the functions. No condition. -/
import Derived.Test.YtfkmodcjddfeiaaDoorDi25
set_option linter.unusedVariables false
set_option linter.unusedSimpArgs false
namespace Go.Di
open Proofs

/-! ### A book with a turn more -/
def sel (p : Int → Bool) : Nat → List Int
 | 0 => []
 | i + 1 => if p ((i : Int) + 1) = true then sel p i ++ [(i : Int) + 1] else sel p i
theorem sel_mem (p : Int → Bool) : ∀ (n : Nat) (x : Int),x ∈ sel p n ↔ 1 ≤ x ∧ x ≤ n ∧ p x = true
 | 0,x => by simp only [sel,List.not_mem_nil,false_iff]; omega
 | n + 1,x => by
  have ih := sel_mem p n x
  simp only [sel]
  by_cases h : p ((n : Int) + 1) = true
  ·rw [if_pos h,List.mem_append,ih,List.mem_singleton]
   constructor
   ·rintro (⟨h1,h2,h3⟩ | rfl)
    ·exact ⟨h1,by omega,h3⟩
    ·exact ⟨by omega,by omega,h⟩
   ·rintro ⟨h1,h2,h3⟩
    by_cases e : x = n + 1
    ·exact .inr e
    ·exact .inl ⟨h1,by omega,h3⟩
  ·rw [if_neg h,ih]
   constructor
   ·rintro ⟨h1,h2,h3⟩
    exact ⟨h1,by omega,h3⟩
   ·rintro ⟨h1,h2,h3⟩
    refine ⟨h1,?_,h3⟩
    by_cases e : x = n + 1
    ·subst e; exact absurd h3 h
    ·omega
theorem sel_up (p : Int → Bool) : ∀ n : Nat,Up ((n : Int) + 1) 1 (sel p n)
 | 0 => trivial
 | n + 1 => by
  have ih := sel_up p n
  simp only [sel]
  split
  ·exact Up.snoc (Int.le_refl _) (by omega) (by omega) ih (by omega)
  ·exact Up.mono (by omega) ih
theorem sel_len (p : Int → Bool) : ∀ n : Nat,(sel p n).length ≤ n
 | 0 => by simp [sel]
 | n + 1 => by
  have ih := sel_len p n
  simp only [sel]
  split
  ·simp only [List.length_append,List.length_singleton]; omega
  ·omega
theorem up_same {n : Int} : ∀ {l m : List Int} {a : Int},Up n a l → Up n a m → (∀ x,x ∈ l ↔ x ∈ m) → l = m
 | [],[],_,_,_,_ => rfl
 | [],y :: m,_,_,_,h => by have := (h y).2 (by simp); cases this
 | x :: l,[],_,_,_,h => by have := (h x).1 (by simp); cases this
 | x :: l,y :: m,a,⟨h1,h2,h3⟩,⟨g1,g2,g3⟩,h => by
  have e : x = y := by
   have q1 := (h x).1 (by simp)
   have q2 := (h y).2 (by simp)
   rcases List.mem_cons.1 q1 with e | q1
   ·exact e
   ·rcases List.mem_cons.1 q2 with e | q2
    ·exact e.symm
    ·have := (g3.mem q1).1
     have := (h3.mem q2).1
     omega
  subst e
  congr 1
  refine up_same h3 g3 fun z => ?_
  have hz := h z
  simp only [List.mem_cons] at hz
  constructor
  ·intro q
   have := (h3.mem q).1
   rcases hz.1 (.inr q) with e | e
   ·omega
   ·exact e
  ·intro q
   have := (g3.mem q).1
   rcases hz.2 (.inr q) with e | e
   ·omega
   ·exact e
theorem up_count {n : Int} : ∀ {l : List Int} {a : Int} {m : List Int},Up n a l → (∀ x ∈ l,x ∈ m) → l.length ≤ m.length
 | [],_,_,_,_ => by simp
 | x :: l,a,m,⟨h1,h2,h3⟩,h => by
  have hx : x ∈ m := h x (by simp)
  have := up_count (m := m.erase x) h3 fun y hy => by
   have hy1 := (h3.mem hy).1
   exact (List.mem_erase_of_ne (by omega)).2 (h y (by simp [hy]))
  rw [List.length_erase_of_mem hx] at this
  have : 0 < m.length := List.length_pos_of_mem hx
  simp only [List.length_cons]
  omega
theorem rises_up {days : Int} : ∀ (l : List Int) (a : Int),(l.foldl (turnF days) (true,a)).1 = true ↔ Up (days + 1) (a + 1) l
 | [],a => by simp [Up]
 | t :: l,a => by
  have ih := rises_up (days := days) l t
  simp only [List.foldl_cons,turnF,Up]
  rw [turns_and,Bool.and_eq_true,ih,Bool.true_and,within_iff]
  constructor
  ·rintro ⟨⟨h1,h2⟩,h3⟩; exact ⟨h1,by omega,h3⟩
  ·rintro ⟨h1,h2,h3⟩; exact ⟨⟨h1,by omega⟩,h3⟩
def withP (b : Book) (day : Int) (d : Int) : Bool := (d == day) || decide (d ∈ b.turns)
def withF (b : Book) (day : Int) : Book := ⟨b.secs,sel (withP b day) b.days.toNat,b.svs,b.rule,b.days⟩
theorem Valid.up {b : Book} (hV : Valid b) : Up (b.days + 1) 1 b.turns := by
 have := hV.rises
 unfold risesF at this
 rw [rises_up] at this
 exact this
theorem with_valid {b : Book} (hV : Valid b) (h3 : b.turns.length ≤ 3) (day : Int) : Valid (withF b day) := by
 have hdd := hV.days
 have hu := sel_up (withP b day) b.days.toNat
 rw [show ((b.days.toNat : Nat) : Int) = b.days by omega] at hu
 refine ⟨hV.secs,hV.days,hV.rule,?_,hV.svs,hV.sec,hV.thick,?_,hV.sv⟩
 ·have := up_count (m := day :: b.turns) hu fun x hx => by
   have := ((sel_mem _ _ _).1 hx).2.2
   unfold withP at this
   rw [Bool.or_eq_true,beq_iff_eq,decide_eq_true_eq] at this
   exact List.mem_cons.2 this
  simp only [List.length_cons] at this
  show (sel (withP b day) b.days.toNat).length ≤ 4
  omega
 ·show ((sel (withP b day) b.days.toNat).foldl (turnF b.days) (true,0)).1 = true
  rw [rises_up]
  exact hu
theorem flips_sel (p : Int → Bool) (d : Int) (k : Nat) : flips (sel p (k + 1)) d = Bool.xor (flips (sel p k) d) (p ((k : Int) + 1) && decide ((k : Int) + 1 ≤ d)) := by
 simp only [sel]
 by_cases h : p ((k : Int) + 1) = true
 ·rw [if_pos h,flips_append,flips_one,h,Bool.true_and]
 ·rw [if_neg h]
  have : p ((k : Int) + 1) = false := by simpa using h
  rw [this]; simp
theorem flips_with {b : Book} {day : Int} (hn : day ∉ b.turns) (d : Int) : ∀ k : Nat,flips (sel (withP b day) k) d = Bool.xor (flips (sel (fun e => decide (e ∈ b.turns)) k) d) (decide (1 ≤ day ∧ day ≤ k ∧ day ≤ d))
 | 0 => by
  rw [decide_eq_false (by omega)]
  simp [sel]
 | k + 1 => by
  rw [flips_sel,flips_sel,flips_with hn d k]
  by_cases e : (k : Int) + 1 = day
  ·have p1 : withP b day ((k : Int) + 1) = true := by unfold withP; rw [e]; simp
   have p2 : decide ((k : Int) + 1 ∈ b.turns) = false := decide_eq_false (by rw [e]; exact hn)
   rw [p1,p2,decide_eq_false (p := 1 ≤ day ∧ day ≤ k ∧ day ≤ d) (by omega)]
   have : decide ((k : Int) + 1 ≤ d) = decide (1 ≤ day ∧ day ≤ ((k + 1 : Nat) : Int) ∧ day ≤ d) := by
    rw [decide_eq_decide]; omega
   rw [this]
   simp
  ·have p1 : withP b day ((k : Int) + 1) = decide ((k : Int) + 1 ∈ b.turns) := by
    unfold withP
    rw [show ((k : Int) + 1 == day) = false by simpa using e]
    simp
   have : decide (1 ≤ day ∧ day ≤ (k : Int) ∧ day ≤ d) = decide (1 ≤ day ∧ day ≤ ((k + 1 : Nat) : Int) ∧ day ≤ d) := by
    rw [decide_eq_decide]; omega
   rw [p1,this]
   simp only [Bool.xor_assoc]
   congr 1
   exact Bool.xor_comm _ _
theorem sel_turns {b : Book} (hV : Valid b) : sel (fun e => decide (e ∈ b.turns)) b.days.toNat = b.turns := by
 have hdd := hV.days
 have hu := sel_up (fun e => decide (e ∈ b.turns)) b.days.toNat
 rw [show ((b.days.toNat : Nat) : Int) = b.days by omega] at hu
 refine up_same hu hV.up fun x => ?_
 rw [sel_mem,decide_eq_true_eq]
 constructor
 ·exact fun h => h.2.2
 ·intro h
  have := hV.up.mem h
  exact ⟨by omega,by omega,h⟩
theorem flips_more {b : Book} (hV : Valid b) {day : Int} (hd : 1 ≤ day ∧ day ≤ b.days) (hn : day ∉ b.turns) (d : Int) : flips (withF b day).turns d = flips (b.turns ++ [day]) d ∧ (d < day → flips (withF b day).turns d = flips b.turns d) := by
 have hdd := hV.days
 have e : flips (withF b day).turns d = Bool.xor (flips b.turns d) (decide (1 ≤ day ∧ day ≤ b.days ∧ day ≤ d)) := by
  have := flips_with hn d b.days.toNat
  rw [sel_turns hV,show ((b.days.toNat : Nat) : Int) = b.days by omega] at this
  exact this
 constructor
 ·rw [e,flips_append,flips_one]
  congr 1
  rw [decide_eq_decide]
  omega
 ·intro h
  rw [e,decide_eq_false (by omega)]
  simp
theorem with_sat {b : Book} (hV : Valid b) {day : Int} (hd : 1 ≤ day ∧ day ≤ b.days) (hn : day ∉ b.turns) (hs : ∀ y ∈ b.svs,y.d ≤ day) (x : W4) (k t : Int) (y : Sv) (hy : y ∈ b.svs) : SatY (withF b day) x k t y ↔ SatY b x k t y := by
 unfold SatY
 have := hs y hy
 have e : wornF b.secs.length x.a x.b x.c x.d (withF b day).turns k y.d.toNat = wornF b.secs.length x.a x.b x.c x.d b.turns k y.d.toNat :=
  worn_flips _ fun e he => (flips_more hV hd hn e).2 (by omega)
 show (y.s = k → y.r - y.e + wornF b.secs.length x.a x.b x.c x.d (withF b day).turns k y.d.toNat ≤ t ∧ t ≤ y.r + y.e + wornF b.secs.length x.a x.b x.c x.d (withF b day).turns k y.d.toNat) ↔ _
 rw [e]
theorem with_feas {b : Book} (hV : Valid b) {day : Int} (hd : 1 ≤ day ∧ day ≤ b.days) (hn : day ∉ b.turns) (hs : ∀ y ∈ b.svs,y.d ≤ day) {T : Nat → Int} {x : W4} : Feas (withF b day) [] T x ↔ Feas b [] T x := by
 rw [feas_nil,feas_nil]
 constructor
 ·rintro ⟨h,h'⟩
  exact ⟨⟨h.wear,h.zero,h.thick⟩,fun y hy k hk => (with_sat hV hd hn hs x k (T k) y hy).1 (h' y hy k hk)⟩
 ·rintro ⟨h,h'⟩
  exact ⟨⟨h.wear,h.zero,h.thick⟩,fun y hy k hk => (with_sat hV hd hn hs x k (T k) y hy).2 (h' y hy k hk)⟩
theorem with_base {b : Book} (hV : Valid b) (day : Int) : Base (withF b day) := ⟨hV.base.n4,hV.base.wlo,hV.base.svs0⟩
theorem with_can {b : Book} (hV : Valid b) {day : Int} (hd : 1 ≤ day ∧ day ≤ b.days) (hn : day ∉ b.turns) (hs : ∀ y ∈ b.svs,y.d ≤ day) : truthsF (withF b day) [] ≠ [] ↔ truthsF b [] ≠ [] := by
 rw [can_iff (with_base hV day),can_iff hV.base]
 simp only [with_feas hV hd hn hs]
theorem with_thick {b : Book} (hV : Valid b) {day : Int} (hd : 1 ≤ day ∧ day ≤ b.days) (hn : day ∉ b.turns) (hs : ∀ y ∈ b.svs,y.d ≤ day) (hne : truthsF b [] ≠ []) (k : Nat) (hk : k < b.secs.length) (d : Int) :
  thickF b (truthsF b []) (b.turns ++ [day]) k d = thickF (withF b day) (truthsF (withF b day) []) (withF b day).turns k d := by
 have e : ∀ x : W4,wornX b (b.turns ++ [day]) x k d = wornX (withF b day) (withF b day).turns x k d := fun x =>
  (worn_flips _ fun e he => (flips_more hV hd hn e).1).symm
 exact thick_same hV.base (with_base hV day) hk hk hne ((with_can hV hd hn hs).2 hne) (fun T x h => ⟨T,x,(with_feas hV hd hn hs).1 h,by rw [e]⟩) (fun T x h => ⟨T,x,(with_feas hV hd hn hs).2 h,by rw [e]⟩)
theorem with_thin {b : Book} (hV : Valid b) {day : Int} (hd : 1 ≤ day ∧ day ≤ b.days) (hn : day ∉ b.turns) (hs : ∀ y ∈ b.svs,y.d ≤ day) (hne : truthsF b [] ≠ []) (k : Nat) (hk : k < b.secs.length) :
  thinF (withF b day) (truthsF (withF b day) []) (withF b day).turns k = thinF b (truthsF b []) (b.turns ++ [day]) k := by
 have := findF_same (p := mayF (withF b day) (truthsF (withF b day) []) (withF b day).turns k) (q := mayF b (truthsF b []) (b.turns ++ [day]) k) (b.days + 1).toNat 0 fun i _ _ => by
  unfold mayF
  rw [with_thick hV hd hn hs hne k hk i]
  rfl
 show ((findF (mayF (withF b day) (truthsF (withF b day) []) (withF b day).turns k) (b.days + 1).toNat 0 : Nat) : Int) = ((findF (mayF b (truthsF b []) (b.turns ++ [day]) k) (b.days + 1).toNat 0 : Nat) : Int)
 omega
theorem with_soonest {b : Book} (hV : Valid b) {day : Int} (hd : 1 ≤ day ∧ day ≤ b.days) (hn : day ∉ b.turns) (hs : ∀ y ∈ b.svs,y.d ≤ day) (hne : truthsF b [] ≠ []) : ∀ n : Nat,n ≤ b.secs.length →
  soonestF (withF b day) (truthsF (withF b day) []) (withF b day).turns n = soonestF b (truthsF b []) (b.turns ++ [day]) n
 | 0,_ => rfl
 | n + 1,h => by
  simp only [soonestF]
  rw [with_soonest hV hd hn hs hne n (by omega),with_thin hV hd hn hs hne n (by omega)]
theorem soonest_nonneg {b : Book} (hd : 0 ≤ b.days) (ts : List TrC) (turns : List Int) : ∀ n,0 ≤ soonestF b ts turns n
 | 0 => by simp only [soonestF]; omega
 | n + 1 => by
  have := soonest_nonneg hd ts turns n
  have h2 : 0 ≤ thinF b ts turns n := by unfold thinF; omega
  simp only [soonestF,mn]
  split <;> omega

/-! ### The turn that is told -/
theorem from_le {b : Book} : ∀ y ∈ b.svs,y.d ≤ fromF b := by
 have : ∀ (l : List Sv) (a : Int),a ≤ l.foldl (fun n y => mx n y.d) a ∧ ∀ y ∈ l,y.d ≤ l.foldl (fun n y => mx n y.d) a := by
  intro l
  induction l with
  | nil => exact fun a => ⟨Int.le_refl _,fun y hy => by cases hy⟩
  | cons z l ih =>
   intro a
   obtain ⟨h1,h2⟩ := ih (mx a z.d)
   have := mx_ge (a := a) (b := z.d)
   simp only [List.foldl_cons]
   refine ⟨by omega,fun y hy => ?_⟩
   rcases List.mem_cons.1 hy with rfl | hy
   ·omega
   ·exact h2 y hy
 unfold fromF fromGo
 rw [List.take_length]
 exact (this b.svs 1).2
theorem turn_spec (b : Book) (ts : List TrC) (fr : Int) (h1 : 1 ≤ fr) : ∀ i : Nat,
  ((turnGo b ts fr i).1 = 0 ∧ (turnGo b ts fr i).2 = soonestF b ts b.turns b.secs.length ∧ ∀ d,fr ≤ d → d < fr + i → d ∉ b.turns → soonestF b ts (b.turns ++ [d]) b.secs.length ≤ (turnGo b ts fr i).2) ∨
  (fr ≤ (turnGo b ts fr i).1 ∧ (turnGo b ts fr i).1 < fr + i ∧ (turnGo b ts fr i).1 ∉ b.turns ∧ (turnGo b ts fr i).2 = soonestF b ts (b.turns ++ [(turnGo b ts fr i).1]) b.secs.length ∧ soonestF b ts b.turns b.secs.length < (turnGo b ts fr i).2 ∧
   ∀ d,fr ≤ d → d < fr + i → d ∉ b.turns → soonestF b ts (b.turns ++ [d]) b.secs.length ≤ (turnGo b ts fr i).2 ∧ (d < (turnGo b ts fr i).1 → soonestF b ts (b.turns ++ [d]) b.secs.length < (turnGo b ts fr i).2))
 | 0 => .inl ⟨rfl,rfl,fun d h1 h2 => by omega⟩
 | i + 1 => by
  have ih := turn_spec b ts fr h1 i
  simp only [turnGo]
  generalize turnGo b ts fr i = p at ih
  unfold turnStep
  by_cases hm : fr + (i : Int) ∈ b.turns
  ·rw [if_pos hm]
   have hd : ∀ d,d < fr + ((i + 1 : Nat) : Int) → d ∉ b.turns → d < fr + (i : Int) := fun d h h' => by
    by_cases e : d = fr + (i : Int)
    ·subst e; exact absurd hm h'
    ·omega
   rcases ih with ⟨a1,a2,a3⟩ | ⟨a1,a2,a3,a4,a5,a6⟩
   ·exact .inl ⟨a1,a2,fun d d1 d2 d3 => a3 d d1 (hd d d2 d3) d3⟩
   ·exact .inr ⟨a1,by omega,a3,a4,a5,fun d d1 d2 d3 => a6 d d1 (hd d d2 d3) d3⟩
  ·rw [if_neg hm]
   by_cases hg : soonestF b ts (b.turns ++ [fr + (i : Int)]) b.secs.length > p.2
   ·rw [if_pos hg]
    refine .inr ⟨by show fr ≤ fr + (i : Int); omega,by show fr + (i : Int) < _; omega,hm,rfl,?_,fun d d1 d2 d3 => ?_⟩
    ·show soonestF b ts b.turns b.secs.length < soonestF b ts (b.turns ++ [fr + (i : Int)]) b.secs.length
     rcases ih with ⟨a1,a2,a3⟩ | ⟨a1,a2,a3,a4,a5,a6⟩ <;> omega
    ·show soonestF b ts (b.turns ++ [d]) b.secs.length ≤ soonestF b ts (b.turns ++ [fr + (i : Int)]) b.secs.length ∧ (d < fr + (i : Int) → soonestF b ts (b.turns ++ [d]) b.secs.length < soonestF b ts (b.turns ++ [fr + (i : Int)]) b.secs.length)
     by_cases e : d = fr + (i : Int)
     ·subst e
      exact ⟨Int.le_refl _,fun h => absurd h (by omega)⟩
     ·have : soonestF b ts (b.turns ++ [d]) b.secs.length ≤ p.2 := by
       rcases ih with ⟨a1,a2,a3⟩ | ⟨a1,a2,a3,a4,a5,a6⟩
       ·exact a3 d d1 (by omega) d3
       ·exact (a6 d d1 (by omega) d3).1
      exact ⟨by omega,fun _ => by omega⟩
   ·rw [if_neg hg]
    rcases ih with ⟨a1,a2,a3⟩ | ⟨a1,a2,a3,a4,a5,a6⟩
    ·refine .inl ⟨a1,a2,fun d d1 d2 d3 => ?_⟩
     by_cases e : d = fr + (i : Int)
     ·subst e; omega
     ·exact a3 d d1 (by omega) d3
    ·refine .inr ⟨a1,by omega,a3,a4,a5,fun d d1 d2 d3 => ?_⟩
     by_cases e : d = fr + (i : Int)
     ·subst e; exact ⟨by omega,fun h => by omega⟩
     ·exact a6 d d1 (by omega) d3
end Go.Di

namespace Go.Di
open Proofs
/-! ### A chain that needs nothing -/
/-! ### The first day on which a section must be cut -/
/-! ### The first day without works -/
def thin7F (x : FBook) : Int := if canF x.chain = true then soonestF x.chain (truthsF x.chain []) x.chain.turns x.chain.secs.length else -1
theorem soonest_min (b : Book) (ts : List TrC) (turns : List Int) : ∀ n : Nat,(∀ k : Nat,k < n → soonestF b ts turns n ≤ thinF b ts turns k) ∧ (soonestF b ts turns n = b.days + 1 ∨ ∃ k : Nat,k < n ∧ soonestF b ts turns n = thinF b ts turns k)
 | 0 => ⟨fun k h => by omega,.inl rfl⟩
 | n + 1 => by
  obtain ⟨h1,h2⟩ := soonest_min b ts turns n
  simp only [soonestF]
  have hm : mn (soonestF b ts turns n) (thinF b ts turns n) ≤ soonestF b ts turns n ∧ mn (soonestF b ts turns n) (thinF b ts turns n) ≤ thinF b ts turns n ∧ (mn (soonestF b ts turns n) (thinF b ts turns n) = soonestF b ts turns n ∨ mn (soonestF b ts turns n) (thinF b ts turns n) = thinF b ts turns n) := by unfold mn; split <;> omega
  refine ⟨fun k hk => ?_,?_⟩
  ·by_cases e : k = n
   ·subst e; exact hm.2.1
   ·have := h1 k (by omega); omega
  ·rcases hm.2.2 with h | h
   ·rw [h]
    rcases h2 with h2 | ⟨k,h3,h4⟩
    ·exact .inl h2
    ·exact .inr ⟨k,by omega,h4⟩
   ·exact .inr ⟨n,by omega,h⟩
theorem soon_thin {x : FBook} (hV : FValid x) : soonestF x.chain (truthsF x.chain []) x.chain.turns x.chain.secs.length = match fthinF x (knowTh x) (knowWr x) [] with
  | some (d,_) => (d : Int)
  | none => x.chain.days + 1 := by
 have hdd := hV.chain.days
 have hfe := hV.feet
 obtain ⟨h1,h2⟩ := soonest_min x.chain (truthsF x.chain []) x.chain.turns x.chain.secs.length
 cases h : fthinF x (knowTh x) (knowWr x) [] with
 | none =>
  dsimp only
  rcases h2 with h2 | ⟨k,h3,h4⟩
  ·exact h2
  ·rw [h4]; exact first_none (by omega) h (by omega)
 | some p =>
  obtain ⟨d0,s0⟩ := p
  dsimp only
  obtain ⟨f1,f2,f3,f4⟩ := first_some (by omega) h
  have g := h1 s0 (by omega)
  have e3 : thinF x.chain (truthsF x.chain []) x.chain.turns s0 = d0 := f3
  rcases h2 with h2 | ⟨k,h3,h4⟩
  ·omega
  ·have := f4 k (by omega)
   have e : thinK x k = thinF x.chain (truthsF x.chain []) x.chain.turns k := rfl
   omega
end Go.Di

namespace Go.Di
open Proofs
/-- One section that is worn by two each day,and a day to change it. -/
def links7 : FBook := { chain := { secs := [⟨⟨20,21⟩,⟨2,2⟩⟩],turns := [],svs := [],rule := 11,days := 6 },feet := [4],new := 20,opn := [3],stock := 4,make := 0 }
/-- A book whose chain is turned on a day more. -/
def FBook.turnd (x : FBook) (d : Int) : FBook := { x with chain := withF x.chain d }
end Go.Di

namespace Go.Di
open Proofs
theorem links7_fn : FnOk PRG (MF 9) 135 (body Tryd.f135) [.cell 0 84] := by refine ⟨Tryd.f135,?_,?_,?_,?_,?_⟩ <;> kernel_rfl
theorem chg7_fn : FnOk PRG (MF 86) 69 (body Tryd.f69) [.tmp 0] := by refine ⟨Tryd.f69,?_,?_,?_,?_,?_⟩ <;> kernel_rfl
theorem sm7N_fn : FnOk PRG (MF 87) 68 (body Tryd.f68) [.tmp 2] := by refine ⟨Tryd.f68,?_,?_,?_,?_,?_⟩ <;> kernel_rfl
theorem sm7Y_fn : FnOk PRG (MF 87) 68 (body Tryd.f68) [.tmp 2] := by refine ⟨Tryd.f68,?_,?_,?_,?_,?_⟩ <;> kernel_rfl
theorem thn7_fn : FnOk PRG (MF 22) 70 (body Tryd.f70) [.tmp 2] := by refine ⟨Tryd.f70,?_,?_,?_,?_,?_⟩ <;> kernel_rfl
theorem tuA_fn : FnOk PRG (MF 37) 71 (body Tryd.f71) [.cell 4 84] := by refine ⟨Tryd.f71,?_,?_,?_,?_,?_⟩ <;> kernel_rfl
theorem ttur_fn : FnOk PRG (MF 120) 15 (body Tryd.f15) [.tmp 4] := by refine ⟨Tryd.f15,?_,?_,?_,?_,?_⟩ <;> kernel_rfl
theorem tturN_fn : FnOk PRG (MF 120) 15 (body Tryd.f15) [.tmp 4] := by refine ⟨Tryd.f15,?_,?_,?_,?_,?_⟩ <;> kernel_rfl
theorem tturY_fn : FnOk PRG (MF 120) 15 (body Tryd.f15) [.tmp 4] := by refine ⟨Tryd.f15,?_,?_,?_,?_,?_⟩ <;> kernel_rfl
def sm7N_S0 (x : FBook)  : List (Key × Val) :=
 [(.tmp 1,.d (D.ptr 1 0)),
  (.tmp 3,.d (D.bool false)),
  (.tmp 4,.d (D.int .i64 0)),
  (.box 1,.bx (some (Box.mk false (cellsOf (fbookD x)))))]
def sm7N_K0 : List Key := [.tmp 1,.tmp 3,.tmp 4,.box 1]
def sm7Y_S0 (x : FBook) (i : Nat) : List (Key × Val) :=
 [(.tmp 1,.d (D.ptr 1 0)),
  (.tmp 3,.d (.bool true)),
  (.tmp 4,.d (.int .i64 i)),
  (.box 1,.bx (some (Box.mk false (cellsOf (fbookD x)))))]
def sm7Y_K0 : List Key := [.tmp 1,.tmp 3,.tmp 4,.box 1]
def tuB_S0 (x : FBook) (day : Int) (i : Nat) (y : Int) (r : List Int) : List (Key × Val) :=
 [(.tmp 1,.d (D.int .i64 day)),
  (.tmp 2,.d (D.ptr 2 0)),
  (.tmp 4,.d (D.ptr 4 0)),
  (.tmp 5,.d (D.ptr 5 0)),
  (.tmp 6,.d (.int .i64 ((i : Int) + 1))),
  (.box 2,.bx (some (Box.mk false (cellsOf (fbookD x))))),
  (.box 4,.bx (some (Box.mk false [D.nil,D.nil,D.nil,D.int .i64 0,D.int .i64 0,D.nil,D.int .i64 0,D.nil,D.int .i64 0,D.int .i64 0]))),
  (.box 5,.bx (some ⟨false,[.sl false .sec x.chain.secs,.own 33 (y :: r).length,.sl false .sv x.chain.svs,.int .i64 x.chain.rule,.int .i64 x.chain.days,.sl false .int x.feet,.int .i64 x.new,.sl false .int x.opn,.int .i64 x.stock,.int .i64 x.make]⟩)),
  (.obj 33,.ob (some ⟨.int,y :: r⟩))]
def tuB_K0 : List Key := [.tmp 1,.tmp 2,.tmp 4,.tmp 5,.tmp 6,.box 2,.box 4,.box 5,.obj 33]
def tuA_S0 (x : FBook) (day : Int) (i : Nat) : List (Key × Val) :=
 [(.tmp 1,.d (D.int .i64 day)),
  (.tmp 2,.d (D.ptr 2 0)),
  (.tmp 4,.d (D.ptr 4 0)),
  (.tmp 5,.d (D.ptr 5 0)),
  (.tmp 6,.d (.int .i64 ((i : Int) + 1))),
  (.box 2,.bx (some (Box.mk false (cellsOf (fbookD x))))),
  (.box 4,.bx (some (Box.mk false [D.nil,D.nil,D.nil,D.int .i64 0,D.int .i64 0,D.nil,D.int .i64 0,D.nil,D.int .i64 0,D.int .i64 0]))),
  (.box 5,.bx (some (Box.mk false [D.sl false E.sec (Book.secs (FBook.chain x)),D.sl true E.int [],D.sl false E.sv (Book.svs (FBook.chain x)),D.int .i64 (Book.rule (FBook.chain x)),D.int .i64 (Book.days (FBook.chain x)),D.sl false E.int (FBook.feet x),D.int .i64 (FBook.new x),D.sl false E.int (FBook.opn x),D.int .i64 (FBook.stock x),D.int .i64 (FBook.make x)]))),
  (.obj 33,.ob none)]
def tuA_K0 : List Key := [.tmp 1,.tmp 2,.tmp 4,.tmp 5,.tmp 6,.box 2,.box 4,.box 5,.obj 33]
def tturN_S0 (x : FBook) (n : Int) (was : Int) (i : Nat) (fr : Int) : List (Key × Val) :=
 [(.tmp 1,.d (D.int .i64 n)),
  (.tmp 2,.d (D.ptr 2 0)),
  (.tmp 5,.d (D.int .i64 0)),
  (.tmp 6,.d (D.int .i64 4)),
  (.tmp 7,.d (D.int .i64 was)),
  (.tmp 8,.d (.int .i64 fr)),
  (.tmp 9,.d (.int .i64 i)),
  (.box 2,.bx (some (Box.mk false (cellsOf (fbookD x)))))]
def tturN_K0 : List Key := [.tmp 1,.tmp 2,.tmp 5,.tmp 6,.tmp 7,.tmp 8,.tmp 9,.box 2]
def tturY_S0 (x : FBook) (n : Int) (was day : Int) (i : Nat) (fr : Int) : List (Key × Val) :=
 [(.tmp 1,.d (D.int .i64 n)),
  (.tmp 2,.d (D.ptr 2 0)),
  (.tmp 5,.d (D.int .i64 day)),
  (.tmp 6,.d (D.int .i64 0)),
  (.tmp 7,.d (D.int .i64 was)),
  (.tmp 8,.d (.int .i64 fr)),
  (.tmp 9,.d (.int .i64 i)),
  (.box 2,.bx (some (Box.mk false (cellsOf (fbookD x)))))]
def tturY_K0 : List Key := [.tmp 1,.tmp 2,.tmp 5,.tmp 6,.tmp 7,.tmp 8,.tmp 9,.box 2]
theorem sm7N_0_end (x : FBook) :
  runK (MF 87) [] [] [] (Code.at [1,1,0,1,0,0] (body Tryd.f68)) (sm7N_S0 x ) sm7N_K0 =
   some ([],Ex.exit 0,sm7N_S0 x) := by kernel_rfl
theorem sm7Y_0_on (x : FBook) (i : Nat) :
  runK (MF 87) [(65,true)] [(75,.bool true),(84,.bool true)] [] (Code.at [1,1,0,1,0,0] (body Tryd.f68)) (sm7Y_S0 x i) sm7Y_K0 =
   some ([decide ((i : Int) < (List.length (Book.secs (FBook.chain x)) : Int)) = true,(0 : Int) ≤ (i : Int) ∧ (i : Int) < (List.length (Book.secs (FBook.chain x)) : Int),0 + 0 + 2 ≤ 4,CF 117 [D.agg [D.int .i64 (Span.lo (Sec.t (List.getD (Book.secs (FBook.chain x)) (i) (E.z E.sec)))),D.int .i64 (Span.hi (Sec.t (List.getD (Book.secs (FBook.chain x)) (i) (E.z E.sec))))],D.int .i64 0,D.int .i64 200] (D.bool true),(0 : Int) ≤ (i : Int) ∧ (i : Int) < (List.length (Book.secs (FBook.chain x)) : Int),0 + 2 + 2 ≤ 4,CF 117 [D.agg [D.int .i64 (Span.lo (Sec.w (List.getD (Book.secs (FBook.chain x)) (i) (E.z E.sec)))),D.int .i64 (Span.hi (Sec.w (List.getD (Book.secs (FBook.chain x)) (i) (E.z E.sec))))],D.int .i64 0,D.int .i64 3] (D.bool true),inI64 ((i : Int) + (1 : Int))],Ex.normal,sm7Y_S0 x (i + 1)) := by kernel_rfl
theorem sm7Y_0_end (x : FBook) (i : Nat) :
  runK (MF 87) [(65,false)] [] [] (Code.at [1,1,0,1,0,0] (body Tryd.f68)) (sm7Y_S0 x i) sm7Y_K0 =
   some ([decide ((i : Int) < (List.length (Book.secs (FBook.chain x)) : Int)) = false],Ex.exit 0,sm7Y_S0 x i) := by kernel_rfl
theorem tuB_0_eq (x : FBook) (day : Int) (i : Nat) (y : Int) (r : List Int) (z : Int) :
  runK (MF 37) [(14,true),(20,true)] [(25,.int .i64 z)] [] (Code.at [1,1,1,0,1,0,0] (body Tryd.f71)) (tuB_S0 x day i y r) tuB_K0 =
   some ([decide ((i : Int) + (1 : Int) ≤ Book.days (FBook.chain x)) = true,((i : Int) + (1 : Int) == day) = true,((i : Int) + (1 : Int) == day) = true,((i : Int) + (1 : Int) == day) = true,((i : Int) + (1 : Int) == day) = true,((i : Int) + (1 : Int) == day) = true,((i : Int) + (1 : Int) == day) = true,((i : Int) + (1 : Int) == day) = true,List.length (y :: r) = List.length ((y :: r)),List.length ((y :: r) ++ [(i : Int) + (1 : Int)]) * (8 + 1) ≤ 140737488355328,List.length ((y :: r) ++ [(i : Int) + (1 : Int)]) = List.length (((y :: r) ++ [(i : Int) + (1 : Int)])),inI64 ((i : Int) + (1 : Int) + (1 : Int))],Ex.normal,tuB_S0 x day (i + 1) y (r ++ [(i : Int) + 1])) := by kernel_rfl
theorem tuB_0_at (x : FBook) (day : Int) (i : Nat) (y : Int) (r : List Int) (z : Int) :
  runK (MF 37) [(14,true),(20,false),(27,true)] [(25,.int .i64 z)] [] (Code.at [1,1,1,0,1,0,0] (body Tryd.f71)) (tuB_S0 x day i y r) tuB_K0 =
   some ([decide ((i : Int) + (1 : Int) ≤ Book.days (FBook.chain x)) = true,((i : Int) + (1 : Int) == day) = false,((i : Int) + (1 : Int) == day) = false,((i : Int) + (1 : Int) == day) = false,((i : Int) + (1 : Int) == day) = false,((i : Int) + (1 : Int) == day) = false,CF 46 [D.sl false E.int (Book.turns (FBook.chain x)),D.int .i64 ((i : Int) + (1 : Int))] (D.int .i64 z),((i : Int) + (1 : Int) == day) = false,((i : Int) + (1 : Int) == day) = false,decide (z ≥ (0 : Int)) = true,List.length (y :: r) = List.length ((y :: r)),List.length ((y :: r) ++ [(i : Int) + (1 : Int)]) * (8 + 1) ≤ 140737488355328,List.length ((y :: r) ++ [(i : Int) + (1 : Int)]) = List.length (((y :: r) ++ [(i : Int) + (1 : Int)])),inI64 ((i : Int) + (1 : Int) + (1 : Int))],Ex.normal,tuB_S0 x day (i + 1) y (r ++ [(i : Int) + 1])) := by kernel_rfl
theorem tuB_0_no (x : FBook) (day : Int) (i : Nat) (y : Int) (r : List Int) (z : Int) :
  runK (MF 37) [(14,true),(20,false),(27,false)] [(25,.int .i64 z)] [] (Code.at [1,1,1,0,1,0,0] (body Tryd.f71)) (tuB_S0 x day i y r) tuB_K0 =
   some ([decide ((i : Int) + (1 : Int) ≤ Book.days (FBook.chain x)) = true,((i : Int) + (1 : Int) == day) = false,((i : Int) + (1 : Int) == day) = false,((i : Int) + (1 : Int) == day) = false,((i : Int) + (1 : Int) == day) = false,((i : Int) + (1 : Int) == day) = false,CF 46 [D.sl false E.int (Book.turns (FBook.chain x)),D.int .i64 ((i : Int) + (1 : Int))] (D.int .i64 z),((i : Int) + (1 : Int) == day) = false,((i : Int) + (1 : Int) == day) = false,decide (z ≥ (0 : Int)) = false,inI64 ((i : Int) + (1 : Int) + (1 : Int))],Ex.normal,tuB_S0 x day (i + 1) y r) := by kernel_rfl
theorem tuB_0_end (x : FBook) (day : Int) (i : Nat) (y : Int) (r : List Int) :
  runK (MF 37) [(14,false)] [] [] (Code.at [1,1,1,0,1,0,0] (body Tryd.f71)) (tuB_S0 x day i y r) tuB_K0 =
   some ([decide ((i : Int) + (1 : Int) ≤ Book.days (FBook.chain x)) = false],Ex.exit 0,tuB_S0 x day i y r) := by kernel_rfl
theorem tuA_0_eq (x : FBook) (day : Int) (i : Nat) (z : Int) :
  runK (MF 37) [(14,true),(20,true)] [(25,.int .i64 z)] [] (Code.at [1,1,1,0,1,0,0] (body Tryd.f71)) (tuA_S0 x day i) tuB_K0 =
   some ([decide ((i : Int) + (1 : Int) ≤ Book.days (FBook.chain x)) = true,((i : Int) + (1 : Int) == day) = true,((i : Int) + (1 : Int) == day) = true,((i : Int) + (1 : Int) == day) = true,((i : Int) + (1 : Int) == day) = true,((i : Int) + (1 : Int) == day) = true,((i : Int) + (1 : Int) == day) = true,((i : Int) + (1 : Int) == day) = true,1 * (8 + 1) ≤ 140737488355328,1 = 1,inI64 ((i : Int) + (1 : Int) + (1 : Int))],Ex.normal,tuB_S0 x day (i + 1) ((i : Int) + 1) []) := by kernel_rfl
theorem tuA_0_at (x : FBook) (day : Int) (i : Nat) (z : Int) :
  runK (MF 37) [(14,true),(20,false),(27,true)] [(25,.int .i64 z)] [] (Code.at [1,1,1,0,1,0,0] (body Tryd.f71)) (tuA_S0 x day i) tuB_K0 =
   some ([decide ((i : Int) + (1 : Int) ≤ Book.days (FBook.chain x)) = true,((i : Int) + (1 : Int) == day) = false,((i : Int) + (1 : Int) == day) = false,((i : Int) + (1 : Int) == day) = false,((i : Int) + (1 : Int) == day) = false,((i : Int) + (1 : Int) == day) = false,CF 46 [D.sl false E.int (Book.turns (FBook.chain x)),D.int .i64 ((i : Int) + (1 : Int))] (D.int .i64 z),((i : Int) + (1 : Int) == day) = false,((i : Int) + (1 : Int) == day) = false,decide (z ≥ (0 : Int)) = true,1 * (8 + 1) ≤ 140737488355328,1 = 1,inI64 ((i : Int) + (1 : Int) + (1 : Int))],Ex.normal,tuB_S0 x day (i + 1) ((i : Int) + 1) []) := by kernel_rfl
theorem tuA_0_no (x : FBook) (day : Int) (i : Nat) (z : Int) :
  runK (MF 37) [(14,true),(20,false),(27,false)] [(25,.int .i64 z)] [] (Code.at [1,1,1,0,1,0,0] (body Tryd.f71)) (tuA_S0 x day i) tuA_K0 =
   some ([decide ((i : Int) + (1 : Int) ≤ Book.days (FBook.chain x)) = true,((i : Int) + (1 : Int) == day) = false,((i : Int) + (1 : Int) == day) = false,((i : Int) + (1 : Int) == day) = false,((i : Int) + (1 : Int) == day) = false,((i : Int) + (1 : Int) == day) = false,CF 46 [D.sl false E.int (Book.turns (FBook.chain x)),D.int .i64 ((i : Int) + (1 : Int))] (D.int .i64 z),((i : Int) + (1 : Int) == day) = false,((i : Int) + (1 : Int) == day) = false,decide (z ≥ (0 : Int)) = false,inI64 ((i : Int) + (1 : Int) + (1 : Int))],Ex.normal,tuA_S0 x day (i + 1)) := by kernel_rfl
theorem tuA_0_end (x : FBook) (day : Int) (i : Nat) :
  runK (MF 37) [(14,false)] [] [] (Code.at [1,1,1,0,1,0,0] (body Tryd.f71)) (tuA_S0 x day i) tuA_K0 =
   some ([decide ((i : Int) + (1 : Int) ≤ Book.days (FBook.chain x)) = false],Ex.exit 0,tuA_S0 x day i) := by kernel_rfl
theorem tturN_0_on (x : FBook) (n : Int) (was : Int) (i : Nat) (fr : Int) :
  runK (MF 120) [(44,true)] [] [] (Code.at [1,1,1,1,1,0,1,0,0] (body Tryd.f15)) (tturN_S0 x n was i fr) tturN_K0 =
   some ([decide ((i : Int) < (List.length (Book.svs (FBook.chain x)) : Int)) = true,(0 : Int) ≤ (i : Int) ∧ (i : Int) < (List.length (Book.svs (FBook.chain x)) : Int),0 + 1 + 1 ≤ 4,inI64 ((i : Int) + (1 : Int))],Ex.normal,tturN_S0 x n was (i + 1) (mx fr (x.chain.svs.getD i sv0).d)) := by kernel_rfl
theorem tturN_0_end (x : FBook) (n : Int) (was : Int) (i : Nat) (fr : Int) :
  runK (MF 120) [(44,false)] [] [] (Code.at [1,1,1,1,1,0,1,0,0] (body Tryd.f15)) (tturN_S0 x n was i fr) tturN_K0 =
   some ([decide ((i : Int) < (List.length (Book.svs (FBook.chain x)) : Int)) = false],Ex.exit 0,tturN_S0 x n was i fr) := by kernel_rfl
theorem tturY_0_on (x : FBook) (n : Int) (was day : Int) (i : Nat) (fr : Int) :
  runK (MF 120) [(44,true)] [] [] (Code.at [1,1,1,1,1,0,1,0,0] (body Tryd.f15)) (tturY_S0 x n was day i fr) tturY_K0 =
   some ([decide ((i : Int) < (List.length (Book.svs (FBook.chain x)) : Int)) = true,(0 : Int) ≤ (i : Int) ∧ (i : Int) < (List.length (Book.svs (FBook.chain x)) : Int),0 + 1 + 1 ≤ 4,inI64 ((i : Int) + (1 : Int))],Ex.normal,tturY_S0 x n was day (i + 1) (mx fr (x.chain.svs.getD i sv0).d)) := by kernel_rfl
theorem tturY_0_end (x : FBook) (n : Int) (was day : Int) (i : Nat) (fr : Int) :
  runK (MF 120) [(44,false)] [] [] (Code.at [1,1,1,1,1,0,1,0,0] (body Tryd.f15)) (tturY_S0 x n was day i fr) tturY_K0 =
   some ([decide ((i : Int) < (List.length (Book.svs (FBook.chain x)) : Int)) = false],Ex.exit 0,tturY_S0 x n was day i fr) := by kernel_rfl
theorem links7_all  :
  callF (MF 9) [] [(1,spD ⟨20,21⟩),(2,spD ⟨2,2⟩)] [] (body Tryd.f135) [.cell 0 84] [] =
   some ([CF 61 [D.int .i64 20,D.int .i64 21] (D.agg [D.int .i64 (Span.lo (Span.mk (20 : Int) (21 : Int))),D.int .i64 (Span.hi (Span.mk (20 : Int) (21 : Int)))]),CF 49 [D.int .i64 2] (D.agg [D.int .i64 (Span.lo (Span.mk (2 : Int) (2 : Int))),D.int .i64 (Span.hi (Span.mk (2 : Int) (2 : Int)))])],D.agg [D.sl true E.sec [Sec.mk (Span.mk (Span.lo (Span.mk (20 : Int) (21 : Int))) (Span.hi (Span.mk (20 : Int) (21 : Int)))) (Span.mk (Span.lo (Span.mk (2 : Int) (2 : Int))) (Span.hi (Span.mk (2 : Int) (2 : Int))))],D.nil,D.nil,D.int .i64 11,D.int .i64 6,D.sl true E.int [(4 : Int)],D.int .i64 20,D.sl true E.int [(3 : Int)],D.int .i64 4,D.int .i64 0]) := by kernel_rfl
theorem chg7_all  :
  callF (MF 86) [] [(12,fbookD links7),(13,.tup [.sl false .work [⟨3,0⟩],.int .i64 0]),(17,fbookD links7),(19,.tup [.int .i64 5,.int .i64 0]),(23,fbookD links7),(25,.tup [.int .i64 14,.int .i64 0]),(29,fbookD links7),(31,.tup [.sl true .int ([0] : List Int),.int .i64 0]),(35,fbookD links7),(36,.tup [.int .i64 4,.int .i64 0]),(80,.bool true)] [] (body Tryd.f69) [.tmp 0] [] =
   some ([CF 135 [] (fbookD links7),CF 77 [fbookD links7] (D.tup [D.sl false E.work [Work.mk (3 : Int) (0 : Int)],D.int .i64 0]),CF 135 [] (fbookD links7),CF 43 [bookD links7.chain,D.int .i64 0] (D.tup [D.int .i64 5,D.int .i64 0]),CF 135 [] (fbookD links7),CF 81 [fbookD links7,D.sl false E.work [Work.mk (3 : Int) (0 : Int)],D.int .i64 0,D.int .i64 6] (D.tup [D.int .i64 14,D.int .i64 0]),CF 135 [] (fbookD links7),CF 40 [bookD links7.chain,D.int .i64 5] (D.tup [D.sl true E.int [(0 : Int)],D.int .i64 0]),CF 135 [] (fbookD links7),CF 89 [fbookD links7] (D.tup [D.int .i64 4,D.int .i64 0]),(0 : Int) ≤ (0 : Int) ∧ (0 : Int) < (Nat.cast : Nat → Int) 1,0 + 2 ≤ 2,CF 55 [D.sl false E.int [(0 : Int)],D.sl false E.int [(0 : Int)]] (D.bool true)],D.bool true) := by kernel_rfl
theorem sm7N_all (x : FBook) :
  callF (MF 87) [] [(6,.int .i64 70)] [(0,(sm7N_K0,(.normal,sm7N_S0 x)))] (body Tryd.f68) [.tmp 2] [fbookD x] =
   some ([CF 98 [fbookD x] (D.int .i64 70),LF 87 (Code.at [1,1,0,1] (body Tryd.f68)) [(.tmp 1,.d (D.ptr 1 0)),(.tmp 3,.d (D.bool false)),(.tmp 4,.d (D.int .i64 0)),(.box 1,.bx (some (Box.mk false (cellsOf (fbookD x)))))] Ex.normal (sm7N_S0 x)],D.bool false) := by kernel_rfl
theorem sm7Y_all (x : FBook) (i : Nat) :
  callF (MF 87) [(31,true),(44,true),(51,true)] [(6,.int .i64 0),(11,.int .i64 0),(19,.bool true),(35,.bool true)] [(0,(sm7Y_K0,(.normal,sm7Y_S0 x i)))] (body Tryd.f68) [.tmp 2] [fbookD x] =
   some ([CF 98 [fbookD x] (D.int .i64 0),CF 64 [bookD x.chain] (D.int .i64 0),CF 50 [D.int .i64 ((List.length (Book.secs (FBook.chain x)) : Int)),D.int .i64 1,D.int .i64 4] (D.bool true),((List.length (FBook.feet x) : Int) == (List.length (Book.secs (FBook.chain x)) : Int)) = true,((List.length (FBook.feet x) : Int) == (List.length (Book.secs (FBook.chain x)) : Int)) = true,((List.length (FBook.feet x) : Int) == (List.length (Book.secs (FBook.chain x)) : Int)) = true,((List.length (FBook.feet x) : Int) == (List.length (Book.secs (FBook.chain x)) : Int)) = true,CF 50 [D.int .i64 (Book.days (FBook.chain x)),D.int .i64 1,D.int .i64 30] (D.bool true),((List.length (FBook.feet x) : Int) == (List.length (Book.secs (FBook.chain x)) : Int)) = true,decide ((List.length (Book.turns (FBook.chain x)) : Int) ≤ (4 : Int)) = true,decide ((List.length (Book.turns (FBook.chain x)) : Int) ≤ (4 : Int)) = true,decide ((List.length (Book.turns (FBook.chain x)) : Int) ≤ (4 : Int)) = true,decide ((List.length (Book.turns (FBook.chain x)) : Int) ≤ (4 : Int)) = true,decide ((List.length (Book.turns (FBook.chain x)) : Int) ≤ (4 : Int)) = true,decide ((List.length (Book.turns (FBook.chain x)) : Int) ≤ (4 : Int)) = true,decide ((List.length (Book.svs (FBook.chain x)) : Int) ≤ (8 : Int)) = true,decide ((List.length (Book.svs (FBook.chain x)) : Int) ≤ (8 : Int)) = true,decide ((List.length (Book.svs (FBook.chain x)) : Int) ≤ (8 : Int)) = true,decide ((List.length (Book.svs (FBook.chain x)) : Int) ≤ (8 : Int)) = true,decide ((List.length (Book.svs (FBook.chain x)) : Int) ≤ (8 : Int)) = true,LF 87 (Code.at [1,1,0,1] (body Tryd.f68)) [(.tmp 1,.d (D.ptr 1 0)),(.tmp 3,.d (D.bool (decide ((List.length (FBook.opn x) : Int) ≤ (4 : Int))))),(.tmp 4,.d (D.int .i64 0)),(.box 1,.bx (some (Box.mk false (cellsOf (fbookD x)))))] Ex.normal (sm7Y_S0 x i)],D.bool true) := by kernel_rfl
theorem thn7_err (x : FBook) :
  callF (MF 22) [] [(8,.tup [.int .i64 0,.int .i64 0,.int .i64 72])] [] (body Tryd.f70) [.tmp 2] [fbookD x] =
   some ([CF 83 [fbookD x,D.sl false E.work []] (D.tup [D.int .i64 0,D.int .i64 0,D.int .i64 72])],D.int .i64 (-(1 : Int))) := by kernel_rfl
theorem thn7_none (x : FBook) :
  callF (MF 22) [] [(8,.tup [.int .i64 0,.int .i64 0,.int .i64 4])] [] (body Tryd.f70) [.tmp 2] [fbookD x] =
   some ([CF 83 [fbookD x,D.sl false E.work []] (D.tup [D.int .i64 0,D.int .i64 0,D.int .i64 4]),inI64 (Book.days (FBook.chain x) + (1 : Int))],D.int .i64 (Book.days (FBook.chain x) + (1 : Int))) := by kernel_rfl
theorem thn7_some (x : FBook) (d s : Int) :
  callF (MF 22) [] [(8,.tup [.int .i64 d,.int .i64 s,.int .i64 0])] [] (body Tryd.f70) [.tmp 2] [fbookD x] =
   some ([CF 83 [fbookD x,D.sl false E.work []] (D.tup [D.int .i64 d,D.int .i64 s,D.int .i64 0])],D.int .i64 d) := by kernel_rfl
theorem tuA_none (x : FBook) (day : Int) (i : Nat) :
  callF (MF 37) [] [] [(0,(tuA_K0,(.normal,tuA_S0 x day i)))] (body Tryd.f71) [.cell 4 84] [fbookD x,.int .i64 day] =
   some ([LF 37 (Code.at [1,1,1,0,1] (body Tryd.f71)) [(.tmp 1,.d (D.int .i64 day)),(.tmp 2,.d (D.ptr 2 0)),(.tmp 4,.d (D.ptr 4 0)),(.tmp 5,.d (D.ptr 5 0)),(.tmp 6,.d (D.int .i64 1)),(.box 2,.bx (some (Box.mk false (cellsOf (fbookD x))))),(.box 4,.bx (some (Box.mk false [D.nil,D.nil,D.nil,D.int .i64 0,D.int .i64 0,D.nil,D.int .i64 0,D.nil,D.int .i64 0,D.int .i64 0]))),(.box 5,.bx (some (Box.mk false [D.sl false E.sec (Book.secs (FBook.chain x)),D.sl true E.int [],D.sl false E.sv (Book.svs (FBook.chain x)),D.int .i64 (Book.rule (FBook.chain x)),D.int .i64 (Book.days (FBook.chain x)),D.sl false E.int (FBook.feet x),D.int .i64 (FBook.new x),D.sl false E.int (FBook.opn x),D.int .i64 (FBook.stock x),D.int .i64 (FBook.make x)]))),(.obj 33,.ob Option.none)] Ex.normal (tuA_S0 x day i)],D.agg [D.sl false E.sec (Book.secs (FBook.chain x)),D.sl true E.int [],D.sl false E.sv (Book.svs (FBook.chain x)),D.int .i64 (Book.rule (FBook.chain x)),D.int .i64 (Book.days (FBook.chain x)),D.sl false E.int (FBook.feet x),D.int .i64 (FBook.new x),D.sl false E.int (FBook.opn x),D.int .i64 (FBook.stock x),D.int .i64 (FBook.make x)]) := by kernel_rfl
theorem tuA_some (x : FBook) (day : Int) (i : Nat) (y : Int) (r : List Int) :
  callF (MF 37) [] [] [(0,(tuB_K0,(.normal,tuB_S0 x day i y r)))] (body Tryd.f71) [.cell 4 84] [fbookD x,.int .i64 day] =
   some ([LF 37 (Code.at [1,1,1,0,1] (body Tryd.f71)) [(.tmp 1,.d (D.int .i64 day)),(.tmp 2,.d (D.ptr 2 0)),(.tmp 4,.d (D.ptr 4 0)),(.tmp 5,.d (D.ptr 5 0)),(.tmp 6,.d (D.int .i64 1)),(.box 2,.bx (some (Box.mk false (cellsOf (fbookD x))))),(.box 4,.bx (some (Box.mk false [D.nil,D.nil,D.nil,D.int .i64 0,D.int .i64 0,D.nil,D.int .i64 0,D.nil,D.int .i64 0,D.int .i64 0]))),(.box 5,.bx (some (Box.mk false [D.sl false E.sec (Book.secs (FBook.chain x)),D.sl true E.int [],D.sl false E.sv (Book.svs (FBook.chain x)),D.int .i64 (Book.rule (FBook.chain x)),D.int .i64 (Book.days (FBook.chain x)),D.sl false E.int (FBook.feet x),D.int .i64 (FBook.new x),D.sl false E.int (FBook.opn x),D.int .i64 (FBook.stock x),D.int .i64 (FBook.make x)]))),(.obj 33,.ob Option.none)] Ex.normal (tuB_S0 x day i y r),List.length (y :: r) = List.length ((y :: r)),List.length (y :: r) = List.length ((y :: r))],D.agg [D.sl false E.sec (Book.secs (FBook.chain x)),D.sl false E.int ((y :: r)),D.sl false E.sv (Book.svs (FBook.chain x)),D.int .i64 (Book.rule (FBook.chain x)),D.int .i64 (Book.days (FBook.chain x)),D.sl false E.int (FBook.feet x),D.int .i64 (FBook.new x),D.sl false E.int (FBook.opn x),D.int .i64 (FBook.stock x),D.int .i64 (FBook.make x)]) := by kernel_rfl
theorem ttur_bad (x : FBook) (n : Int) :
  callF (MF 120) [] [(14,.bool false),(23,.bool true)] [] (body Tryd.f15) [.tmp 4] [fbookD x,.int .i64 n] =
   some ([CF 68 [fbookD x] (D.bool false),CF 69 [] (D.bool true)],D.bool true) := by kernel_rfl
theorem ttur_full (x : FBook) (n : Int) :
  callF (MF 120) [(22,true)] [(14,.bool true),(23,.bool true)] [] (body Tryd.f15) [.tmp 4] [fbookD x,.int .i64 n] =
   some ([CF 68 [fbookD x] (D.bool true),((List.length (Book.turns (FBook.chain x)) : Int) == (4 : Int)) = true,CF 69 [] (D.bool true)],D.bool true) := by kernel_rfl
theorem ttur_neg (x : FBook) (n : Int) :
  callF (MF 120) [(22,false)] [(14,.bool true),(27,.tup [.int .i64 0,.int .i64 12]),(31,.int .i64 (-1)),(37,.bool true)] [] (body Tryd.f15) [.tmp 4] [fbookD x,.int .i64 n] =
   some ([CF 68 [fbookD x] (D.bool true),((List.length (Book.turns (FBook.chain x)) : Int) == (4 : Int)) = false,CF 54 [bookD x.chain] (D.tup [D.int .i64 0,D.int .i64 12]),CF 70 [fbookD x] (D.int .i64 (-(1 : Int))),CF 69 [] (D.bool true)],D.bool true) := by kernel_rfl
theorem tturN_has (x : FBook) (n : Int) (was : Int) (i : Nat) (fr k z late : Int) (x2 : FBook) :
  callF (MF 120) [(22,false),(96,true),(99,true)] [(14,.bool true),(27,.tup [.int .i64 0,.int .i64 4]),(31,.int .i64 was),(89,.int .i64 k),(95,.int .i64 z),(100,.bool true),(104,fbookD x2),(105,.int .i64 late),(118,.bool true)] [(0,(tturN_K0,(.normal,tturN_S0 x n was i fr)))] (body Tryd.f15) [.tmp 4] [fbookD x,.int .i64 n] =
   some ([CF 68 [fbookD x] (D.bool true),((List.length (Book.turns (FBook.chain x)) : Int) == (4 : Int)) = false,CF 54 [bookD x.chain] (D.tup [D.int .i64 0,D.int .i64 4]),CF 70 [fbookD x] (D.int .i64 was),LF 120 (Code.at [1,1,1,1,1,0,1] (body Tryd.f15)) [(.tmp 1,.d (D.int .i64 n)),(.tmp 2,.d (D.ptr 2 0)),(.tmp 5,.d (D.int .i64 0)),(.tmp 6,.d (D.int .i64 4)),(.tmp 7,.d (D.int .i64 was)),(.tmp 8,.d (D.int .i64 1)),(.tmp 9,.d (D.int .i64 0)),(.box 2,.bx (some (Box.mk false (cellsOf (fbookD x)))))] Ex.normal (tturN_S0 x n was i fr),inI64 (Book.days (FBook.chain x) - fr),inI64 (Book.days (FBook.chain x) - fr + (1 : Int)),CF 39 [D.int .i64 n,D.int .i64 (Book.days (FBook.chain x) - fr + (1 : Int))] (D.int .i64 k),inI64 (fr + k),CF 46 [D.sl false E.int (Book.turns (FBook.chain x)),D.int .i64 (fr + k)] (D.int .i64 z),decide (z ≥ (0 : Int)) = true,decide (was ≥ (0 : Int)) = true,CF 69 [] (D.bool true),decide (was ≥ (0 : Int)) = true],D.bool true) := by kernel_rfl
theorem tturN_new (x : FBook) (n : Int) (was : Int) (i : Nat) (fr k z late : Int) (x2 : FBook) :
  callF (MF 120) [(22,false),(96,false),(108,true),(112,true),(117,true)] [(14,.bool true),(27,.tup [.int .i64 0,.int .i64 4]),(31,.int .i64 was),(89,.int .i64 k),(95,.int .i64 z),(100,.bool true),(104,fbookD x2),(105,.int .i64 late),(118,.bool true)] [(0,(tturN_K0,(.normal,tturN_S0 x n was i fr)))] (body Tryd.f15) [.tmp 4] [fbookD x,.int .i64 n] =
   some ([CF 68 [fbookD x] (D.bool true),((List.length (Book.turns (FBook.chain x)) : Int) == (4 : Int)) = false,CF 54 [bookD x.chain] (D.tup [D.int .i64 0,D.int .i64 4]),CF 70 [fbookD x] (D.int .i64 was),LF 120 (Code.at [1,1,1,1,1,0,1] (body Tryd.f15)) [(.tmp 1,.d (D.int .i64 n)),(.tmp 2,.d (D.ptr 2 0)),(.tmp 5,.d (D.int .i64 0)),(.tmp 6,.d (D.int .i64 4)),(.tmp 7,.d (D.int .i64 was)),(.tmp 8,.d (D.int .i64 1)),(.tmp 9,.d (D.int .i64 0)),(.box 2,.bx (some (Box.mk false (cellsOf (fbookD x)))))] Ex.normal (tturN_S0 x n was i fr),inI64 (Book.days (FBook.chain x) - fr),inI64 (Book.days (FBook.chain x) - fr + (1 : Int)),CF 39 [D.int .i64 n,D.int .i64 (Book.days (FBook.chain x) - fr + (1 : Int))] (D.int .i64 k),inI64 (fr + k),CF 46 [D.sl false E.int (Book.turns (FBook.chain x)),D.int .i64 (fr + k)] (D.int .i64 z),decide (z ≥ (0 : Int)) = false,CF 71 [fbookD x,D.int .i64 (fr + k)] (fbookD x2),CF 70 [fbookD x2] (D.int .i64 late),decide (was ≥ (0 : Int)) = true,decide (was ≥ (0 : Int)) = true,decide (was ≥ (0 : Int)) = true,decide (late ≥ (0 : Int)) = true,decide (late ≥ (0 : Int)) = true,decide (late ≥ (0 : Int)) = true,decide (late ≥ (0 : Int)) = true,decide (late ≤ was) = true,CF 69 [] (D.bool true),decide (late ≤ was) = true],D.bool true) := by kernel_rfl
theorem tturY_has (x : FBook) (n : Int) (was day : Int) (i : Nat) (fr k z late : Int) (x2 : FBook) (z2 best : Int) (x1 : FBook) :
  callF (MF 120) [(22,false),(73,false),(80,false),(96,true),(99,true)] [(14,.bool true),(27,.tup [.int .i64 day,.int .i64 0]),(31,.int .i64 was),(89,.int .i64 k),(95,.int .i64 z),(100,.bool true),(104,fbookD x2),(105,.int .i64 late),(118,.bool true),(64,.bool true),(71,.int .i64 z2),(76,fbookD x1),(77,.int .i64 best)] [(0,(tturY_K0,(.normal,tturY_S0 x n was day i fr)))] (body Tryd.f15) [.tmp 4] [fbookD x,.int .i64 n] =
   some ([CF 68 [fbookD x] (D.bool true),((List.length (Book.turns (FBook.chain x)) : Int) == (4 : Int)) = false,CF 54 [bookD x.chain] (D.tup [D.int .i64 day,D.int .i64 0]),CF 70 [fbookD x] (D.int .i64 was),LF 120 (Code.at [1,1,1,1,1,0,1] (body Tryd.f15)) [(.tmp 1,.d (D.int .i64 n)),(.tmp 2,.d (D.ptr 2 0)),(.tmp 5,.d (D.int .i64 day)),(.tmp 6,.d (D.int .i64 0)),(.tmp 7,.d (D.int .i64 was)),(.tmp 8,.d (D.int .i64 1)),(.tmp 9,.d (D.int .i64 0)),(.box 2,.bx (some (Box.mk false (cellsOf (fbookD x)))))] Ex.normal (tturY_S0 x n was day i fr),CF 50 [D.int .i64 day,D.int .i64 fr,D.int .i64 (Book.days (FBook.chain x))] (D.bool true),CF 46 [D.sl false E.int (Book.turns (FBook.chain x)),D.int .i64 day] (D.int .i64 z2),decide (z2 ≥ (0 : Int)) = false,CF 71 [fbookD x,D.int .i64 day] (fbookD x1),CF 70 [fbookD x1] (D.int .i64 best),decide (best ≤ was) = false,inI64 (Book.days (FBook.chain x) - fr),inI64 (Book.days (FBook.chain x) - fr + (1 : Int)),CF 39 [D.int .i64 n,D.int .i64 (Book.days (FBook.chain x) - fr + (1 : Int))] (D.int .i64 k),inI64 (fr + k),CF 46 [D.sl false E.int (Book.turns (FBook.chain x)),D.int .i64 (fr + k)] (D.int .i64 z),decide (z ≥ (0 : Int)) = true,decide (was ≥ (0 : Int)) = true,CF 69 [] (D.bool true),decide (was ≥ (0 : Int)) = true],D.bool true) := by kernel_rfl
theorem tturY_new (x : FBook) (n : Int) (was day : Int) (i : Nat) (fr k z late : Int) (x2 : FBook) (z2 best : Int) (x1 : FBook) :
  callF (MF 120) [(22,false),(73,false),(80,false),(96,false),(108,true),(112,true),(117,true)] [(14,.bool true),(27,.tup [.int .i64 day,.int .i64 0]),(31,.int .i64 was),(89,.int .i64 k),(95,.int .i64 z),(100,.bool true),(104,fbookD x2),(105,.int .i64 late),(118,.bool true),(64,.bool true),(71,.int .i64 z2),(76,fbookD x1),(77,.int .i64 best)] [(0,(tturY_K0,(.normal,tturY_S0 x n was day i fr)))] (body Tryd.f15) [.tmp 4] [fbookD x,.int .i64 n] =
   some ([CF 68 [fbookD x] (D.bool true),((List.length (Book.turns (FBook.chain x)) : Int) == (4 : Int)) = false,CF 54 [bookD x.chain] (D.tup [D.int .i64 day,D.int .i64 0]),CF 70 [fbookD x] (D.int .i64 was),LF 120 (Code.at [1,1,1,1,1,0,1] (body Tryd.f15)) [(.tmp 1,.d (D.int .i64 n)),(.tmp 2,.d (D.ptr 2 0)),(.tmp 5,.d (D.int .i64 day)),(.tmp 6,.d (D.int .i64 0)),(.tmp 7,.d (D.int .i64 was)),(.tmp 8,.d (D.int .i64 1)),(.tmp 9,.d (D.int .i64 0)),(.box 2,.bx (some (Box.mk false (cellsOf (fbookD x)))))] Ex.normal (tturY_S0 x n was day i fr),CF 50 [D.int .i64 day,D.int .i64 fr,D.int .i64 (Book.days (FBook.chain x))] (D.bool true),CF 46 [D.sl false E.int (Book.turns (FBook.chain x)),D.int .i64 day] (D.int .i64 z2),decide (z2 ≥ (0 : Int)) = false,CF 71 [fbookD x,D.int .i64 day] (fbookD x1),CF 70 [fbookD x1] (D.int .i64 best),decide (best ≤ was) = false,inI64 (Book.days (FBook.chain x) - fr),inI64 (Book.days (FBook.chain x) - fr + (1 : Int)),CF 39 [D.int .i64 n,D.int .i64 (Book.days (FBook.chain x) - fr + (1 : Int))] (D.int .i64 k),inI64 (fr + k),CF 46 [D.sl false E.int (Book.turns (FBook.chain x)),D.int .i64 (fr + k)] (D.int .i64 z),decide (z ≥ (0 : Int)) = false,CF 71 [fbookD x,D.int .i64 (fr + k)] (fbookD x2),CF 70 [fbookD x2] (D.int .i64 late),decide (was ≥ (0 : Int)) = true,decide (was ≥ (0 : Int)) = true,decide (was ≥ (0 : Int)) = true,decide (late ≥ (0 : Int)) = true,decide (late ≥ (0 : Int)) = true,decide (late ≥ (0 : Int)) = true,decide (late ≥ (0 : Int)) = true,decide (late ≤ best) = true,CF 69 [] (D.bool true),decide (late ≤ best) = true],D.bool true) := by kernel_rfl
end Go.Di

namespace Go.Di
open Proofs
end Go.Di

namespace Go.Di
open Proofs
theorem err_f {b : Book} (hV : Valid b) (hc : canF b = false) : errF b true = 12 := by unfold errF; rw [valid_iff.2 hV,hc]; rfl
section
variable {x : FBook} (hV : FValid x) (hc : canF x.chain = true)
include hV hc
end
end Go.Di

