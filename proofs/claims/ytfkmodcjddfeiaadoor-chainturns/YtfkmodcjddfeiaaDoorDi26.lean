/- Part 26: an interpreter over plain data for this code, with the proof that it says what the model does, and the contracts of the functions. No condition. -/
import Derived.Test.YtfkmodcjddfeiaaDoorDi25
set_option linter.unusedVariables false
set_option linter.unusedSimpArgs false
namespace Go.Di

/-! ### With a turn more, by the reference -/
def rwthS (b : Book) (day : Int) (i : Nat) : List Int → List (Key × Val)
 | [] => rwiA_S0 b day i
 | y :: r => rwiB_S0 b day i y r
theorem rwth_round (b : Book) (day : Int) (i : Nat) (o : List Int) (hi : (i : Int) + 1 ≤ b.days) (hd : b.days ≤ 1000) (hsz : o.length ≤ 1000) (ht : b.turns.length ≤ 1000) :
  WpL PR (mk PR (lookN types) glob 32) (Code.at [1, 1, 1, 0, 1, 0, 0] (body Proofs.Tryd.f164)) (rwthS b day i o) fun e1 L1 => e1 = .normal ∧ L1 = rwthS b day (i + 1) (if withP b day ((i : Int) + 1) = true then o ++ [(i : Int) + 1] else o) := by
 have hat := atB_con b.turns ((i : Int) + 1) (by omega)
 have hge := indexF_ge ((i : Int) + 1) b.turns 0
 have hlt : decide ((i : Int) + 1 ≤ b.days) = true := decide_eq_true hi
 have hi64 : inI64 ((i : Int) + 1 + 1) := by simp only [inI64]; omega
 have hz : ∀ y r, o = y :: r → (y :: r ++ [(i : Int) + 1]).length * (8 + 1) ≤ 140737488355328 := fun y r e => by subst e; simp only [List.length_append, List.length_cons, List.length_nil] at hsz ⊢; omega
 by_cases h1 : (i : Int) + 1 = day
 ·have d1 : ((i : Int) + 1 == day) = true := by simpa using h1
  have hp : withP b day ((i : Int) + 1) = true := by unfold withP; rw [d1]; rfl
  rw [if_pos hp]
  cases o with
  | nil =>
   refine WpL.path (G 32) (rwiA_0_eq b day i 0) ?_ ⟨rfl, rfl⟩
   repeat (first | exact trivial | refine ⟨by first | exact hlt | exact d1 | exact hi64 | rfl | omega | (simp; omega), ?_⟩)
  | cons y r =>
   have hz := hz y r rfl
   refine WpL.path (G 32) (rwiB_0_eq b day i y r 0) ?_ ⟨rfl, rfl⟩
   repeat (first | exact trivial | refine ⟨by first | exact hlt | exact d1 | exact hi64 | exact hz | rfl | omega, ?_⟩)
 ·have d1 : ((i : Int) + 1 == day) = false := by simpa using h1
  by_cases h2 : (i : Int) + 1 ∈ b.turns
  ·have d2 : decide (indexF ((i : Int) + 1) b.turns 0 ≥ 0) = true := decide_eq_true (hge.2 h2)
   have hp : withP b day ((i : Int) + 1) = true := by unfold withP; rw [decide_eq_true h2]; simp
   rw [if_pos hp]
   cases o with
   | nil =>
    refine WpL.path (G 32) (rwiA_0_at b day i (indexF ((i : Int) + 1) b.turns 0)) ?_ ⟨rfl, rfl⟩
    repeat (first | exact trivial | refine ⟨by first | exact hlt | exact hat | exact d1 | exact d2 | exact hi64 | rfl | omega | (simp; omega), ?_⟩)
   | cons y r =>
    have hz := hz y r rfl
    refine WpL.path (G 32) (rwiB_0_at b day i y r (indexF ((i : Int) + 1) b.turns 0)) ?_ ⟨rfl, rfl⟩
    repeat (first | exact trivial | refine ⟨by first | exact hlt | exact hat | exact d1 | exact d2 | exact hi64 | exact hz | rfl | omega, ?_⟩)
  ·have d2 : decide (indexF ((i : Int) + 1) b.turns 0 ≥ 0) = false := decide_eq_false fun h => h2 (hge.1 h)
   have hp : ¬ withP b day ((i : Int) + 1) = true := by unfold withP; rw [d1, decide_eq_false h2]; simp
   rw [if_neg hp]
   cases o with
   | nil =>
    refine WpL.path (G 32) (rwiA_0_no b day i (indexF ((i : Int) + 1) b.turns 0)) ?_ ⟨rfl, rfl⟩
    repeat (first | exact trivial | refine ⟨by first | exact hlt | exact hat | exact d1 | exact d2 | exact hi64 | rfl | omega, ?_⟩)
   | cons y r =>
    refine WpL.path (G 32) (rwiB_0_no b day i y r (indexF ((i : Int) + 1) b.turns 0)) ?_ ⟨rfl, rfl⟩
    repeat (first | exact trivial | refine ⟨by first | exact hlt | exact hat | exact d1 | exact d2 | exact hi64 | rfl | omega, ?_⟩)
theorem rwith_con {b : Book} (hV : Valid b) (day : Int) : Contract PR glob 164 [bookD b, .int .i64 day] (bookD (withF b day)) := by
 have hdd := hV.days
 have ht := hV.turns
 have hloop : LoopT PR glob 32 (Code.at [1, 1, 1, 0, 1] (body Proofs.Tryd.f164)) (rwthS b day 0 []) .normal (rwthS b day b.days.toNat (sel (withP b day) b.days.toNat)) := by
  refine LoopT.count (tt := lookN types) (id := 0) (c := Code.at [1, 1, 1, 0, 1, 0, 0] (body Proofs.Tryd.f164)) (by kernel_rfl) b.days.toNat (fun i => rwthS b day i (sel (withP b day) i)) (fun i hi => ?_) ?_
  ·have := sel_len (withP b day) i
   exact rwth_round b day i _ (by omega) (by omega) (by omega) (by omega)
  ·have hend : decide (((b.days.toNat : Nat) : Int) + 1 ≤ b.days) = false := decide_eq_false (by omega)
   cases sel (withP b day) b.days.toNat with
   | nil => exact WpL.path (G 32) (rwiA_0_end b day _) ⟨hend, trivial⟩ ⟨.inl ⟨rfl, rfl⟩, rfl⟩
   | cons y r => exact WpL.path (G 32) (rwiB_0_end b day _ y r) ⟨hend, trivial⟩ ⟨.inl ⟨rfl, rfl⟩, rfl⟩
 unfold withF
 cases hw : sel (withP b day) b.days.toNat with
 | nil =>
  rw [hw] at hloop
  refine (contract_of_path (G 32) rwiA_fn (rwiA_none b day b.days.toNat) ?_).toWeak
  repeat (first | exact trivial | refine ⟨by first | exact hloop | rfl | omega, ?_⟩)
 | cons y r =>
  rw [hw] at hloop
  refine (contract_of_path (G 32) rwiA_fn (rwiA_some b day b.days.toNat y r) ?_).toWeak
  repeat (first | exact trivial | refine ⟨by first | exact hloop | rfl | omega, ?_⟩)


/-! ### Without some surveys -/
def rwoS (b : Book) (set : Int) (i : Nat) : List Sv → List (Key × Val)
 | [] => rwoA_S0 b set i
 | y :: r => rwoB_S0 b set i y r
theorem rwo_round (b : Book) (set : Int) (i : Nat) (o : List Sv) (hi : i < b.svs.length) (h8 : b.svs.length ≤ 1000) (hsz : o.length ≤ 1000) :
  WpL PR (mk PR (lookN types) glob 31) (Code.at [1, 1, 1, 0, 1, 0, 0] (body Proofs.Tryd.f165)) (rwoS b set i o) fun e1 L1 => e1 = .normal ∧ L1 = rwoS b set (i + 1) (if (i : Int) ∈ membTo set b.svs.length then o else o ++ [svZ b i]) := by
 have c := mem1_con set i (by omega)
 have hlt : decide ((i : Int) < b.svs.length) = true := decide_eq_true (by omega)
 have hix : (0 : Int) ≤ i ∧ (i : Int) < b.svs.length := by omega
 have hi64 : inI64 ((i : Int) + 1) := by simp only [inI64]; omega
 have hiff : (i : Int) ∈ membTo set b.svs.length ↔ memQ set i = true := by
  rw [mem_membTo]
  constructor
  ·rintro ⟨j, h1, h2, h3⟩
   have : j = i := by omega
   subst this
   exact h3
  ·exact fun h => ⟨i, hi, rfl, h⟩
 cases hm : memQ set i with
 | true =>
  rw [hm] at c
  rw [if_pos (hiff.2 hm)]
  cases o with
  | nil =>
   refine WpL.path (G 31) (rwoA_0_no b set i) ?_ ⟨rfl, rfl⟩
   repeat (first | exact trivial | refine ⟨by first | exact hlt | exact hix | exact c | exact hi64 | rfl | omega, ?_⟩)
  | cons y r =>
   refine WpL.path (G 31) (rwoB_0_no b set i y r) ?_ ⟨rfl, rfl⟩
   repeat (first | exact trivial | refine ⟨by first | exact hlt | exact hix | exact c | exact hi64 | rfl | omega, ?_⟩)
 | false =>
  rw [hm] at c
  rw [if_neg (fun h => by rw [hiff.1 h] at hm; cases hm)]
  cases o with
  | nil =>
   refine WpL.path (G 31) (rwoA_0_yes b set i) ?_ ⟨rfl, rfl⟩
   repeat (first | exact trivial | refine ⟨by first | exact hlt | exact hix | exact c | exact hi64 | rfl | omega | (simp; omega), ?_⟩)
  | cons y r =>
   have hz : (y :: r ++ [svZ b i]).length * (32 + 1) ≤ 140737488355328 := by simp only [List.length_append, List.length_cons, List.length_nil] at hsz ⊢; omega
   refine WpL.path (G 31) (rwoB_0_yes b set i y r) ?_ ⟨rfl, rfl⟩
   repeat (first | exact trivial | refine ⟨by first | exact hlt | exact hix | exact c | exact hi64 | exact hz | rfl | omega, ?_⟩)
theorem rwithout_con (b : Book) (set : Int) (h8 : b.svs.length ≤ 1000) : Contract PR glob 165 [bookD b, .int .i64 set] (bookD (withoutF b (membTo set b.svs.length))) := by
 have hloop : LoopT PR glob 31 (Code.at [1, 1, 1, 0, 1] (body Proofs.Tryd.f165)) (rwoS b set 0 []) .normal (rwoS b set b.svs.length (woTo b (membTo set b.svs.length) b.svs.length)) := by
  refine LoopT.count (tt := lookN types) (id := 0) (c := Code.at [1, 1, 1, 0, 1, 0, 0] (body Proofs.Tryd.f165)) (by kernel_rfl) b.svs.length (fun i => rwoS b set i (woTo b (membTo set b.svs.length) i)) (fun i hi => ?_) ?_
  ·have := woTo_len b (membTo set b.svs.length) i
   exact rwo_round b set i _ hi h8 (by omega)
  ·cases woTo b (membTo set b.svs.length) b.svs.length with
   | nil => exact WpL.path (G 31) (rwoA_0_end b set _) ⟨decide_eq_false (Int.lt_irrefl _), trivial⟩ ⟨.inl ⟨rfl, rfl⟩, rfl⟩
   | cons y r => exact WpL.path (G 31) (rwoB_0_end b set _ y r) ⟨decide_eq_false (Int.lt_irrefl _), trivial⟩ ⟨.inl ⟨rfl, rfl⟩, rfl⟩
 unfold withoutF
 cases hw : woTo b (membTo set b.svs.length) b.svs.length with
 | nil =>
  rw [hw] at hloop
  refine (contract_of_path (G 31) rwoA_fn (rwoA_none b set b.svs.length) ?_).toWeak
  repeat (first | exact trivial | refine ⟨by first | exact hloop | rfl | omega, ?_⟩)
 | cons y r =>
  rw [hw] at hloop
  refine (contract_of_path (G 31) rwoA_fn (rwoA_some b set b.svs.length y r) ?_).toWeak
  repeat (first | exact trivial | refine ⟨by first | exact hloop | rfl | omega, ?_⟩)

/-! ### Turn, by the reference -/
theorem rSoon_con {b : Book} (hV : Val9 b) (hne : truthsF b [] ≠ []) {b2 : Book} {tn : List Int} (g1 : b2.days = b.days) (g2 : b2.rule = b.rule) (g3 : b2.turns.length ≤ 1000) (g4 : ∀ e : Nat, (e : Int) ≤ b.days → flips b2.turns e = flips tn e) : Contract PR glob 163 [bookD b, bookD b2] (.int .i64 (soonestF b (truthsF b []) tn b.secs.length)) := by
 have h4 := hV.secs
 have hdd := hV.days
 have hi : inI64 (b.days + 1) := by simp only [inI64]; omega
 have hloop : LoopT PR glob 25 (Code.at [1, 1, 0, 1] (body Proofs.Tryd.f163)) (rSoon_S0 b b2 0 (b.days + 1)) .normal (rSoon_S0 b b2 b.secs.length (soonestF b (truthsF b []) tn b.secs.length)) := by
  refine LoopT.count (tt := lookN types) (id := 0) (c := Code.at [1, 1, 0, 1, 0, 0] (body Proofs.Tryd.f163)) (by kernel_rfl) b.secs.length (fun i => rSoon_S0 b b2 i (soonestF b (truthsF b []) tn i)) (fun i hi => ?_) (WpL.path (G 25) (rSoon_0_end b b2 _ _) ⟨decide_eq_false (Int.lt_irrefl _), trivial⟩ ⟨.inl ⟨rfl, rfl⟩, rfl⟩)
  have hlt : decide ((i : Int) < b.secs.length) = true := decide_eq_true (by omega)
  have hi64 : inI64 ((i : Int) + 1) := by simp only [inI64]; omega
  have c1 := tr_con hV hi
  have c2 := rMay2_con hV hi hne g1 g2 g3 g4
  refine WpL.path (G 25) (rSoon_0_on b b2 i _ (truths1 b i) (thinF b (truthsF b []) tn i)) ?_ ⟨rfl, rfl⟩
  repeat (first | exact trivial | refine ⟨by first | exact hlt | exact c1 | exact c2 | exact hi64 | rfl | omega, ?_⟩)
 refine contract_of_path (G 25) rSoon_fn (rSoon_all b b2 b.secs.length (soonestF b (truthsF b []) tn b.secs.length)) ?_
 repeat (first | exact trivial | refine ⟨by first | exact hloop | exact hi | rfl | omega, ?_⟩)
theorem rTurn_from {b : Book} (hV : Valid b) : LoopT PR glob 59 (Code.at [1, 1, 1, 0, 1] (body Proofs.Tryd.f115)) (rTurnA_S0 b 1 0) .normal (rTurnA_S0 b (fromF b) b.svs.length) := by
 refine LoopT.count (tt := lookN types) (id := 0) (c := Code.at [1, 1, 1, 0, 1, 0, 0] (body Proofs.Tryd.f115)) (by kernel_rfl) b.svs.length (fun i => rTurnA_S0 b (fromGo b i) i) (fun i hi => ?_) ?_
 ·have h8 := hV.svs
  have hf := take_foldl (fun n (y : Sv) => mx n y.d) b.svs (1 : Int) i sv0 hi
  have hlt : decide ((i : Int) < b.svs.length) = true := decide_eq_true (by omega)
  refine WpL.path (G 59) (rTurnA_0_on b _ i) ?_ ⟨rfl, ?_⟩
  ·repeat (first | exact trivial | refine ⟨by first | exact hlt | omega | (simp only [inI64]; omega), ?_⟩)
  ·rw [show fromGo b (i + 1) = _ from hf]
   rfl
 ·exact WpL.path (G 59) (rTurnA_0_end b _ _) ⟨decide_eq_false (Int.lt_irrefl _), trivial⟩ ⟨.inl ⟨rfl, rfl⟩, rfl⟩
theorem rTurn_days {b : Book} (hV : Valid b) (hne : truthsF b [] ≠ []) : LoopT PR glob 59 (Code.at [1, 1, 1, 1, 1, 0, 1] (body Proofs.Tryd.f115)) (rTurnA_S2 b (fromF b) 0 (soonestF b (truthsF b []) b.turns b.secs.length)) .normal (rTurnA_S2 b (fromF b + (b.days + 1 - fromF b).toNat) (turnLF b (truthsF b [])).1 (turnLF b (truthsF b [])).2) := by
 have hdd := hV.days
 have ht := hV.turns
 have hf1 : 1 ≤ fromF b := (fromGo_in (b := b) (fun y hy => by have := (survey_iff.1 (hV.sv y hy)).2.1; omega) b.svs.length (Nat.le_refl _)).1
 have h := LoopT.count (P := PR) (glob := glob) (n := 59) (tt := lookN types) (id := 2) (b := Code.at [1, 1, 1, 1, 1, 0, 1] (body Proofs.Tryd.f115)) (c := Code.at [1, 1, 1, 1, 1, 0, 1, 0, 0] (body Proofs.Tryd.f115)) (by kernel_rfl) (b.days + 1 - fromF b).toNat
  (fun j => rTurnA_S2 b (fromF b + j) (turnGo b (truthsF b []) (fromF b) j).1 (turnGo b (truthsF b []) (fromF b) j).2) (e := .normal) (L' := rTurnA_S2 b (fromF b + (b.days + 1 - fromF b).toNat) (turnLF b (truthsF b [])).1 (turnLF b (truthsF b [])).2) (fun j hj => ?_) ?_
 ·have e : fromF b + ((0 : Nat) : Int) = fromF b := by omega
  have h' : LoopT PR glob 59 (Code.at [1, 1, 1, 1, 1, 0, 1] (body Proofs.Tryd.f115)) (rTurnA_S2 b (fromF b + ((0 : Nat) : Int)) 0 (soonestF b (truthsF b []) b.turns b.secs.length)) .normal (rTurnA_S2 b (fromF b + (b.days + 1 - fromF b).toNat) (turnLF b (truthsF b [])).1 (turnLF b (truthsF b [])).2) := h
  rw [e] at h'
  exact h'
 ·have hle : decide (fromF b + (j : Int) ≤ b.days) = true := decide_eq_true (by omega)
  have hi64 : inI64 (fromF b + (j : Int) + 1) := by simp only [inI64]; omega
  have hat := atB_con b.turns (fromF b + j) (by omega)
  have hge := indexF_ge (fromF b + (j : Int)) b.turns 0
  have hst : ∀ p : Int × Int, turnGo b (truthsF b []) (fromF b) (j + 1) = p → rTurnA_S2 b (fromF b + (j + 1 : Nat)) (turnGo b (truthsF b []) (fromF b) (j + 1)).1 (turnGo b (truthsF b []) (fromF b) (j + 1)).2 = rTurnA_S2 b (fromF b + j + 1) p.1 p.2 := fun p hp => by
   rw [hp]
   congr 1
   omega
  by_cases hin : fromF b + (j : Int) ∈ b.turns
  ·have hd : decide (indexF (fromF b + (j : Int)) b.turns 0 ≥ 0) = true := decide_eq_true (hge.2 hin)
   refine WpL.path (G 59) (rTurnA_2_has b (fromF b + j) _ _ (indexF (fromF b + (j : Int)) b.turns 0)) ?_ ⟨rfl, ?_⟩
   ·repeat (first | exact trivial | refine ⟨by first | exact hle | exact hat | exact hd | exact hi64 | rfl | omega, ?_⟩)
   ·rw [hst (turnGo b (truthsF b []) (fromF b) j) (by simp only [turnGo, turnStep]; rw [if_pos hin])]
    rfl
  ·have hd : decide (indexF (fromF b + (j : Int)) b.turns 0 ≥ 0) = false := decide_eq_false fun h => hin (hge.1 h)
   have c1 := rwith_con hV (fromF b + j)
   have hsl := sel_len (withP b (fromF b + j)) b.days.toNat
   have c2 := rSoon_con hV.v9 hne (b2 := withF b (fromF b + j)) (tn := b.turns ++ [fromF b + (j : Int)]) rfl rfl (by show (sel (withP b (fromF b + j)) b.days.toNat).length ≤ 1000; omega) (fun e _ => (flips_more hV (day := fromF b + (j : Int)) (by omega) hin e).1)
   by_cases hgt : soonestF b (truthsF b []) (b.turns ++ [fromF b + (j : Int)]) b.secs.length > (turnGo b (truthsF b []) (fromF b) j).2
   ·have hg : decide (soonestF b (truthsF b []) (b.turns ++ [fromF b + (j : Int)]) b.secs.length > (turnGo b (truthsF b []) (fromF b) j).2) = true := decide_eq_true hgt
    refine WpL.path (G 59) (rTurnA_2_more b (fromF b + j) _ _ (indexF (fromF b + (j : Int)) b.turns 0) (soonestF b (truthsF b []) (b.turns ++ [fromF b + (j : Int)]) b.secs.length) (withF b (fromF b + j))) ?_ ⟨rfl, ?_⟩
    ·repeat (first | exact trivial | refine ⟨by first | exact hle | exact hat | exact hd | exact c1 | exact c2 | exact hg | exact hi64 | rfl | omega, ?_⟩)
    ·rw [hst (fromF b + j, soonestF b (truthsF b []) (b.turns ++ [fromF b + (j : Int)]) b.secs.length) (by simp only [turnGo, turnStep]; rw [if_neg hin, if_pos hgt])]
     rfl
   ·have hg : decide (soonestF b (truthsF b []) (b.turns ++ [fromF b + (j : Int)]) b.secs.length > (turnGo b (truthsF b []) (fromF b) j).2) = false := decide_eq_false hgt
    refine WpL.path (G 59) (rTurnA_2_less b (fromF b + j) _ _ (indexF (fromF b + (j : Int)) b.turns 0) (soonestF b (truthsF b []) (b.turns ++ [fromF b + (j : Int)]) b.secs.length) (withF b (fromF b + j))) ?_ ⟨rfl, ?_⟩
    ·repeat (first | exact trivial | refine ⟨by first | exact hle | exact hat | exact hd | exact c1 | exact c2 | exact hg | exact hi64 | rfl | omega, ?_⟩)
    ·rw [hst (turnGo b (truthsF b []) (fromF b) j) (by simp only [turnGo, turnStep]; rw [if_neg hin, if_neg hgt])]
     rfl
 ·exact WpL.path (G 59) (rTurnA_2_end b _ _ _) ⟨decide_eq_false (by omega), trivial⟩ ⟨.inl ⟨rfl, rfl⟩, rfl⟩
theorem rTurnA_con {b : Book} (hs : Small b) : Contract PR glob 115 [bookD b] (.tup [.int .i64 (turnAF b).1, .int .i64 (turnAF b).2]) := by
 have c1 := rAsked_con hs true
 unfold turnAF
 by_cases he : errF b true = 0
 ·obtain ⟨hV, _, hne⟩ := err_zero he
  rw [he] at c1
  rw [if_pos he]
  have l0 := rTurn_from hV
  have c2 := rSoon_con hV.v9 hne (b2 := b) (tn := b.turns) rfl rfl (by have := hV.turns; omega) (fun _ _ => rfl)
  have l2 := rTurn_days hV hne
  by_cases hz : (turnLF b (truthsF b [])).1 = 0
  ·have hd : ((turnLF b (truthsF b [])).1 == 0) = true := by rw [beq_iff_eq]; exact hz
   rw [if_pos hz]
   refine contract_of_path (G 59) rTurnA_fn (rTurnA_none b (fromF b) (soonestF b (truthsF b []) b.turns b.secs.length) b.svs.length (fromF b + (b.days + 1 - fromF b).toNat) (turnLF b (truthsF b [])).1 (turnLF b (truthsF b [])).2) ?_
   repeat (first | exact trivial | refine ⟨by first | exact c1 | exact c2 | exact l0 | exact l2 | exact hd | rfl | omega, ?_⟩)
  ·have hd : ((turnLF b (truthsF b [])).1 == 0) = false := by rw [beq_eq_false_iff_ne]; exact hz
   rw [if_neg hz]
   refine contract_of_path (G 59) rTurnA_fn (rTurnA_ok b (fromF b) (soonestF b (truthsF b []) b.turns b.secs.length) b.svs.length (fromF b + (b.days + 1 - fromF b).toNat) (turnLF b (truthsF b [])).1 (turnLF b (truthsF b [])).2) ?_
   repeat (first | exact trivial | refine ⟨by first | exact c1 | exact c2 | exact l0 | exact l2 | exact hd | rfl | omega, ?_⟩)
 ·have hb := ne_bne he
  rw [if_neg he]
  refine contract_of_path (G 59) rTurnA_fn (rTurnA_err b (errF b true)) ?_
  repeat (first | exact trivial | refine ⟨by first | exact c1 | exact hb | rfl | omega, ?_⟩)

/-! ### Wrong, by the reference -/
theorem pow_shift {n : Nat} (hn : n ≤ 8) : (1 : Int) * 2 ^ min ((n : Int)).toNat 64 = ((2 ^ n : Nat) : Int) := by
 rw [Int.toNat_natCast, show min n 64 = n by omega]
 simp
theorem rWrong_valid {b : Book} (hs : Small b) (hV : Valid b) : Contract PR glob 116 [bookD b] (.tup [.sl false .int (wrongGo b).1, .int .i64 0]) := by
 have c1 := rCheck_con hs
 unfold checkF at c1
 rw [valid_iff.2 hV] at c1
 have h8 := hV.svs
 have h256 : (2 : Nat) ^ b.svs.length ≤ 256 := Nat.pow_le_pow_right (n := 2) (by omega) h8
 have hpos : 0 < (2 : Nat) ^ b.svs.length := Nat.two_pow_pos _
 have hps := pow_shift h8
 have hsh : (0 : Int) ≤ b.svs.length ∧ inI64 ((1 : Int) * 2 ^ min ((b.svs.length : Int)).toNat 64) := by
  rw [hps]
  refine ⟨by omega, ?_⟩
  simp only [inI64]
  omega
 have hsub : inI64 ((1 : Int) * 2 ^ min ((b.svs.length : Int)).toNat 64 - 1) := by
  rw [hps]
  simp only [inI64]
  omega
 have c2 := members_con ((2 ^ b.svs.length - 1 : Nat) : Int) b.svs.length (by omega)
 rw [show ((2 ^ b.svs.length - 1 : Nat) : Int) = (1 : Int) * 2 ^ min ((b.svs.length : Int)).toNat 64 - 1 by rw [hps]; omega] at c2
 have hw0 : membTo ((1 : Int) * 2 ^ min ((b.svs.length : Int)).toNat 64 - 1) b.svs.length = rwGo b 0 := by
  show _ = membTo ((2 ^ b.svs.length - 1 : Nat) : Int) b.svs.length
  rw [hps]
  congr 1
  omega
 rw [hw0] at c2
 have hloop : LoopT PR glob 42 (Code.at [1, 1, 1, 1, 0, 1] (body Proofs.Tryd.f116)) (rWrongA_S0 b 0 (rwGo b 0)) .normal (rWrongA_S0 b (2 ^ b.svs.length) (rwGo b (2 ^ b.svs.length))) := by
  refine LoopT.count (tt := lookN types) (id := 0) (c := Code.at [1, 1, 1, 1, 0, 1, 0, 0] (body Proofs.Tryd.f116)) (by kernel_rfl) (2 ^ b.svs.length) (fun s => rWrongA_S0 b s (rwGo b s)) (fun s hss => ?_) ?_
  ·have hlt : decide ((s : Int) < (1 : Int) * 2 ^ min ((b.svs.length : Int)).toNat 64) = true := decide_eq_true (by rw [hps]; omega)
   have hi64 : inI64 ((s : Int) + 1) := by simp only [inI64]; omega
   have c3 := members_con (s : Int) b.svs.length (by omega)
   have hml := membTo_len (s : Int) b.svs.length
   have hrl := rw_len b s
   have c4 := better_con (membTo s b.svs.length) (rwGo b s) (by omega) (by omega)
   have c5 := rwithout_con b (s : Int) (by omega)
   have c6 := rCan_con (without_valid hV (membTo s b.svs.length)).v9
   have hstep : rwGo b (s + 1) = rwStep b (rwGo b s) s := rfl
   rw [hstep]
   unfold rwStep
   cases hb : betterF (membTo s b.svs.length) (rwGo b s) with
   | false =>
    rw [hb] at c4
    rw [if_neg (fun h => by cases h.1)]
    refine WpL.path (G 42) (rWrongA_0_nb b s (rwGo b s) (membTo s b.svs.length)) ?_ ⟨rfl, rfl⟩
    repeat (first | exact trivial | refine ⟨by first | exact hsh | exact hlt | exact c3 | exact c4 | exact hi64 | rfl | omega, ?_⟩)
   | true =>
    rw [hb] at c4
    cases hc : canF (withoutF b (membTo s b.svs.length)) with
    | false =>
     rw [hc] at c6
     rw [if_neg (fun h => by cases h.2)]
     refine WpL.path (G 42) (rWrongA_0_bn b s (rwGo b s) (membTo s b.svs.length) (withoutF b (membTo s b.svs.length))) ?_ ⟨rfl, rfl⟩
     repeat (first | exact trivial | refine ⟨by first | exact hsh | exact hlt | exact c3 | exact c4 | exact c5 | exact c6 | exact hi64 | rfl | omega, ?_⟩)
    | true =>
     rw [hc] at c6
     rw [if_pos ⟨rfl, rfl⟩]
     refine WpL.path (G 42) (rWrongA_0_bb b s (rwGo b s) (membTo s b.svs.length) (withoutF b (membTo s b.svs.length))) ?_ ⟨rfl, rfl⟩
     repeat (first | exact trivial | refine ⟨by first | exact hsh | exact hlt | exact c3 | exact c4 | exact c5 | exact c6 | exact hi64 | rfl | omega, ?_⟩)
  ·have hlt : decide (((2 ^ b.svs.length : Nat) : Int) < (1 : Int) * 2 ^ min ((b.svs.length : Int)).toNat 64) = false := decide_eq_false (by rw [hps]; omega)
   refine WpL.path (G 42) (rWrongA_0_end b (2 ^ b.svs.length) (rwGo b (2 ^ b.svs.length))) ?_ ⟨.inl ⟨rfl, rfl⟩, rfl⟩
   repeat (first | exact trivial | refine ⟨by first | exact hsh | exact hlt | rfl | omega, ?_⟩)
 rw [← rw_wrong hV]
 refine contract_of_path (G 42) rWrongA_fn (rWrongA_ok b (rwGo b 0) (2 ^ b.svs.length) (rwGo b (2 ^ b.svs.length))) ?_
 repeat (first | exact trivial | refine ⟨by first | exact c1 | exact hsh | exact hsub | exact c2 | exact hloop | rfl | omega, ?_⟩)
theorem rWrongA_con {b : Book} (hs : Small b) : Contract PR glob 116 [bookD b] (.tup [.sl false .int (wrongAF b).1, .int .i64 (wrongAF b).2]) := by
 unfold wrongAF
 by_cases h0 : checkF b = 0
 ·rw [if_pos h0]
  refine rWrong_valid hs (valid_iff.1 ?_)
  cases hv : validF b with
  | true => rfl
  | false => unfold checkF at h0; rw [hv] at h0; cases h0
 ·have hv : validF b = false := by
   cases hv : validF b with
   | false => rfl
   | true => exact absurd (by unfold checkF; rw [hv]; rfl) h0
  rw [if_neg h0]
  have c1 := rCheck_con hs
  unfold checkF at c1 ⊢
  rw [hv] at c1 ⊢
  refine (contract_of_path (G 42) rWrongA_fn (rWrongA_bad b) ?_).toRes fun _ _ _ h => tup_weak h
  repeat (first | exact trivial | refine ⟨by first | exact c1 | rfl | omega, ?_⟩)

/-! ### The law ChainTurns -/
theorem wrongAF_len {b : Book} (hs : Small b) : (wrongAF b).1.length ≤ 9223372036854775807 := by
 unfold wrongAF
 by_cases h0 : checkF b = 0
 ·rw [if_pos h0]
  have hV : Valid b := valid_iff.1 (by
   cases hv : validF b with
   | true => rfl
   | false => unfold checkF at h0; rw [hv] at h0; cases h0)
  have h8 := hV.svs
  have := (wrong_spec hV).1.len (by omega)
  show (wrongGo b).1.length ≤ _
  omega
 ·rw [if_neg h0]
  simp
theorem cturns2_con {b : Book} (hs : Small b) : Contract PR glob 32 [bookD b, bookD b] (.bool true) := by
 have c1 := turnA_con hs
 have c2 := rTurnA_con hs
 have c3 := wrong_con hs
 have c4 := rWrongA_con hs
 have c5 := alike_con (wrongAF b).1 (wrongAF b).1 (wrongAF_len hs)
 rw [decide_eq_true rfl] at c5
 generalize (turnAF b).1 = k1 at c1 c2
 generalize (turnAF b).2 = e1 at c1 c2
 generalize (wrongAF b).1 = w at c3 c4 c5
 generalize (wrongAF b).2 = e2 at c3 c4
 have d1 := bne_self' k1
 have d2 := bne_self' e1
 have d3 : (e2 == e2) = true := by simp
 rw [← d3]
 refine contract_of_path (G 47) cturns__fn (cturns__all b k1 e1 e2 w) ?_
 repeat (first | exact trivial | refine ⟨by first | exact c1 | exact c2 | exact c3 | exact c4 | exact c5 | exact d1 | exact d2 | rfl | omega, ?_⟩)
theorem cturns_con {b : Book} (hs : Small b) (hr : Room b) : Contract PR glob 5 [bookD b] (.bool true) := by
 have c1 := oChain_con hr
 have c2 := cturns2_con hs
 have c3 := kChain_con hs
 have c4 := forged_con
 refine contract_of_path (G 17) cturns_fn (cturns_all b) ?_
 repeat (first | exact trivial | refine ⟨by first | exact c1 | exact c2 | exact c3 | exact c4 | rfl | omega, ?_⟩)
end Go.Di

