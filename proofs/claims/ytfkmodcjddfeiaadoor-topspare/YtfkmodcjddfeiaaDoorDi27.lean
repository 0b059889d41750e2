/- Part 27: an interpreter over plain data for this code, with the proof that it says what the model does, and the contracts of the functions. No condition. -/
import Derived.Test.YtfkmodcjddfeiaaDoorDi26
set_option linter.unusedVariables false
set_option linter.unusedSimpArgs false
namespace Go.Di
open Proofs

/-! ### What a section's least depends on -/
theorem last_char {plan : List Work} (hp : plan.Pairwise wlt) (s d : Int) : ((lastF plan s d).1 = 1 ∧ (∃ w ∈ plan,w.s = s ∧ w.d ≤ d ∧ w.d = (lastF plan s d).2) ∧ ∀ v ∈ plan,v.s = s → v.d ≤ d → v.d ≤ (lastF plan s d).2) ∨ (lastF plan s d = (0,0) ∧ ∀ w ∈ plan,¬ (w.s = s ∧ w.d ≤ d)) := by
 have key : ∀ (l : List Work) (pre : List Work) (p : Int × Int),(pre ++ l).Pairwise wlt → ((p.1 = 1 ∧ (∃ w ∈ pre,w.s = s ∧ w.d ≤ d ∧ w.d = p.2) ∧ ∀ v ∈ pre,v.s = s → v.d ≤ d → v.d ≤ p.2) ∨ (p = (0,0) ∧ ∀ w ∈ pre,¬ (w.s = s ∧ w.d ≤ d))) →
   (((l.foldl (lastStep s d) p).1 = 1 ∧ (∃ w ∈ pre ++ l,w.s = s ∧ w.d ≤ d ∧ w.d = (l.foldl (lastStep s d) p).2) ∧ ∀ v ∈ pre ++ l,v.s = s → v.d ≤ d → v.d ≤ (l.foldl (lastStep s d) p).2) ∨ (l.foldl (lastStep s d) p = (0,0) ∧ ∀ w ∈ pre ++ l,¬ (w.s = s ∧ w.d ≤ d))) := by
  intro l
  induction l with
  | nil => intro pre p _ h; simpa using h
  | cons w l ih =>
   intro pre p hpw h
   have hpw' : ((pre ++ [w]) ++ l).Pairwise wlt := by simpa using hpw
   have := ih (pre ++ [w]) (lastStep s d p w) hpw' ?_
   ·simpa using this
   ·have hlt : ∀ v ∈ pre,wlt v w := fun v hv => (List.pairwise_append.1 hpw).2.2 v hv w (by simp)
    unfold lastStep
    by_cases hc : w.s = s ∧ w.d ≤ d
    ·rw [if_pos hc]
     refine .inl ⟨rfl,⟨w,by simp,hc.1,hc.2,rfl⟩,fun v hv hvs hvd => ?_⟩
     rcases List.mem_append.1 hv with hv | hv
     ·have := hlt v hv; unfold wlt at this; show v.d ≤ w.d; omega
     ·rw [List.mem_singleton] at hv; subst hv; exact Int.le_refl _
    ·rw [if_neg hc]
     rcases h with ⟨h1,⟨u,hu,h2⟩,h3⟩ | ⟨h1,h2⟩
     ·refine .inl ⟨h1,⟨u,by simp [hu],h2⟩,fun v hv hvs hvd => ?_⟩
      rcases List.mem_append.1 hv with hv | hv
      ·exact h3 v hv hvs hvd
      ·rw [List.mem_singleton] at hv; subst hv; exact absurd ⟨hvs,hvd⟩ hc
     ·refine .inr ⟨h1,fun v hv => ?_⟩
      rcases List.mem_append.1 hv with hv | hv
      ·exact h2 v hv
      ·rw [List.mem_singleton] at hv; subst hv; exact hc
 have := key plan [] (0,0) (by simpa using hp) (.inr ⟨rfl,fun w hw => by cases hw⟩)
 simpa [lastF] using this
theorem last_congr {p q : List Work} (hp : p.Pairwise wlt) (hq : q.Pairwise wlt) {s : Int} (h : ∀ w : Work,w.s = s → (w ∈ p ↔ w ∈ q)) (d : Int) : lastF p s d = lastF q s d := by
 rcases last_char hp s d with ⟨h1,⟨w,h2,h3,h4,h5⟩,h6⟩ | ⟨h1,h2⟩
 ·rcases last_char hq s d with ⟨g1,⟨v,g2,g3,g4,g5⟩,g6⟩ | ⟨g1,g2⟩
  ·have a1 := g6 w ((h w h3).1 h2) h3 h4
   have a2 := h6 v ((h v g3).2 g2) g3 g4
   exact Prod.ext (h1.trans g1.symm) (by omega)
  ·exact absurd ⟨h3,h4⟩ (g2 w ((h w h3).1 h2))
 ·rcases last_char hq s d with ⟨g1,⟨v,g2,g3,g4,g5⟩,g6⟩ | ⟨g1,g2⟩
  ·exact absurd ⟨g3,g4⟩ (h2 v ((h v g3).2 g2))
  ·rw [h1,g1]
theorem fleast_congr (x : FBook) (th : List (List Int)) (wr : List Int) {p q : List Work} (hp : p.Pairwise wlt) (hq : q.Pairwise wlt) {s : Int} (h : ∀ w : Work,w.s = s → (w ∈ p ↔ w ∈ q)) (d : Int) : fleastF x th wr p s d = fleastF x th wr q s d := by
 unfold fleastF
 rw [last_congr hp hq h d]

/-! ### Plans by sets are grids -/
theorem planned_grd (x : FBook) (on : W4) : plannedF x on = grdF x fun k s => bitF (on.get s) k := by
 have h1 : ∀ (k : Nat) (l : List Work) (s : Nat),plannedDay x on k l s = grdDay x (fun k s => bitF (on.get s) k) k l s := by
  intro k l s
  induction s with
  | zero => rfl
  | succ s ih => simp only [plannedDay,grdDay,ih]
 have h2 : ∀ k,plannedTo x on k = grdTo x (fun k s => bitF (on.get s) k) k := by
  intro k
  induction k with
  | zero => rfl
  | succ k ih => simp only [plannedTo,grdTo,ih,h1]
 exact h2 _
theorem grd_sub {x : FBook} {f g : Nat → Nat → Bool} (h : ∀ k s,k < x.opn.length → s < x.feet.length → f k s = true → g k s = true) : (grdF x f).Sublist (grdF x g) := by
 have h1 : ∀ (k : Nat) (l l' : List Work),k < x.opn.length → l.Sublist l' → ∀ s,s ≤ x.feet.length → (grdDay x f k l s).Sublist (grdDay x g k l' s) := by
  intro k l l' hk hl s
  induction s with
  | zero => exact fun _ => hl
  | succ s ih =>
   intro hs
   have ih := ih (by omega)
   simp only [grdDay]
   cases hf : f k s with
   | true => rw [h k s hk (by omega) hf]; exact ih.append (List.Sublist.refl _)
   | false =>
    rw [if_neg (by decide)]
    cases hg : g k s with
    | true => rw [if_pos rfl]; exact ih.trans (List.sublist_append_left _ _)
    | false => rw [if_neg (by decide)]; exact ih
 have h2 : ∀ k,k ≤ x.opn.length → (grdTo x f k).Sublist (grdTo x g k) := by
  intro k
  induction k with
  | zero => exact fun _ => List.Sublist.refl _
  | succ k ih => intro hk; simp only [grdTo]; exact h1 k _ _ (by omega) (ih (by omega)) _ (Nat.le_refl _)
 exact h2 _ (Nat.le_refl _)

/-! ### Feet and stock of a part -/
theorem feet_cons (x : FBook) (w : Work) (l : List Work) : feetF x (w :: l) = x.feet.getD w.s.toNat 0 + feetF x l := by
 have key : ∀ (l : List Int) (a b : Int),l.foldl (· + ·) (a + b) = a + l.foldl (· + ·) b := by
  intro l
  induction l with
  | nil => exact fun _ _ => rfl
  | cons c l ih => intro a b; rw [List.foldl_cons,List.foldl_cons,Int.add_assoc,ih]
 unfold feetF feetLF sumF
 rw [List.map_cons,List.foldl_cons,Int.add_comm 0,key]
theorem feet_pos {x : FBook} (hx : FIn x) {w : Work} (h : 0 ≤ w.s ∧ w.s < x.feet.length) : 1 ≤ x.feet.getD w.s.toNat 0 := (hx.feet _ (mem_getD 0 (by omega))).1
theorem feet_sub {x : FBook} (hx : FIn x) {p q : List Work} (h : p.Sublist q) (hq : ∀ w ∈ q,0 ≤ w.s ∧ w.s < x.feet.length) : feetF x p < feetF x q ∨ p = q := by
 induction h with
 | slnil => exact .inr rfl
 | cons w h ih =>
  have := feet_pos hx (hq w (by simp))
  rw [feet_cons]
  rcases ih (fun v hv => hq v (by simp [hv])) with h1 | h1
  ·exact .inl (by omega)
  ·subst h1; exact .inl (by omega)
 | cons_cons w h ih =>
  rw [feet_cons,feet_cons]
  rcases ih (fun v hv => hq v (by simp [hv])) with h1 | h1
  ·exact .inl (by omega)
  ·subst h1; exact .inr rfl
/-- Is a stock enough,from so many feet on? -/
def fitsF (x : FBook) (c : Int) : Int → List Work → Prop
 | _,[] => True
 | a,w :: l => a + x.feet.getD w.s.toNat 0 - x.make * w.d ≤ c ∧ fitsF x c (a + x.feet.getD w.s.toNat 0) l
theorem fits_mono {x : FBook} {c : Int} : ∀ {l : List Work} {a a' : Int},a ≤ a' → fitsF x c a' l → fitsF x c a l
 | [],_,_,_,_ => trivial
 | w :: l,a,a',h,⟨h1,h2⟩ => ⟨by omega,fits_mono (by omega) h2⟩
theorem fits_sub {x : FBook} (hx : FIn x) {c : Int} {p q : List Work} (h : p.Sublist q) (hq : ∀ w ∈ q,0 ≤ w.s ∧ w.s < x.feet.length) : ∀ {a},fitsF x c a q → fitsF x c a p := by
 induction h with
 | slnil => exact fun h => h
 | cons w h ih =>
  intro a hf
  have := feet_pos hx (hq w (by simp))
  exact fits_mono (by omega) (ih (fun v hv => hq v (by simp [hv])) hf.2)
 | cons_cons w h ih => intro a hf; exact ⟨hf.1,ih (fun v hv => hq v (by simp [hv])) hf.2⟩
theorem fits_iff {x : FBook} {c : Int} : ∀ {l : List Work} {a : Int},fitsF x c a l ↔ ∀ j,j < l.length → a + feetF x (l.take (j + 1)) - x.make * (l.getD j work0).d ≤ c
 | [],a => ⟨fun _ j hj => by simp at hj,fun _ => trivial⟩
 | w :: l,a => by
  have ih := fits_iff (x := x) (c := c) (l := l) (a := a + x.feet.getD w.s.toNat 0)
  unfold fitsF
  rw [ih]
  constructor
  ·rintro ⟨h1,h2⟩ j hj
   cases j with
   | zero =>
    have : feetF x ((w :: l).take 1) = x.feet.getD w.s.toNat 0 := by rw [List.take_succ_cons,List.take_zero,feet_cons]; simp [feetF,feetLF,sumF]
    rw [this]
    exact h1
   | succ j =>
    rw [List.take_succ_cons,feet_cons,List.getD_cons_succ]
    have := h2 j (by simpa using hj)
    omega
  ·intro h
   refine ⟨?_,fun j hj => ?_⟩
   ·have h0 := h 0 (by simp)
    have : feetF x ((w :: l).take 1) = x.feet.getD w.s.toNat 0 := by rw [List.take_succ_cons,List.take_zero,feet_cons]; simp [feetF,feetLF,sumF]
    rw [this] at h0
    exact h0
   ·have := h (j + 1) (by simpa using hj)
    rw [List.take_succ_cons,feet_cons,List.getD_cons_succ] at this
    omega
theorem needs_fits {x : FBook} {plan : List Work} {c : Int} : needsF x plan ≤ c ↔ 0 ≤ c ∧ fitsF x c 0 plan := by
 unfold needsF
 rw [needs_le,fits_iff]
 unfold termF
 simp
theorem needs_sub {x : FBook} (hx : FIn x) {p q : List Work} (h : p.Sublist q) (hq : ∀ w ∈ q,0 ≤ w.s ∧ w.s < x.feet.length) : needsF x p ≤ needsF x q := by
 obtain ⟨h1,h2⟩ := needs_fits.1 (Int.le_refl (needsF x q))
 exact needs_fits.2 ⟨h1,fits_sub hx h hq h2⟩

/-! ### The order of plans -/
theorem cmp_neg {a b : Work} : compareF a b < 0 ↔ wlt a b := by
 rw [← compare_wlt]; omega
theorem cmp_zero {a b : Work} : compareF a b = 0 ↔ a = b := by
 obtain ⟨a1,a2⟩ := a
 obtain ⟨b1,b2⟩ := b
 unfold compareF
 constructor
 ·intro h
  split at h
  ·rename_i h1; rw [Work.mk.injEq]; exact ⟨h1,by show a2 = b2; have h' : a2 - b2 = 0 := h; omega⟩
  ·rename_i h1; have h' : a1 - b1 = 0 := h; exact absurd (show a1 = b1 by omega) h1
 ·intro h
  cases h
  simp
theorem cmpPlans_trans : ∀ {p q r : List Work},cmpPlans p q < 0 → cmpPlans q r < 0 → cmpPlans p r < 0
 | [],[],_,h,_ => by simp [cmpPlans] at h
 | [],_ :: _,[],_,h => by simp [cmpPlans] at h
 | [],_ :: _,_ :: _,_,_ => by simp [cmpPlans]
 | _ :: _,[],_,h,_ => by simp [cmpPlans] at h
 | _ :: _,_ :: _,[],_,h => by simp [cmpPlans] at h
 | a :: p,b :: q,c :: r,h1,h2 => by
  simp only [cmpPlans] at h1 h2 ⊢
  by_cases hab : compareF a b = 0
  ·rw [if_neg (by simp [hab])] at h1
   obtain rfl := cmp_zero.1 hab
   by_cases hac : compareF a c = 0
   ·rw [if_neg (by simp [hac])] at h2 ⊢
    exact cmpPlans_trans h1 h2
   ·rw [if_pos hac] at h2 ⊢
    exact h2
  ·rw [if_pos hab] at h1
   by_cases hbc : compareF b c = 0
   ·obtain rfl := cmp_zero.1 hbc
    rw [if_pos hab]
    exact h1
   ·rw [if_pos hbc] at h2
    have h3 := wlt_trans (cmp_neg.1 h1) (cmp_neg.1 h2)
    have h4 := cmp_neg.2 h3
    rw [if_pos (by omega)]
    exact h4
theorem better_iff {x : FBook} {p q : List Work} : betterWF x p q = true ↔ feetF x p < feetF x q ∨ feetF x p = feetF x q ∧ cmpPlans p q < 0 := by
 unfold betterWF
 simp
theorem better_trans {x : FBook} {p q r : List Work} (h1 : betterWF x p q = true) (h2 : betterWF x q r = true) : betterWF x p r = true := by
 rw [better_iff] at *
 rcases h1 with h1 | ⟨h1,h1'⟩ <;> rcases h2 with h2 | ⟨h2,h2'⟩
 ·exact .inl (by omega)
 ·exact .inl (by omega)
 ·exact .inl (by omega)
 ·exact .inr ⟨by omega,cmpPlans_trans h1' h2'⟩
theorem bestOf_spec (x : FBook) (l : List (List Work)) : ((bestOf x l).2 = true ∧ (bestOf x l).1 ∈ l ∧ fgoodF x (bestOf x l).1 = true ∧ ∀ p ∈ l,fgoodF x p = true → betterWF x p (bestOf x l).1 = false) ∨ ((bestOf x l).2 = false ∧ ∀ p ∈ l,fgoodF x p = false) := by
 have key : ∀ (l pre : List (List Work)) (o : List Work × Bool),((o.2 = true ∧ o.1 ∈ pre ∧ fgoodF x o.1 = true ∧ ∀ p ∈ pre,fgoodF x p = true → betterWF x p o.1 = false) ∨ (o.2 = false ∧ ∀ p ∈ pre,fgoodF x p = false)) →
   (((l.foldl (bestStep x) o).2 = true ∧ (l.foldl (bestStep x) o).1 ∈ pre ++ l ∧ fgoodF x (l.foldl (bestStep x) o).1 = true ∧ ∀ p ∈ pre ++ l,fgoodF x p = true → betterWF x p (l.foldl (bestStep x) o).1 = false) ∨ ((l.foldl (bestStep x) o).2 = false ∧ ∀ p ∈ pre ++ l,fgoodF x p = false)) := by
  intro l
  induction l with
  | nil => intro pre o h; simpa using h
  | cons q l ih =>
   intro pre o h
   have := ih (pre ++ [q]) (bestStep x o q) ?_
   ·simpa using this
   ·have hself : ∀ p,betterWF x p p = false := by
     intro p
     have hc : ∀ p : List Work,cmpPlans p p = 0 := by
      intro p
      induction p with
      | nil => rfl
      | cons w p ih2 => simp only [cmpPlans]; rw [if_neg (by simp [cmp_zero.2 rfl])]; exact ih2
     cases hb : betterWF x p p with
     | false => rfl
     | true =>
      rw [better_iff] at hb
      rcases hb with hb | ⟨_,hb⟩
      ·omega
      ·rw [hc] at hb; omega
    unfold bestStep
    cases hg : fgoodF x q with
    | false =>
     rw [Bool.false_and,if_neg (by decide)]
     rcases h with ⟨h1,h2,h3,h4⟩ | ⟨h1,h2⟩
     ·refine .inl ⟨h1,by simp [h2],h3,fun p hp hgp => ?_⟩
      rcases List.mem_append.1 hp with hp | hp
      ·exact h4 p hp hgp
      ·rw [List.mem_singleton] at hp; subst hp; rw [hg] at hgp; cases hgp
     ·refine .inr ⟨h1,fun p hp => ?_⟩
      rcases List.mem_append.1 hp with hp | hp
      ·exact h2 p hp
      ·rw [List.mem_singleton] at hp; subst hp; exact hg
    | true =>
     rw [Bool.true_and]
     rcases h with ⟨h1,h2,h3,h4⟩ | ⟨h1,h2⟩
     ·rw [h1,Bool.not_true,Bool.false_or]
      cases hb : betterWF x q o.1 with
      | true =>
       rw [if_pos rfl]
       refine .inl ⟨rfl,by simp,hg,fun p hp hgp => ?_⟩
       rcases List.mem_append.1 hp with hp | hp
       ·cases hpq : betterWF x p q with
        | false => rfl
        | true => have := better_trans hpq hb; rw [h4 p hp hgp] at this; cases this
       ·rw [List.mem_singleton] at hp; subst hp; exact hself _
      | false =>
       rw [if_neg (by decide)]
       refine .inl ⟨h1,by simp [h2],h3,fun p hp hgp => ?_⟩
       rcases List.mem_append.1 hp with hp | hp
       ·exact h4 p hp hgp
       ·rw [List.mem_singleton] at hp; subst hp; exact hb
     ·rw [h1,Bool.not_false,Bool.true_or,if_pos rfl]
      refine .inl ⟨rfl,by simp,hg,fun p hp hgp => ?_⟩
      rcases List.mem_append.1 hp with hp | hp
      ·rw [h2 p hp] at hgp; cases hgp
      ·rw [List.mem_singleton] at hp; subst hp; exact hself _
 have := key l [] ([],false) (.inr ⟨rfl,fun p hp => by cases hp⟩)
 simpa [bestOf] using this
end Go.Di

namespace Go.Di
open Proofs

/-! ### Sets of days as numbers -/
def b2i (b : Bool) : Int := if b then 1 else 0
def maskB (b : Nat → Bool) : Int := b2i (b 0) + 2 * b2i (b 1) + 4 * b2i (b 2) + 8 * b2i (b 3) + 16 * b2i (b 4)
theorem mask_bits : ∀ a b c d e : Bool,(bitF (b2i a + 2 * b2i b + 4 * b2i c + 8 * b2i d + 16 * b2i e) 0 == a && bitF (b2i a + 2 * b2i b + 4 * b2i c + 8 * b2i d + 16 * b2i e) 1 == b && bitF (b2i a + 2 * b2i b + 4 * b2i c + 8 * b2i d + 16 * b2i e) 2 == c && bitF (b2i a + 2 * b2i b + 4 * b2i c + 8 * b2i d + 16 * b2i e) 3 == d && bitF (b2i a + 2 * b2i b + 4 * b2i c + 8 * b2i d + 16 * b2i e) 4 == e) = true := by
 intro a b c d e
 cases a <;> cases b <;> cases c <;> cases d <;> cases e <;> kernel_rfl
theorem mask_bit (b : Nat → Bool) {k : Nat} (hk : k < 5) : bitF (maskB b) k = b k := by
 have h := mask_bits (b 0) (b 1) (b 2) (b 3) (b 4)
 simp only [Bool.and_eq_true,beq_iff_eq] at h
 obtain ⟨⟨⟨⟨h0,h1⟩,h2⟩,h3⟩,h4⟩ := h
 have h5 : k = 0 ∨ k = 1 ∨ k = 2 ∨ k = 3 ∨ k = 4 := by omega
 rcases h5 with rfl | rfl | rfl | rfl | rfl
 ·exact h0
 ·exact h1
 ·exact h2
 ·exact h3
 ·exact h4
theorem b2i_in (b : Bool) : 0 ≤ b2i b ∧ b2i b ≤ 1 := by cases b <;> decide
theorem mask_lt (b : Nat → Bool) {n : Nat} (hn : n ≤ 5) (hb : ∀ k,n ≤ k → b k = false) : 0 ≤ maskB b ∧ maskB b < ((2 ^ n : Nat) : Int) := by
 have h0 := b2i_in (b 0); have h1 := b2i_in (b 1); have h2 := b2i_in (b 2); have h3 := b2i_in (b 3); have h4 := b2i_in (b 4)
 have hz : ∀ k,n ≤ k → b2i (b k) = 0 := fun k hk => by rw [hb k hk]; rfl
 unfold maskB
 have h6 : n = 0 ∨ n = 1 ∨ n = 2 ∨ n = 3 ∨ n = 4 ∨ n = 5 := by omega
 rcases h6 with rfl | rfl | rfl | rfl | rfl | rfl
 ·rw [hz 0 (by omega),hz 1 (by omega),hz 2 (by omega),hz 3 (by omega),hz 4 (by omega)]; decide
 ·rw [hz 1 (by omega),hz 2 (by omega),hz 3 (by omega),hz 4 (by omega),show ((2 ^ 1 : Nat) : Int) = 2 from rfl]; omega
 ·rw [hz 2 (by omega),hz 3 (by omega),hz 4 (by omega),show ((2 ^ 2 : Nat) : Int) = 4 from rfl]; omega
 ·rw [hz 3 (by omega),hz 4 (by omega),show ((2 ^ 3 : Nat) : Int) = 8 from rfl]; omega
 ·rw [hz 4 (by omega),show ((2 ^ 4 : Nat) : Int) = 16 from rfl]; omega
 ·rw [show ((2 ^ 5 : Nat) : Int) = 32 from rfl]; omega
theorem subset_tab : ((List.range 32).all fun k => (List.range 32).all fun l => (andF (k : Int) (l : Int) == (l : Int)) == ((List.range 5).all fun j => !bitF (l : Int) j || bitF (k : Int) j)) = true := by kernel_rfl
theorem subset_iff {k l : Nat} (hk : k < 32) (hl : l < 32) : andF (k : Int) (l : Int) = (l : Int) ↔ ∀ j,j < 5 → bitF (l : Int) j = true → bitF (k : Int) j = true := by
 have h := List.all_eq_true.1 (List.all_eq_true.1 subset_tab k (List.mem_range.2 hk)) l (List.mem_range.2 hl)
 rw [beq_iff_eq] at h
 rw [← beq_iff_eq,h,List.all_eq_true]
 constructor
 ·intro hh j hj hb
  have := hh j (List.mem_range.2 hj)
  rw [hb] at this
  simpa using this
 ·intro hh j hj
  cases hb : bitF (l : Int) j with
  | false => simp
  | true => rw [hh j (List.mem_range.1 hj) hb]; rfl

/-! ### The least sets on which a section is to be changed -/
section
variable {x : FBook} {th : List (List Int)} {wr : List Int} {s : Nat}
theorem changes_keep : ∀ {K : Nat} {l : Int},l ∈ changesTo x th wr s K → ∃ k : Nat,k < K ∧ l = (k : Int) ∧ keepsF x th wr s k = true
 | 0,l,h => by cases h
 | K + 1,l,h => by
  simp only [changesTo] at h
  split at h
  ·obtain ⟨k,h1,h2⟩ := changes_keep h
   exact ⟨k,by omega,h2⟩
  ·split at h
   ·rename_i _ hk
    rcases List.mem_append.1 h with h | h
    ·obtain ⟨k,h1,h2⟩ := changes_keep h
     exact ⟨k,by omega,h2⟩
    ·rw [List.mem_singleton] at h
     exact ⟨K,by omega,h,hk⟩
   ·obtain ⟨k,h1,h2⟩ := changes_keep h
    exact ⟨k,by omega,h2⟩
theorem changes_least : ∀ {K k : Nat},k < K → K ≤ 32 → keepsF x th wr s k = true → ∃ l : Nat,(l : Int) ∈ changesTo x th wr s K ∧ l < 32 ∧ andF (k : Int) (l : Int) = (l : Int)
 | 0,k,h,_,_ => by omega
 | K + 1,k,h,hK,hk => by
  have hsub : ∀ z,z ∈ changesTo x th wr s K → z ∈ changesTo x th wr s (K + 1) := by
   intro z hz
   simp only [changesTo]
   split
   ·exact hz
   ·split
    ·exact List.mem_append.2 (.inl hz)
    ·exact hz
  by_cases hkK : k = K
  ·subst hkK
   by_cases ha : ((changesTo x th wr s k).any fun l => andF k l == l) = true
   ·obtain ⟨l,h1,h2⟩ := List.any_eq_true.1 ha
    obtain ⟨j,h3,rfl,_⟩ := changes_keep h1
    exact ⟨j,hsub _ h1,by omega,by simpa using h2⟩
   ·refine ⟨k,?_,by omega,(subset_iff (by omega) (by omega)).2 fun j _ h => h⟩
    simp only [changesTo]
    rw [if_neg ha,if_pos hk]
    exact List.mem_append.2 (.inr (by simp))
  ·obtain ⟨l,h1,h2⟩ := changes_least (K := K) (k := k) (by omega) (by omega) hk
   exact ⟨l,hsub _ h1,h2⟩
end

/-! ### All plans that are looked at -/
def setAll (c : Nat → Int) : Nat → Nat → W4 → W4
 | 0,_,on => on
 | f + 1,s,on => setAll c f (s + 1) (on.set s (c s))
theorem plansGo_has {x : FBook} {al : List (List Int)} {c : Nat → Int} : ∀ (f s : Nat) (on : W4),(∀ j,s ≤ j → j < s + f → c j ∈ al.getD j []) → plannedF x (setAll c f s on) ∈ plansGo x al f s on
 | 0,s,on,_ => by simp [plansGo,setAll]
 | f + 1,s,on,h => by
  simp only [plansGo,setAll,List.mem_flatMap]
  exact ⟨c s,h s (Nat.le_refl _) (by omega),plansGo_has f (s + 1) _ fun j h1 h2 => h j (by omega) (by omega)⟩
theorem plansGo_of {x : FBook} {al : List (List Int)} : ∀ (f s : Nat) (on : W4) (p : List Work),p ∈ plansGo x al f s on → ∃ c : Nat → Int,p = plannedF x (setAll c f s on) ∧ ∀ j,s ≤ j → j < s + f → c j ∈ al.getD j []
 | 0,s,on,p,h => ⟨fun _ => 0,by simpa [plansGo,setAll] using h,fun j h1 h2 => by omega⟩
 | f + 1,s,on,p,h => by
  simp only [plansGo,List.mem_flatMap] at h
  obtain ⟨z,hz,h⟩ := h
  obtain ⟨c,h1,h2⟩ := plansGo_of f (s + 1) _ p h
  have hcong : ∀ (f s' : Nat) (on : W4),s < s' → setAll c f s' on = setAll (fun j => if j = s then z else c j) f s' on := by
   intro f
   induction f with
   | zero => exact fun _ _ _ => rfl
   | succ f ih =>
    intro s' on hs'
    simp only [setAll]
    rw [if_neg (by omega)]
    exact ih (s' + 1) _ (by omega)
  refine ⟨fun j => if j = s then z else c j,?_,fun j h3 h4 => ?_⟩
  ·rw [h1]
   simp only [setAll,if_true]
   rw [hcong f (s + 1) _ (by omega)]
  ·dsimp only
   by_cases hj : j = s
   ·rw [if_pos hj,hj]; exact hz
   ·rw [if_neg hj]; exact h2 j (by omega) (by omega)
theorem get_set {on : W4} {s j : Nat} (hs : s < 4) (hj : j < 4) (z : Int) : (on.set s z).get j = if j = s then z else on.get j := by
 have h1 : s = 0 ∨ s = 1 ∨ s = 2 ∨ s = 3 := by omega
 have h2 : j = 0 ∨ j = 1 ∨ j = 2 ∨ j = 3 := by omega
 rcases h1 with rfl | rfl | rfl | rfl <;> rcases h2 with rfl | rfl | rfl | rfl <;> rfl
theorem setAll_get (c : Nat → Int) : ∀ (f s : Nat) (on : W4) (j : Nat),s + f ≤ 4 → j < 4 → (setAll c f s on).get j = if s ≤ j ∧ j < s + f then c j else on.get j
 | 0,s,on,j,_,_ => by rw [if_neg (by omega)]; rfl
 | f + 1,s,on,j,h,hj => by
  simp only [setAll]
  rw [setAll_get c f (s + 1) _ j (by omega) hj,get_set (by omega) hj]
  by_cases h1 : j = s
  ·subst h1
   rw [if_neg (by omega),if_pos rfl,if_pos (by omega)]
  ·rw [if_neg h1]
   by_cases h2 : s + 1 ≤ j ∧ j < s + 1 + f
   ·rw [if_pos h2,if_pos (by omega)]
   ·rw [if_neg h2,if_neg (by omega)]
theorem allF_get {x : FBook} {th : List (List Int)} {wr : List Int} {s : Nat} (hs : s < x.feet.length) : (allF x th wr).getD s [] = changesF x th wr s := by
 simp [allF,List.getD_eq_getElem?_getD,hs]

/-! ### Is it safe? -/
/-- No section ever is too thin at least,by a plan. -/
def SafeP (x : FBook) (th : List (List Int)) (wr : List Int) (plan : List Work) : Prop := ∀ s d : Int,0 ≤ s ∧ s < x.feet.length → 0 ≤ d ∧ d ≤ x.chain.days → x.chain.rule ≤ fleastF x th wr plan s d
section
variable {x : FBook} (hx : FIn x) (ho : x.opn.Pairwise (· < ·)) (th : List (List Int)) (wr : List Int)
include hx ho
theorem keeps_iff {s : Nat} (hs : s < x.feet.length) {f : Nat → Nat → Bool} {z : Int} (hz : ∀ k,k < x.opn.length → bitF z k = f k s) : keepsF x th wr s z = true ↔ ∀ d : Int,0 ≤ d ∧ d ≤ x.chain.days → x.chain.rule ≤ fleastF x th wr (grdF x f) s d := by
 have hn := hx.n
 have hday := hx.days
 have hsame : ∀ d : Int,fleastF x th wr (plannedF x (zeroW.set s z)) s d = fleastF x th wr (grdF x f) s d := by
  intro d
  rw [planned_grd]
  refine fleast_congr x th wr (grdTo_pair ho _ _ (Nat.le_refl _)) (grdTo_pair ho _ _ (Nat.le_refl _)) (fun w hw => ?_) d
  show w ∈ grdF x _ ↔ w ∈ grdF x f
  rw [grd_mem,grd_mem]
  constructor
  ·rintro ⟨k,j,h1,h2,h3,rfl⟩
   have hjs : j = s := by have hw' : (j : Int) = s := hw; omega
   subst hjs
   rw [get_set (by omega) (by omega),if_pos rfl,hz k h1] at h3
   exact ⟨k,j,h1,h2,h3,rfl⟩
  ·rintro ⟨k,j,h1,h2,h3,rfl⟩
   have hjs : j = s := by have hw' : (j : Int) = s := hw; omega
   subst hjs
   refine ⟨k,j,h1,h2,?_,rfl⟩
   rw [get_set (by omega) (by omega),if_pos rfl,hz k h1]
   exact h3
 unfold keepsF
 rw [List.all_eq_true]
 constructor
 ·intro h d hd
  have := h d.toNat (List.mem_range.2 (by omega))
  rw [Int.toNat_of_nonneg hd.1,hsame] at this
  simpa using this
 ·intro h d hd
  rw [List.mem_range] at hd
  have := h (d : Int) ⟨by omega,by omega⟩
  rw [hsame]
  simpa using this
theorem plans_safe {p : List Work} (hp : p ∈ plansF x th wr) : SafeP x th wr p := by
 obtain ⟨c,rfl,hc⟩ := plansGo_of _ _ _ _ hp
 have hn := hx.n
 intro s d hs hd
 have hs2 : s.toNat < x.feet.length := by omega
 have h1 := hc s.toNat (Nat.zero_le _) (by omega)
 rw [allF_get hs2] at h1
 obtain ⟨k,_,h2,h3⟩ := changes_keep h1
 rw [planned_grd]
 have := (keeps_iff hx ho th wr hs2 (f := fun k s => bitF ((setAll c x.feet.length 0 zeroW).get s) k) (z := (k : Int)) (fun j _ => by
  rw [setAll_get c _ 0 zeroW _ (by omega) (by omega),if_pos (by omega),h2])).1 h3 d hd
 rwa [Int.toNat_of_nonneg hs.1] at this
theorem plans_part (f : Nat → Nat → Bool) (hf : SafeP x th wr (grdF x f)) : ∃ p ∈ plansF x th wr,p.Sublist (grdF x f) := by
 have hn := hx.n
 have hol := hx.opnl
 have hpow : 2 ^ x.opn.length ≤ 32 := Nat.le_trans (Nat.pow_le_pow_right (by decide) hol) (by decide)
 -- the set of each section
 have hset : ∀ s,s < x.feet.length → ∃ l : Nat,(l : Int) ∈ changesF x th wr s ∧ ∀ j,j < x.opn.length → bitF (l : Int) j = true → f j s = true := by
  intro s hs
  obtain ⟨h1,h2⟩ := mask_lt (fun k => decide (k < x.opn.length) && f k s) (n := x.opn.length) hol (fun k hk => by rw [decide_eq_false (by omega)]; rfl)
  have hbit : ∀ k,k < x.opn.length → bitF (maskB fun k => decide (k < x.opn.length) && f k s) k = f k s := by
   intro k hk
   rw [mask_bit _ (by omega),decide_eq_true hk,Bool.true_and]
  have hkeep := (keeps_iff hx ho th wr hs (f := f) hbit).2 fun d hd => hf s d ⟨by omega,by omega⟩ hd
  generalize (maskB fun k => decide (k < x.opn.length) && f k s) = z at *
  have hz : ((z.toNat : Nat) : Int) = z := Int.toNat_of_nonneg h1
  obtain ⟨l,h3,h4,h5⟩ := changes_least (x := x) (th := th) (wr := wr) (s := s) (K := 2 ^ x.opn.length) (k := z.toNat) (by omega) hpow (by rw [hz]; exact hkeep)
  refine ⟨l,h3,fun j hj hb => ?_⟩
  have := (subset_iff (by omega) h4).1 h5 j (by omega) hb
  rw [hz,hbit j hj] at this
  exact this
 have hpick : ∃ c : Nat → Int,∀ s,s < x.feet.length → c s ∈ changesF x th wr s ∧ ∀ j,j < x.opn.length → bitF (c s) j = true → f j s = true := by
  refine ⟨fun s => if h : s < x.feet.length then ((hset s h).choose : Int) else 0,fun s hs => ?_⟩
  dsimp only
  rw [dif_pos hs]
  exact (hset s hs).choose_spec
 obtain ⟨c,hc⟩ := hpick
 refine ⟨_,plansGo_has (c := c) x.feet.length 0 zeroW fun j _ h2 => ?_,?_⟩
 ·rw [allF_get (by omega)]
  exact (hc j (by omega)).1
 ·rw [planned_grd]
  refine grd_sub fun k s hk hs h => ?_
  rw [setAll_get c _ 0 zeroW _ (by omega) (by omega),if_pos (by omega)] at h
  exact (hc s hs).2 k hk h
end
end Go.Di

namespace Go.Di
open Proofs
end Go.Di

namespace Go.Di
open Proofs

/-! ### THE LAW OF THE BEST PLAN -/
theorem fgood_iff {x : FBook} {plan : List Work} : fgoodF x plan = true ↔ needsF x plan ≤ x.stock := by unfold fgoodF; exact decide_eq_true_iff
theorem best_law {x : FBook} (hx : FIn x) (ho : x.opn.Pairwise (· < ·)) (th : List (List Int)) (wr : List Int) (f : Nat → Nat → Bool) (hs : SafeP x th wr (grdF x f)) (hg : fgoodF x (grdF x f) = true) :
  (bestF x th wr).2 = true ∧ (feetF x (bestF x th wr).1 < feetF x (grdF x f) ∨ feetF x (bestF x th wr).1 = feetF x (grdF x f) ∧ ¬ cmpPlans (grdF x f) (bestF x th wr).1 < 0) := by
 obtain ⟨p,hp,hsub⟩ := plans_part hx ho th wr f hs
 have hq : ∀ w ∈ grdF x f,0 ≤ w.s ∧ w.s < x.feet.length := fun w hw => by
  obtain ⟨k,j,_,hj,_,rfl⟩ := grd_mem.1 hw
  exact ⟨by show (0 : Int) ≤ (j : Int); omega,by show (j : Int) < _; omega⟩
 have hgp : fgoodF x p = true := fgood_iff.2 (Int.le_trans (needs_sub hx hsub hq) (fgood_iff.1 hg))
 rcases bestOf_spec x (plansF x th wr) with ⟨h1,h2,h3,h4⟩ | ⟨h1,h2⟩
 ·refine ⟨h1,?_⟩
  have hb := h4 p hp hgp
  have hb' : ¬ (feetF x p < feetF x (bestOf x (plansF x th wr)).1 ∨ feetF x p = feetF x (bestOf x (plansF x th wr)).1 ∧ cmpPlans p (bestOf x (plansF x th wr)).1 < 0) := by
   rw [← better_iff,hb]; simp
  show feetF x (bestOf x (plansF x th wr)).1 < _ ∨ feetF x (bestOf x (plansF x th wr)).1 = _ ∧ ¬ cmpPlans _ (bestOf x (plansF x th wr)).1 < 0
  generalize (bestOf x (plansF x th wr)).1 = b at *
  rcases feet_sub hx hsub hq with hlt | rfl
  ·exact .inl (by omega)
  ·by_cases he : feetF x (grdF x f) = feetF x b
   ·exact .inr ⟨he.symm,fun h => hb' (.inr ⟨he,h⟩)⟩
   ·exact .inl (by omega)
 ·rw [h2 p hp] at hgp; cases hgp
theorem best_is {x : FBook} (hx : FIn x) (ho : x.opn.Pairwise (· < ·)) (th : List (List Int)) (wr : List Int) (h : (bestF x th wr).2 = true) : (∃ f,(bestF x th wr).1 = grdF x f) ∧ SafeP x th wr (bestF x th wr).1 ∧ fgoodF x (bestF x th wr).1 = true := by
 rcases bestOf_spec x (plansF x th wr) with ⟨h1,h2,h3,h4⟩ | ⟨h1,h2⟩
 ·obtain ⟨on,he⟩ := plansGo_mem _ _ _ _ _ _ h2
  exact ⟨⟨_,he.trans (planned_grd x on)⟩,plans_safe hx ho th wr h2,h3⟩
 ·have h' : (bestOf x (plansF x th wr)).2 = true := h
  rw [h1] at h'; cases h'

/-! ### isPlan,good,sooner -/
end Go.Di

namespace Go.Di
open Proofs
/-! ### A book with another stock -/
section
variable (x : FBook) (c : Int)
end
theorem stockOf_le (x : FBook) (c : Int) : ∀ (l : List (List Work)) (n : Int),l.foldl (fun n p => mn n (needsF x p)) n ≤ c ↔ n ≤ c ∨ ∃ p ∈ l,needsF x p ≤ c
 | [],n => by simp
 | p :: l,n => by
  rw [List.foldl_cons,stockOf_le x c l]
  have : mn n (needsF x p) ≤ c ↔ n ≤ c ∨ needsF x p ≤ c := by unfold mn; split <;> omega
  rw [this]
  constructor
  ·rintro ((h | h) | ⟨q,hq,h⟩)
   ·exact .inl h
   ·exact .inr ⟨p,by simp,h⟩
   ·exact .inr ⟨q,by simp [hq],h⟩
  ·rintro (h | ⟨q,hq,h⟩)
   ·exact .inl (.inl h)
   ·rcases List.mem_cons.1 hq with rfl | hq
    ·exact .inl (.inr h)
    ·exact .inr ⟨q,hq,h⟩
theorem stock_le {x : FBook} (hx : FIn x) (ho : x.opn.Pairwise (· < ·)) (th : List (List Int)) (wr : List Int) {c : Int} (hc : c ≤ 200) : stockF x th wr ≤ c ↔ ∃ f,SafeP x th wr (grdF x f) ∧ needsF x (grdF x f) ≤ c := by
 unfold stockF stockOf
 rw [stockOf_le]
 constructor
 ·rintro (h | ⟨p,hp,h⟩)
  ·omega
  ·obtain ⟨on,rfl⟩ := plansGo_mem _ _ _ _ _ _ hp
   have hs := plans_safe hx ho th wr hp
   rw [planned_grd] at hs h
   exact ⟨_,hs,h⟩
 ·rintro ⟨f,h1,h2⟩
  obtain ⟨p,hp,hsub⟩ := plans_part hx ho th wr f h1
  refine .inr ⟨p,hp,Int.le_trans (needs_sub hx hsub fun w hw => ?_) h2⟩
  obtain ⟨k,j,_,hj,_,rfl⟩ := grd_mem.1 hw
  exact ⟨by show (0 : Int) ≤ (j : Int); omega,by show (j : Int) < _; omega⟩
theorem stock_nn {x : FBook} (th : List (List Int)) (wr : List Int) : 0 ≤ stockF x th wr := by
 have hnn : ∀ p,0 ≤ needsF x p := fun p => by
  have := (needs_fits (x := x) (plan := p) (c := needsF x p)).1 (Int.le_refl _)
  exact this.1
 by_cases h : stockF x th wr ≤ -1
 ·unfold stockF stockOf at h
  rw [stockOf_le] at h
  rcases h with h | ⟨p,_,h⟩
  ·omega
  ·have := hnn p; omega
 ·omega
end Go.Di

namespace Go.Di
open Proofs
end Go.Di

namespace Go.Di
open Proofs
theorem best_plan {x : FBook} (hV : FValid x) (h : (bestF x (knowTh x) (knowWr x)).2 = true) : IsPlan x (bestF x (knowTh x) (knowWr x)).1 := by
 obtain ⟨⟨f,hf⟩,_⟩ := best_is hV.inn hV.opn.2 _ _ h
 rw [hf]
 exact grd_plan hV f
end Go.Di

namespace Go.Di
open Proofs
/-! ### Lists that climb are told by their members -/
/-! ### One open day more -/
section
variable {x : FBook} (hV : FValid x) {d : Int} (hd : 0 ≤ d ∧ d ≤ x.chain.days) (hno : d ∉ x.opn)
include hV hd hno
end
section
variable (x : FBook) (l : List Int)
end
end Go.Di

namespace Go.Di
open Proofs
/-! ### The day that is told to rest -/
/-! ### A list of days as the law builds it -/
end Go.Di

namespace Go.Di
open Proofs
theorem leastV_nil (x : FBook) (s d : Int) : leastV x [] s d = oldF (knowTh x) s d := rfl
theorem planB_nil {x : FBook} (hV : FValid x) : planB x [] = true := (isPlan_iff hV).2 ⟨(fun w hw => absurd hw (by simp)),List.Pairwise.nil⟩
end Go.Di

namespace Go.Di
open Proofs
/-! ### Without works -/
theorem knowTh_at {x : FBook} {s d : Int} (hs : 0 ≤ s ∧ s < x.feet.length) (hd : 0 ≤ d ∧ d ≤ x.chain.days) : oldF (knowTh x) s d = thickLo x.chain s d := by
 unfold oldF knowTh
 have e : ((List.range x.feet.length).map fun s => (List.range (x.chain.days + 1).toNat).map fun d => thickLo x.chain (s : Nat) (d : Nat)).getD s.toNat [] = (List.range (x.chain.days + 1).toNat).map fun d => thickLo x.chain (s.toNat : Nat) (d : Nat) := by
  rw [List.getD_eq_getElem?_getD,List.getElem?_map,List.getElem?_range (by omega)]
  rfl
 rw [e,List.getD_eq_getElem?_getD,List.getElem?_map,List.getElem?_range (by omega)]
 show thickLo x.chain (s.toNat : Int) (d.toNat : Int) = _
 rw [Int.toNat_of_nonneg hs.1,Int.toNat_of_nonneg hd.1]
theorem may_bad {x : FBook} {k : Nat} (hk : k < x.feet.length) {d : Nat} (hd : (d : Int) ≤ x.chain.days) : mayF x.chain (truthsF x.chain []) x.chain.turns k d = decide (leastV x [] k d < x.chain.rule) := by
 rw [leastV_nil,knowTh_at (by omega) (by omega)]
 rfl
end Go.Di

namespace Go.Di
open Proofs
end Go.Di

namespace Go.Di
open Proofs

/-! ### The law ChainFirst -/
end Go.Di

namespace Go.Di
open Proofs

/-! ### How thick a section can be: from 0 to 200 -/
/-! ### The law ChainEnds -/
end Go.Di

namespace Go.Di
open Proofs

/-! ### What can be of one book can be of another -/
/-! ### Where a section lies,by the number of turns -/
/-! ### What can be,by all surveys -/
structure Feas0 (b : Book) (T : Nat → Int) (x : W4) : Prop where
 wear : ∀ p < b.secs.length,(b.secs.getD p sec0).w.lo ≤ x.at p ∧ x.at p ≤ (b.secs.getD p sec0).w.hi
 zero : ∀ p,b.secs.length ≤ p → x.at p = 0
 thick : ∀ k < b.secs.length,(b.secs.getD k sec0).t.lo ≤ T k ∧ T k ≤ (b.secs.getD k sec0).t.hi
end Go.Di

namespace Go.Di
open Proofs

/-! ### A book without some of its surveys -/
/-! ### Lists that climb -/
def Up (n : Int) : Int → List Int → Prop
 | _,[] => True
 | a,x :: l => a ≤ x ∧ x < n ∧ Up n (x + 1) l
theorem Up.mono {n m : Int} (hm : m ≤ n) : ∀ {l : List Int} {a : Int},Up m a l → Up n a l
 | [],a,_ => trivial
 | y :: l,a,⟨h1,h2,h3⟩ => ⟨h1,by omega,Up.mono hm h3⟩
theorem Up.len {n : Int} : ∀ {l : List Int} {a : Int},Up n a l → a ≤ n → (l.length : Int) ≤ n - a
 | [],a,_,ha => by simp; omega
 | y :: l,a,⟨h1,h2,h3⟩,ha => by
  have := h3.len (by omega)
  simp only [List.length_cons]
  omega
/-! ### The surveys that are told -/
end Go.Di

namespace Go.Di
open Proofs

/-! ### A book with a turn more -/
theorem rises_up {days : Int} : ∀ (l : List Int) (a : Int),(l.foldl (turnF days) (true,a)).1 = true ↔ Up (days + 1) (a + 1) l
 | [],a => by simp [Up]
 | t :: l,a => by
  have ih := rises_up (days := days) l t
  simp only [List.foldl_cons,turnF,Up]
  rw [turns_and,Bool.and_eq_true,ih,Bool.true_and,within_iff]
  constructor
  ·rintro ⟨⟨h1,h2⟩,h3⟩; exact ⟨h1,by omega,h3⟩
  ·rintro ⟨h1,h2,h3⟩; exact ⟨⟨h1,by omega⟩,h3⟩
theorem Valid.up {b : Book} (hV : Valid b) : Up (b.days + 1) 1 b.turns := by
 have := hV.rises
 unfold risesF at this
 rw [rises_up] at this
 exact this
/-! ### The turn that is told -/
end Go.Di

namespace Go.Di
open Proofs
/-! ### A chain that needs nothing -/
theorem feet_nn {x : FBook} (hV : FValid x) : ∀ p : List Work,0 ≤ feetF x p
 | [] => Int.le_refl _
 | w :: p => by
  have ih := feet_nn hV p
  rw [feet_cons]
  have : 0 ≤ x.feet.getD w.s.toNat 0 := by
   by_cases h : w.s.toNat < x.feet.length
   ·have := hV.each _ (mem_getD 0 h); omega
   ·rw [List.getD_eq_getElem?_getD,List.getElem?_eq_none (by omega)]; decide
  omega
theorem grd_none (x : FBook) : grdF x (fun _ _ => false) = [] := by
 rw [List.eq_nil_iff_forall_not_mem]
 intro w hw
 obtain ⟨k,j,_,_,h,_⟩ := grd_mem.1 hw
 cases h
theorem safe_nil {x : FBook} (h : fthinF x (knowTh x) (knowWr x) [] = none) : SafeP x (knowTh x) (knowWr x) [] := fun s d hs hd => thinN h hs hd
theorem spare_best {x : FBook} (hV : FValid x) (h : fthinF x (knowTh x) (knowWr x) [] = none) : bestF x (knowTh x) (knowWr x) = ([],true) := by
 have hx := hV.inn
 have hsk := hV.stock
 have hlaw := best_law hx hV.opn.2 (knowTh x) (knowWr x) (fun _ _ => false) (by rw [grd_none]; exact safe_nil h) (by rw [grd_none,fgood_iff]; exact hsk.1)
 rw [grd_none] at hlaw
 have hb := best_plan hV hlaw.1
 have hnn := feet_nn hV (bestF x (knowTh x) (knowWr x)).1
 have h0 : feetF x [] = 0 := rfl
 have hsub := feet_sub hx (p := []) (q := (bestF x (knowTh x) (knowWr x)).1) (List.nil_sublist _) fun w hw => (hb.1 w hw).2
 have hf := hlaw.1
 generalize bestF x (knowTh x) (knowWr x) = o at *
 obtain ⟨p,f⟩ := o
 dsimp only at *
 subst hf
 have hp : [] = p := by
  rcases hsub with h1 | h1
  ·omega
  ·exact h1
 rw [← hp]
theorem spare_stock {x : FBook} (hV : FValid x) (h : fthinF x (knowTh x) (knowWr x) [] = none) : stockF x (knowTh x) (knowWr x) = 0 := by
 have h1 := (stock_le hV.inn hV.opn.2 (knowTh x) (knowWr x) (c := 0) (by omega)).2 ⟨fun _ _ => false,by rw [grd_none]; exact safe_nil h,by rw [grd_none]; exact Int.le_refl _⟩
 have h2 := stock_nn (x := x) (knowTh x) (knowWr x)
 omega
theorem spare_rest {x : FBook} (hV : FValid x) (h : fthinF x (knowTh x) (knowWr x) [] = none) : ∀ i,restTo x (knowTh x) (knowWr x) i = (-1,0,true)
 | 0 => by
  show (-1,feetF x (bestF x (knowTh x) (knowWr x)).1,(bestF x (knowTh x) (knowWr x)).2) = _
  rw [spare_best hV h]
  rfl
 | i + 1 => by
  show restStep x (knowTh x) (knowWr x) (restTo x (knowTh x) (knowWr x) i) i = _
  rw [spare_rest hV h i]
  unfold restStep
  split
  ·rfl
  ·split
   ·rfl
   ·rename_i p hp
    have := feet_nn hV p
    rw [if_neg]
    intro hh
    rcases hh with hh | hh
    ·cases hh
    ·dsimp only at hh; omega
theorem some_best {x : FBook} (hV : FValid x) {d0 s0 : Nat} (h : fthinF x (knowTh x) (knowWr x) [] = some (d0,s0)) (hf : (bestF x (knowTh x) (knowWr x)).2 = true) : (bestF x (knowTh x) (knowWr x)).1 ≠ [] := by
 intro he
 obtain ⟨_,h2,_⟩ := best_is hV.inn hV.opn.2 _ _ hf
 rw [he] at h2
 obtain ⟨g1,g2,g3,_⟩ := thinS h
 have := h2 s0 d0 ⟨by omega,g2⟩ ⟨by omega,g1⟩
 omega

/-! ### The first day on which a section must be cut -/
theorem cutLo_mem {x : FBook} {d : Nat} (hd : (d : Int) ≤ x.chain.days) : ∀ i,i ≤ x.feet.length → ∀ z,z ∈ cutGo x.chain (truthsF x.chain []) d i ↔ ∃ k : Nat,k < i ∧ z = (k : Int) ∧ fbadF x (knowTh x) (knowWr x) [] d k = true
 | 0,_,z => by simp [cutGo]
 | i + 1,hi,z => by
  have ih := cutLo_mem hd i (by omega) z
  have e : ((thickF x.chain (truthsF x.chain []) x.chain.turns i d).lo < x.chain.rule) ↔ fbadF x (knowTh x) (knowWr x) [] d i = true := by
   unfold fbadF
   rw [decide_eq_true_iff]
   have := may_bad (x := x) (k := i) (by omega) hd
   unfold mayF at this
   rw [decide_eq_decide] at this
   exact this
  simp only [cutGo]
  by_cases hb : fbadF x (knowTh x) (knowWr x) [] d i = true
  ·rw [if_pos (e.2 hb),List.mem_append,ih,List.mem_singleton]
   constructor
   ·rintro (⟨k,h1,h2,h3⟩ | rfl)
    ·exact ⟨k,by omega,h2,h3⟩
    ·exact ⟨i,by omega,rfl,hb⟩
   ·rintro ⟨k,h1,h2,h3⟩
    by_cases hk : k = i
    ·subst hk; exact .inr h2
    ·exact .inl ⟨k,by omega,h2,h3⟩
  ·rw [if_neg (mt e.1 hb),ih]
   constructor
   ·rintro ⟨k,h1,h2,h3⟩; exact ⟨k,by omega,h2,h3⟩
   ·rintro ⟨k,h1,h2,h3⟩
    by_cases hk : k = i
    ·subst hk; exact absurd h3 hb
    ·exact ⟨k,by omega,h2,h3⟩
theorem cutLo_pair (b : Book) (ts : List TrC) (d : Int) : ∀ i,(cutGo b ts d i).Pairwise (· < ·) ∧ ∀ z ∈ cutGo b ts d i,0 ≤ z ∧ z < i
 | 0 => ⟨List.Pairwise.nil,fun z hz => by cases hz⟩
 | i + 1 => by
  obtain ⟨h1,h2⟩ := cutLo_pair b ts d i
  simp only [cutGo]
  split
  ·refine ⟨?_,fun z hz => ?_⟩
   ·rw [List.pairwise_append]
    refine ⟨h1,by simp,fun a ha c hc => ?_⟩
    simp only [List.mem_singleton] at hc
    have := h2 a ha
    omega
   ·rcases List.mem_append.1 hz with hz | hz
    ·have := h2 z hz; omega
    ·simp only [List.mem_singleton] at hz; omega
  ·exact ⟨h1,fun z hz => by have := h2 z hz; omega⟩
def cutL (x : FBook) (d : Nat) : List Int := cutGo x.chain (truthsF x.chain []) d x.feet.length
/-- The loop of the law: from the last day on,the first day that has something to cut. -/
def fcutTo (x : FBook) : Nat → Int × Int
 | 0 => (-1,0)
 | i + 1 => if (cutL x (x.chain.days.toNat - i)).length > 0 then (((x.chain.days.toNat - i : Nat) : Int),(cutL x (x.chain.days.toNat - i)).getD 0 0) else fcutTo x i
theorem cutL_none {x : FBook} {d : Nat} (hd : (d : Int) ≤ x.chain.days) (h : ∀ k,k < x.feet.length → fbadF x (knowTh x) (knowWr x) [] d k = false) : cutL x d = [] := by
 rw [List.eq_nil_iff_forall_not_mem]
 intro z hz
 obtain ⟨k,h1,_,h3⟩ := (cutLo_mem hd x.feet.length (Nat.le_refl _) z).1 hz
 rw [h k h1] at h3
 cases h3
theorem cutL_some {x : FBook} {d s : Nat} (hd : (d : Int) ≤ x.chain.days) (hs : s < x.feet.length) (h : fbadF x (knowTh x) (knowWr x) [] d s = true) (hl : ∀ k,k < s → fbadF x (knowTh x) (knowWr x) [] d k = false) : (cutL x d).length > 0 ∧ (cutL x d).getD 0 0 = (s : Int) := by
 have hm := cutLo_mem hd x.feet.length (Nat.le_refl _)
 have hp := (cutLo_pair x.chain (truthsF x.chain []) d x.feet.length).1
 have hin : (s : Int) ∈ cutL x d := (hm s).2 ⟨s,hs,rfl,h⟩
 unfold cutL at hin ⊢
 generalize cutGo x.chain (truthsF x.chain []) d x.feet.length = l at *
 cases l with
 | nil => cases hin
 | cons a l =>
  refine ⟨by simp,?_⟩
  show a = (s : Int)
  obtain ⟨k,h1,h2,h3⟩ := (hm a).1 (by simp)
  rcases List.mem_cons.1 hin with e | hin
  ·exact e.symm
  ·have := (List.pairwise_cons.1 hp).1 _ hin
   have := hl k (by omega)
   rw [this] at h3
   cases h3
theorem fcut_spec {x : FBook} (h0 : 0 ≤ x.chain.days) : ∀ i : Nat,(i : Int) ≤ x.chain.days + 1 →
  match fthinF x (knowTh x) (knowWr x) [] with
  | none => fcutTo x i = (-1,0)
  | some (d0,s0) => (d0 : Int) + i ≥ x.chain.days + 1 → fcutTo x i = ((d0 : Int),(s0 : Int))
 | 0,_ => by
  cases h : fthinF x (knowTh x) (knowWr x) [] with
  | none => rfl
  | some p =>
   obtain ⟨d0,s0⟩ := p
   have := (thinS h).1
   exact fun hh => by omega
 | i + 1,hi => by
  have ih := fcut_spec h0 i (by omega)
  cases h : fthinF x (knowTh x) (knowWr x) [] with
  | none =>
   rw [h] at ih
   dsimp only at ih ⊢
   have hc : cutL x (x.chain.days.toNat - i) = [] := cutL_none (by omega) fun k hk => by
    cases hb : fbadF x (knowTh x) (knowWr x) [] (x.chain.days.toNat - i) k with
    | false => rfl
    | true =>
     have h1 := fbad_yes hb
     have h2 := thinN h (s := (k : Int)) (d := ((x.chain.days.toNat - i : Nat) : Int)) (by omega) (by omega)
     omega
   simp only [fcutTo]
   rw [hc,if_neg (by simp),ih]
  | some p =>
   obtain ⟨d0,s0⟩ := p
   rw [h] at ih
   dsimp only at ih ⊢
   intro hge
   obtain ⟨g1,g2,g3,g4⟩ := thinS h
   simp only [fcutTo]
   by_cases hd : x.chain.days.toNat - i = d0
   ·have hb : fbadF x (knowTh x) (knowWr x) [] d0 s0 = true := decide_eq_true g3
    have hl : ∀ k,k < s0 → fbadF x (knowTh x) (knowWr x) [] d0 k = false := fun k hk => by
     cases hbk : fbadF x (knowTh x) (knowWr x) [] d0 k with
     | false => rfl
     | true =>
      have := g4 (k : Int) (d0 : Int) (by omega) (by omega) (fbad_yes hbk)
      omega
    obtain ⟨q1,q2⟩ := cutL_some (by omega) (by omega) hb hl
    rw [hd,if_pos q1,q2]
   ·have hlt : x.chain.days.toNat - i < d0 := by omega
    have hc : cutL x (x.chain.days.toNat - i) = [] := cutL_none (by omega) fun k hk => by
     cases hb : fbadF x (knowTh x) (knowWr x) [] (x.chain.days.toNat - i) k with
     | false => rfl
     | true =>
      have := g4 (k : Int) ((x.chain.days.toNat - i : Nat) : Int) (by omega) (by omega) (fbad_yes hb)
      omega
    rw [hc,if_neg (by simp)]
    exact ih (by omega)

/-! ### The first day without works -/
end Go.Di

namespace Go.Di
open Proofs
/-- One section that is worn by two each day,and a day to change it. -/
def links7 : FBook := { chain := { secs := [⟨⟨20,21⟩,⟨2,2⟩⟩],turns := [],svs := [],rule := 11,days := 6 },feet := [4],new := 20,opn := [3],stock := 4,make := 0 }
end Go.Di

