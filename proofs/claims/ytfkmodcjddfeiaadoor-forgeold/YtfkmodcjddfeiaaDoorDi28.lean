/- Part 28: an interpreter over plain data for this code, with the proof that it says what the model does, and the contracts of the functions. No condition. -/
import Derived.Test.YtfkmodcjddfeiaaDoorDi27
set_option linter.unusedVariables false
set_option linter.unusedSimpArgs false
namespace Go.Di
open Proofs
theorem isSec_t {b : Book} {s : Int} (h : 0 ≤ s ∧ s < b.secs.length) : isSectionF b s = true := by unfold isSectionF; rw [within_iff]; omega
theorem isDay_t {b : Book} {d : Int} (h : 0 ≤ d ∧ d ≤ b.days) : isDayF b d = true := by unfold isDayF; rw [within_iff]; exact h
theorem err_f {b : Book} (hV : Valid b) (hc : canF b = false) : errF b true = 12 := by unfold errF; rw [valid_iff.2 hV,hc]; rfl
theorem thinU_con {x : FBook} (hV : FValid x) (hc : canF x.chain = true) {k : Int} (hk : 0 ≤ k ∧ k < x.feet.length) :
  CF 43 [bookD x.chain,.int .i64 k] (if thinK x k.toNat ≤ x.chain.days then .tup [.int .i64 (thinK x k.toNat),.int .i64 0] else .tup [.int .i64 0,.int .i64 4]) := by
 have hfe := hV.feet
 have h := (thinA_con (small_of hV.chain) k).up
 unfold thinAF at h
 rw [isSec_t (by omega),err_zero hV.chain hc] at h
 unfold dayOr at h
 rw [if_pos rfl] at h
 have e : thinF x.chain (truthsF x.chain []) x.chain.turns k = thinK x k.toNat := by unfold thinK; rw [Int.toNat_of_nonneg hk.1]
 rw [e] at h
 by_cases hd : thinK x k.toNat ≤ x.chain.days
 ·rw [if_pos hd]
  rw [if_neg (by omega)] at h
  exact h
 ·rw [if_neg hd]
  rw [if_pos (by omega)] at h
  exact h
section
variable {x : FBook} (hV : FValid x) (hc : canF x.chain = true)
include hV hc
theorem lold_loopN (n0 n1 s d : Int) (u : Span) (v : Int) :
  LF 177 (Code.at [1,1,1,1,1,1,1,1,1,1,0,1] (body Tryd.f25)) (loldN_S0 x n0 n1 s d u v ((x.feet.length : Int) - 1 - (0 : Nat)) (soonTo x 0).1 (soonTo x 0).2) .normal (loldN_S0 x n0 n1 s d u v ((x.feet.length : Int) - 1 - (x.feet.length : Nat)) (soonTo x x.feet.length).1 (soonTo x x.feet.length).2) := by
 have hn := hV.inn.n
 refine LF.each (id := 0) (c := Code.at [1,1,1,1,1,1,1,1,1,1,0,1,0,0] (body Tryd.f25)) (by kernel_rfl) x.feet.length (fun i => loldN_S0 x n0 n1 s d u v ((x.feet.length : Int) - 1 - (i : Nat)) (soonTo x i).1 (soonTo x i).2) (fun i hi => ?_) ⟨_,_,_,_,_,_,_,loldN_0_end x n0 n1 s d u v _ _ _,⟨decide_eq_false (by omega),trivial⟩,.inl ⟨rfl,rfl⟩,rfl⟩
 obtain ⟨k,hk⟩ : ∃ k : Int,k = (x.feet.length : Int) - 1 - (i : Nat) := ⟨_,rfl⟩
 have hT := thinU_con hV hc (k := k) (by omega)
 have e : k.toNat = x.feet.length - 1 - i := by omega
 rw [e] at hT
 have hge : decide (k ≥ 0) = true := decide_eq_true (by omega)
 have i1 : inI64 (k - 1) := i64_of (by omega) (by omega)
 have e2 : (x.feet.length : Int) - 1 - ((i + 1 : Nat) : Int) = k - 1 := by omega
 have es : soonTo x (i + 1) = if thinK x (x.feet.length - 1 - i) ≤ x.chain.days ∧ thinK x (x.feet.length - 1 - i) ≤ (soonTo x i).1 then (thinK x (x.feet.length - 1 - i),((x.feet.length - 1 - i : Nat) : Int)) else soonTo x i := rfl
 simp only [es,e2,← hk]
 have ek : ((x.feet.length - 1 - i : Nat) : Int) = k := by omega
 rw [ek]
 generalize thinK x (x.feet.length - 1 - i) = t at *
 by_cases hd : t ≤ x.chain.days
 ·rw [if_pos hd] at hT
  by_cases hs : t ≤ (soonTo x i).1
  ·rw [if_pos ⟨hd,hs⟩]
   exact ⟨_,_,_,_,_,_,loldN_0_yes x n0 n1 s d u v k _ _ t,(by repeat (first | exact trivial | refine ⟨by first | exact hge | exact hT | exact i1 | exact decide_eq_true hs,?_⟩)),rfl⟩
  ·rw [if_neg (fun h => hs h.2)]
   exact ⟨_,_,_,_,_,_,loldN_0_no x n0 n1 s d u v k _ _ t,(by repeat (first | exact trivial | refine ⟨by first | exact hge | exact hT | exact i1 | exact decide_eq_false hs,?_⟩)),rfl⟩
 ·rw [if_neg hd] at hT
  rw [if_neg (fun h => hd h.1)]
  exact ⟨_,_,_,_,_,_,loldN_0_nil x n0 n1 s d u v k _ _,(by repeat (first | exact trivial | refine ⟨by first | exact hge | exact hT | exact i1,?_⟩)),rfl⟩
theorem lold_loopS (n0 n1 s d : Int) (u : Span) (v fd fs : Int) :
  LF 177 (Code.at [1,1,1,1,1,1,1,1,1,1,0,1] (body Tryd.f25)) (loldS_S0 x n0 n1 s d u v fd fs ((x.feet.length : Int) - 1 - (0 : Nat)) (soonTo x 0).1 (soonTo x 0).2) .normal (loldS_S0 x n0 n1 s d u v fd fs ((x.feet.length : Int) - 1 - (x.feet.length : Nat)) (soonTo x x.feet.length).1 (soonTo x x.feet.length).2) := by
 have hn := hV.inn.n
 refine LF.each (id := 0) (c := Code.at [1,1,1,1,1,1,1,1,1,1,0,1,0,0] (body Tryd.f25)) (by kernel_rfl) x.feet.length (fun i => loldS_S0 x n0 n1 s d u v fd fs ((x.feet.length : Int) - 1 - (i : Nat)) (soonTo x i).1 (soonTo x i).2) (fun i hi => ?_) ⟨_,_,_,_,_,_,_,loldS_0_end x n0 n1 s d u v fd fs _ _ _,⟨decide_eq_false (by omega),trivial⟩,.inl ⟨rfl,rfl⟩,rfl⟩
 obtain ⟨k,hk⟩ : ∃ k : Int,k = (x.feet.length : Int) - 1 - (i : Nat) := ⟨_,rfl⟩
 have hT := thinU_con hV hc (k := k) (by omega)
 have e : k.toNat = x.feet.length - 1 - i := by omega
 rw [e] at hT
 have hge : decide (k ≥ 0) = true := decide_eq_true (by omega)
 have i1 : inI64 (k - 1) := i64_of (by omega) (by omega)
 have e2 : (x.feet.length : Int) - 1 - ((i + 1 : Nat) : Int) = k - 1 := by omega
 have es : soonTo x (i + 1) = if thinK x (x.feet.length - 1 - i) ≤ x.chain.days ∧ thinK x (x.feet.length - 1 - i) ≤ (soonTo x i).1 then (thinK x (x.feet.length - 1 - i),((x.feet.length - 1 - i : Nat) : Int)) else soonTo x i := rfl
 simp only [es,e2,← hk]
 have ek : ((x.feet.length - 1 - i : Nat) : Int) = k := by omega
 rw [ek]
 generalize thinK x (x.feet.length - 1 - i) = t at *
 by_cases hd : t ≤ x.chain.days
 ·rw [if_pos hd] at hT
  by_cases hs : t ≤ (soonTo x i).1
  ·rw [if_pos ⟨hd,hs⟩]
   exact ⟨_,_,_,_,_,_,loldS_0_yes x n0 n1 s d u v fd fs k _ _ t,(by repeat (first | exact trivial | refine ⟨by first | exact hge | exact hT | exact i1 | exact decide_eq_true hs,?_⟩)),rfl⟩
  ·rw [if_neg (fun h => hs h.2)]
   exact ⟨_,_,_,_,_,_,loldS_0_no x n0 n1 s d u v fd fs k _ _ t,(by repeat (first | exact trivial | refine ⟨by first | exact hge | exact hT | exact i1 | exact decide_eq_false hs,?_⟩)),rfl⟩
 ·rw [if_neg hd] at hT
  rw [if_neg (fun h => hd h.1)]
  exact ⟨_,_,_,_,_,_,loldS_0_nil x n0 n1 s d u v fd fs k _ _,(by repeat (first | exact trivial | refine ⟨by first | exact hge | exact hT | exact i1,?_⟩)),rfl⟩
end
theorem lold_con {x : FBook} (hs : FSmall x) (n0 n1 : Int) : CF 25 [fbookD x,.agg [.int .i64 n0,.int .i64 n1]] (.bool true) := by
 have hsound := fsound_con hs
 cases hv : fvalidF x with
 | false =>
  rw [hv] at hsound
  exact contract_of_path (GF 177) lold_fn (lold_bad x n0 n1) (by repeat (first | exact trivial | refine ⟨by first | exact hsound | exact riv_con,?_⟩))
 | true =>
  rw [hv] at hsound
  have hV := fvalid_iff.1 hv
  have hfe := hV.feet
  have hsec := hV.chain.secs
  have hday := hV.chain.days
  have m1 := modU_con n0 x.feet.length (by omega)
  have m2 := modU_con n1 (x.chain.days + 1) (by omega)
  have hsi := modF_in (n := n0) (m := x.feet.length) (by omega)
  have hdi := modF_in (n := n1) (m := x.chain.days + 1) (by omega)
  generalize modF n0 x.feet.length = s at *
  generalize modF n1 (x.chain.days + 1) = d at *
  have hd2 : 0 ≤ d ∧ d ≤ x.chain.days := ⟨hdi.1,by omega⟩
  have i1 : inI64 (x.chain.days + 1) := i64_of (by omega) (by omega)
  have i2 : inI64 ((x.feet.length : Int) - 1) := i64_of (by omega) (by omega)
  have hbn := planB_nil hV
  have hl0 : ([] : List Work).length ≤ 9223372036854775807 := by simp
  have hL := fLeast_con hs hl0 s d
  have hS := fSafe_con hs hl0
  have hF := fFirst_con hs hl0
  cases hc : canF x.chain with
  | false =>
   rw [fLeast_not hV hbn hc hsi hd2] at hL
   rw [fSafe_not hV hbn hc] at hS
   rw [fFirst_not hV hbn hc] at hF
   have hT := (thickA_con (small_of hV.chain) s d).up
   unfold askE at hT
   rw [isSec_t (by omega),isDay_t hd2,Bool.and_self,err_f hV.chain hc] at hT
   have hT' : CF 41 [bookD x.chain,.int .i64 s,.int .i64 d] (.tup [spD ⟨0,0⟩,.int .i64 12]) := hT
   exact contract_of_path (GF 177) lold_fn (lold_err x n0 n1 s d) (by repeat (first | exact trivial | refine ⟨by first | exact hsound | exact m1 | exact m2 | exact i1 | exact hL | exact hS | exact hF | exact hT' | exact riv_con | decide | (constructor <;> decide),?_⟩))
  | true =>
   rw [fLeast_can hV hbn hc hsi hd2] at hL
   rw [fSafe_can hV hbn hc] at hS
   rw [fFirst_can hV hbn hc] at hF
   have hT := thickU_con hV.chain hc (s := s) (d := d) (by omega) hd2
   have hne : (leastV x [] s d != (thickF x.chain (truthsF x.chain []) x.chain.turns s d).lo) = false := by
    rw [leastV_nil,knowTh_at hsi hd2]
    simp [thickLo]
   have i3 : inI64 (x.chain.days + 1) := i1
   cases hf : fthinF x (knowTh x) (knowWr x) [] with
   | none =>
    rw [hf] at hS hF
    have hloop := lold_loopN hV hc n0 n1 s d (thickF x.chain (truthsF x.chain []) x.chain.turns s d) (leastV x [] s d)
    rw [soon_none (by omega) hf,show (x.feet.length : Int) - 1 - ((0 : Nat) : Int) = (x.feet.length : Int) - 1 by omega] at hloop
    have dg : decide (x.chain.days + 1 > x.chain.days) = true := decide_eq_true (by omega)
    exact contract_of_path (GF 177) loldN_fn (loldN_all x n0 n1 s d _ _ _ _ _) (by repeat (first | exact trivial | refine ⟨by first | exact hsound | exact m1 | exact m2 | exact i1 | exact i2 | exact hL | exact hS | exact hF | exact hT | exact hne | exact hloop | exact dg | exact riv_con | decide | (constructor <;> decide),?_⟩))
   | some p =>
    obtain ⟨d0,s0⟩ := p
    rw [hf] at hS hF
    have hloop := lold_loopS hV hc n0 n1 s d (thickF x.chain (truthsF x.chain []) x.chain.turns s d) (leastV x [] s d) d0 s0
    rw [soon_some (by omega) hf,show (x.feet.length : Int) - 1 - ((0 : Nat) : Int) = (x.feet.length : Int) - 1 by omega] at hloop
    have h1 := (thinS hf).1
    have dg : decide ((d0 : Int) > x.chain.days) = false := decide_eq_false (by omega)
    have e1 : ((d0 : Int) == (d0 : Int)) = true := by simp
    have e2 : ((s0 : Int) == (s0 : Int)) = true := by simp
    exact contract_of_path (GF 177) loldS_fn (loldS_all x n0 n1 s d _ _ d0 s0 _ _ _) (by repeat (first | exact trivial | refine ⟨by first | exact hsound | exact m1 | exact m2 | exact i1 | exact i2 | exact hL | exact hS | exact hF | exact hT | exact hne | exact hloop | exact dg | exact e1 | exact e2 | exact riv_con | decide | (constructor <;> decide),?_⟩))
end Go.Di

