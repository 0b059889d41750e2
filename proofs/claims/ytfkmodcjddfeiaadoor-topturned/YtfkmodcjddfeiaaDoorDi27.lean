/- Part 27: an interpreter over plain data for this code, with the proof that it says what the model does, and the contracts of the functions. No condition. -/
import Derived.Test.YtfkmodcjddfeiaaDoorDi26
set_option linter.unusedVariables false
set_option linter.unusedSimpArgs false
namespace Go.Di
open Proofs
/-! ### The example -/
theorem cells_nil7 {R : Foot} {w : World} {v : Value} {e : E} (h : RelC R w .nil v) : RelC R w (.sl false e []) v := by
 have h1 : v = .slice none 0 0 := h
 rw [h1]
 exact sl_nil _ _ _ _ _
theorem links7_con : CF 135 [] (fbookD links7) := by
 have h := (contract_of_path (GF 9) links7_fn links7_all ⟨(rangeB_con 20 21).up,(point_con 2).up,trivial⟩).toWeak
 refine h.toRes fun R w v hv => ?_
 obtain ⟨cs,rfl,hv⟩ := hv
 refine ⟨cs,rfl,?_⟩
 obtain ⟨u0,l,e0,h0,hv⟩ := all2_cons hv
 obtain ⟨u1,l,rfl,h1,hv⟩ := all2_cons hv
 obtain ⟨u2,l,rfl,h2,hv⟩ := all2_cons hv
 rw [e0]
 exact ⟨h0,cells_nil7 h1,cells_nil7 h2,hv⟩
theorem small_links7 : FSmall links7 := ⟨⟨by simp [links7],by simp [links7],by simp [links7]⟩,by simp [links7],by simp [links7]⟩
theorem l7_th : knowTh links7 = [[20,18,16,14,12,10,8]] := by kernel_rfl
theorem l7_wr : knowWr links7 = [2] := by kernel_rfl
theorem l7_err : ferrF links7 true = 0 := by kernel_rfl
theorem l7_best : bestF links7 (knowTh links7) (knowWr links7) = ([⟨3,0⟩],true) := by rw [l7_th,l7_wr]; kernel_rfl
theorem l7_plan : fPlanF links7 = ([⟨3,0⟩],0) := by unfold fPlanF; rw [if_pos l7_err,l7_best]
theorem l7_thin : thinAF links7.chain 0 = (5,0) := by kernel_rfl
theorem l7_least : fLeastF links7 [⟨3,0⟩] 0 6 = (14,0) := by kernel_rfl
theorem l7_cut : cutAF links7.chain 5 = ([0],0) := by kernel_rfl
theorem l7_stock0 : stockF links7 (knowTh links7) (knowWr links7) = 4 := by rw [l7_th,l7_wr]; kernel_rfl
theorem l7_stock : fStockF links7 = (4,0) := by unfold fStockF; rw [if_pos l7_err,l7_stock0]; rfl
theorem chg7_con : CF 69 [] (.bool true) := by
 have c1 := fPlan_con small_links7
 rw [l7_plan] at c1
 have c2 := (thinA_con small_links7.chain 0).up
 rw [l7_thin] at c2
 have c3 := fLeast_con small_links7 (plan := [⟨3,0⟩]) (by decide) 0 6
 rw [l7_least] at c3
 have c4 := (cutA_con small_links7.chain 5).up
 rw [l7_cut] at c4
 have c5 := fStock_con small_links7
 rw [l7_stock] at c5
 have c6 := (alike_con [0] [0] (by decide)).up
 exact contract_of_path (GF 86) chg7_fn chg7_all (by repeat (first | exact trivial | refine ⟨by first | exact links7_con | exact c1 | exact c2 | exact c3 | exact c4 | exact c5 | exact c6 | decide | (constructor <;> decide),?_⟩))
/-! ### small07 -/
theorem small7_con {x : FBook} (hs : FSmall x) : CF 68 [fbookD x] (.bool (fvalidF x)) := by
 have hch := fcheck_val hs
 cases hv : fvalidF x with
 | false =>
  rw [hv,if_neg (by decide)] at hch
  have hloop : LF 87 (Code.at [1,1,0,1] (body Tryd.f68)) (sm7N_S0 x) .normal (sm7N_S0 x) :=
   LF.each (id := 0) (c := Code.at [1,1,0,1,0,0] (body Tryd.f68)) (by kernel_rfl) 0 (fun _ => sm7N_S0 x) (fun i hi => by omega) ⟨_,_,_,_,_,_,_,sm7N_0_end x,trivial,.inl ⟨rfl,rfl⟩,rfl⟩
  exact contract_of_path (GF 87) sm7N_fn (sm7N_all x) ⟨hch,hloop,trivial⟩
 | true =>
  rw [hv,if_pos rfl] at hch
  have hV := fvalid_iff.1 hv
  have hC := hV.chain
  have hn := hC.secs
  have hd := hC.days
  have hf := hV.feet
  have hloop : LF 87 (Code.at [1,1,0,1] (body Tryd.f68)) (sm7Y_S0 x 0) .normal (sm7Y_S0 x x.chain.secs.length) := by
   refine LF.each (id := 0) (c := Code.at [1,1,0,1,0,0] (body Tryd.f68)) (by kernel_rfl) x.chain.secs.length (fun i => sm7Y_S0 x i) (fun i hi => ?_) ⟨_,_,_,_,_,_,_,sm7Y_0_end x _,⟨lt_false,trivial⟩,.inl ⟨rfl,rfl⟩,rfl⟩
   obtain ⟨q1,q2⟩ := hC.sec (x.chain.secs.getD i sec0) (getD_mem _ _ _ (by omega))
   have hv1 : CF 117 [spD (x.chain.secs.getD i sec0).t,.int .i64 0,.int .i64 200] (.bool true) := by
    have := (validB_con (x.chain.secs.getD i sec0).t 0 200).up
    rwa [show validSF (x.chain.secs.getD i sec0).t 0 200 = true from by unfold validSF; rw [decide_eq_true (by omega),decide_eq_true (by omega),decide_eq_true (by omega)]; rfl] at this
   have hv2 : CF 117 [spD (x.chain.secs.getD i sec0).w,.int .i64 0,.int .i64 3] (.bool true) := by
    have := (validB_con (x.chain.secs.getD i sec0).w 0 3).up
    rwa [show validSF (x.chain.secs.getD i sec0).w 0 3 = true from by unfold validSF; rw [decide_eq_true (by omega),decide_eq_true (by omega),decide_eq_true (by omega)]; rfl] at this
   exact ⟨_,_,_,_,_,_,sm7Y_0_on x i,⟨lt_true hi,⟨by omega,by omega⟩,by omega,hv1,⟨by omega,by omega⟩,by omega,hv2,i64_of (by omega) (by omega),trivial⟩,rfl⟩
  have hc0 : CF 64 [bookD x.chain] (.int .i64 0) := by
   have := (check_small hs.chain).up
   rwa [show checkF x.chain = 0 from by have h := check_zero (b := x.chain); rw [valid_iff.2 hC] at h; simpa using h] at this
  have h1 := inside_t (n := (x.chain.secs.length : Int)) (lo := 1) (hi := 4) (by omega)
  have h2 := inside_t (n := x.chain.days) (lo := 1) (hi := 30) (by omega)
  have h6 : ((x.feet.length : Int) == (x.chain.secs.length : Int)) = true := by rw [hf]; simp
  have h7 : decide ((x.chain.turns.length : Int) ≤ 4) = true := decide_eq_true (by have := hC.turns; omega)
  have h8 : decide ((x.opn.length : Int) ≤ 4) = true := decide_eq_true (by have := hV.opnl; omega)
  have h9 : decide ((x.chain.svs.length : Int) ≤ 8) = true := decide_eq_true (by have := hC.svs; omega)
  have hall := sm7Y_all x x.chain.secs.length
  rw [h8] at hall
  exact contract_of_path (GF 87) sm7Y_fn hall (by
   repeat (first | exact trivial | refine ⟨by first | exact rfl | exact hch | exact hc0 | exact h1 | exact h2 | exact h6 | exact h7 | exact h8 | exact h9 | exact hloop | omega,?_⟩))
/-! ### thin07 -/
theorem thin7_con {x : FBook} (hV : FValid x) (hs : FSmall x) : CF 70 [fbookD x] (.int .i64 (thin7F x)) := by
 have hdd := hV.chain.days
 have hbn := planB_nil hV
 have hF := fFirst_con hs (plan := []) (by simp)
 unfold thin7F
 cases hc : canF x.chain with
 | false =>
  rw [fFirst_not hV hbn hc] at hF
  exact contract_of_path (GF 22) thn7_fn (thn7_err x) ⟨hF,trivial⟩
 | true =>
  rw [fFirst_can hV hbn hc] at hF
  rw [if_pos rfl,soon_thin hV]
  cases hf : fthinF x (knowTh x) (knowWr x) [] with
  | none =>
   rw [hf] at hF
   exact contract_of_path (GF 22) thn7_fn (thn7_none x) ⟨hF,i64_of (by omega) (by omega),trivial⟩
  | some p =>
   obtain ⟨d0,s0⟩ := p
   rw [hf] at hF
   exact contract_of_path (GF 22) thn7_fn (thn7_some x d0 s0) ⟨hF,trivial⟩
/-! ### turning07 -/
def tuS (x : FBook) (day : Int) (i : Nat) : List Int → List (Key × Val)
 | [] => tuA_S0 x day i
 | y :: r => tuB_S0 x day i y r
theorem turning7_con {x : FBook} (hV : FValid x) (day : Int) : CF 71 [fbookD x,.int .i64 day] (fbookD (x.turnd day)) := by
 have hdd := hV.chain.days
 have htu := hV.chain.turns
 have hloop : LF 37 (Code.at [1,1,1,0,1] (body Tryd.f71)) (tuS x day 0 (sel (withP x.chain day) 0)) .normal (tuS x day x.chain.days.toNat (sel (withP x.chain day) x.chain.days.toNat)) := by
  refine LF.each (id := 0) (c := Code.at [1,1,1,0,1,0,0] (body Tryd.f71)) (by kernel_rfl) x.chain.days.toNat (fun i => tuS x day i (sel (withP x.chain day) i)) (fun i hi => ?_) ?_
  ·have hlt : decide ((i : Int) + 1 ≤ x.chain.days) = true := decide_eq_true (by omega)
   have hi64 : inI64 ((i : Int) + 1 + 1) := i64_of (by omega) (by omega)
   have hat := (atB_con x.chain.turns ((i : Int) + 1) (by omega)).up
   have hge := indexF_ge ((i : Int) + 1) x.chain.turns 0
   have hlen := sel_len (withP x.chain day) i
   have e : sel (withP x.chain day) (i + 1) = if withP x.chain day ((i : Int) + 1) = true then sel (withP x.chain day) i ++ [(i : Int) + 1] else sel (withP x.chain day) i := rfl
   simp only [e]
   by_cases h1 : (i : Int) + 1 = day
   ·have d1 : ((i : Int) + 1 == day) = true := by simpa using h1
    have hp : withP x.chain day ((i : Int) + 1) = true := by unfold withP; rw [d1]; rfl
    rw [if_pos hp]
    cases ho : sel (withP x.chain day) i with
    | nil => exact ⟨_,_,_,_,_,_,tuA_0_eq x day i 0,(by repeat (first | exact trivial | refine ⟨by first | exact hlt | exact d1 | exact hi64 | rfl | omega | (simp; omega),?_⟩)),rfl⟩
    | cons y r =>
     rw [ho] at hlen
     have hz : (y :: r ++ [(i : Int) + 1]).length * (8 + 1) ≤ 140737488355328 := by simp only [List.length_append,List.length_cons,List.length_nil] at hlen ⊢; omega
     exact ⟨_,_,_,_,_,_,tuB_0_eq x day i y r 0,(by repeat (first | exact trivial | refine ⟨by first | exact hlt | exact d1 | exact hi64 | exact hz | rfl | omega,?_⟩)),rfl⟩
   ·have d1 : ((i : Int) + 1 == day) = false := by simpa using h1
    by_cases h2 : (i : Int) + 1 ∈ x.chain.turns
    ·have d2 : decide (indexF ((i : Int) + 1) x.chain.turns 0 ≥ 0) = true := decide_eq_true (hge.2 h2)
     have hp : withP x.chain day ((i : Int) + 1) = true := by unfold withP; rw [decide_eq_true h2]; simp
     rw [if_pos hp]
     cases ho : sel (withP x.chain day) i with
     | nil => exact ⟨_,_,_,_,_,_,tuA_0_at x day i (indexF ((i : Int) + 1) x.chain.turns 0),(by repeat (first | exact trivial | refine ⟨by first | exact hlt | exact hat | exact d1 | exact d2 | exact hi64 | rfl | omega | (simp; omega),?_⟩)),rfl⟩
     | cons y r =>
      rw [ho] at hlen
      have hz : (y :: r ++ [(i : Int) + 1]).length * (8 + 1) ≤ 140737488355328 := by simp only [List.length_append,List.length_cons,List.length_nil] at hlen ⊢; omega
      exact ⟨_,_,_,_,_,_,tuB_0_at x day i y r (indexF ((i : Int) + 1) x.chain.turns 0),(by repeat (first | exact trivial | refine ⟨by first | exact hlt | exact hat | exact d1 | exact d2 | exact hi64 | exact hz | rfl | omega,?_⟩)),rfl⟩
    ·have d2 : decide (indexF ((i : Int) + 1) x.chain.turns 0 ≥ 0) = false := decide_eq_false fun h => h2 (hge.1 h)
     have hp : ¬ withP x.chain day ((i : Int) + 1) = true := by unfold withP; rw [d1,decide_eq_false h2]; simp
     rw [if_neg hp]
     cases ho : sel (withP x.chain day) i with
     | nil => exact ⟨_,_,_,_,_,_,tuA_0_no x day i (indexF ((i : Int) + 1) x.chain.turns 0),(by repeat (first | exact trivial | refine ⟨by first | exact hlt | exact hat | exact d1 | exact d2 | exact hi64 | rfl | omega,?_⟩)),rfl⟩
     | cons y r => exact ⟨_,_,_,_,_,_,tuB_0_no x day i y r (indexF ((i : Int) + 1) x.chain.turns 0),(by repeat (first | exact trivial | refine ⟨by first | exact hlt | exact hat | exact d1 | exact d2 | exact hi64 | rfl | omega,?_⟩)),rfl⟩
  ·have hend : decide (((x.chain.days.toNat : Nat) : Int) + 1 ≤ x.chain.days) = false := decide_eq_false (by omega)
   show ∃ dec orc lorc ks ps e1 L1,_
   cases ho : sel (withP x.chain day) x.chain.days.toNat with
   | nil => exact ⟨_,_,_,_,_,_,_,tuA_0_end x day _,⟨hend,trivial⟩,.inl ⟨rfl,rfl⟩,rfl⟩
   | cons y r => exact ⟨_,_,_,_,_,_,_,tuB_0_end x day _ y r,⟨hend,trivial⟩,.inl ⟨rfl,rfl⟩,rfl⟩
 have e : x.turnd day = { x with chain := ⟨x.chain.secs,sel (withP x.chain day) x.chain.days.toNat,x.chain.svs,x.chain.rule,x.chain.days⟩ } := rfl
 rw [e]
 cases hw : sel (withP x.chain day) x.chain.days.toNat with
 | nil =>
  rw [hw] at hloop
  refine (contract_of_path (GF 37) tuA_fn (tuA_none x day x.chain.days.toNat) ?_).toWeak
  repeat (first | exact trivial | refine ⟨by first | exact hloop | rfl | omega,?_⟩)
 | cons y r =>
  rw [hw] at hloop
  refine (contract_of_path (GF 37) tuA_fn (tuA_some x day x.chain.days.toNat y r) ?_).toWeak
  repeat (first | exact trivial | refine ⟨by first | exact hloop | rfl | omega,?_⟩)
theorem turnd_valid {x : FBook} (hV : FValid x) (h3 : x.chain.turns.length ≤ 3) (d : Int) : FValid (x.turnd d) :=
 ⟨with_valid hV.chain h3 d,hV.feet,hV.new,hV.opnl,hV.stock,hV.make,hV.each,hV.rises⟩
theorem turnd_small {x : FBook} (hs : FSmall x) (hV : FValid x) (d : Int) : FSmall (x.turnd d) := ⟨⟨hs.chain.secs,by
 have := sel_len (withP x.chain d) x.chain.days.toNat
 have := hV.chain.days
 show (sel (withP x.chain d) x.chain.days.toNat).length ≤ _
 omega,hs.chain.svs⟩,hs.feet,hs.opn⟩
/-! ### TopTurned -/
theorem from_days {b : Book} {c : Int} (h1 : 1 ≤ c) (h : ∀ y ∈ b.svs,y.d ≤ c) : fromF b ≤ c := by
 have le : ∀ (l : List Sv) (a : Int),a ≤ c → (∀ y ∈ l,y.d ≤ c) → l.foldl (fun n y => mx n y.d) a ≤ c := by
  intro l
  induction l with
  | nil => exact fun a h _ => h
  | cons z l ih =>
   intro a h h'
   simp only [List.foldl_cons]
   refine ih _ ?_ fun x hx => h' x (by simp [hx])
   have := h' z (by simp)
   unfold mx
   split <;> omega
 unfold fromF fromGo
 rw [List.take_length]
 exact le b.svs 1 h1 h
theorem ttur_fromN {x : FBook} (hV : FValid x) (n was : Int) : LF 120 (Code.at [1,1,1,1,1,0,1] (body Tryd.f15)) (tturN_S0 x n was 0 1) .normal (tturN_S0 x n was x.chain.svs.length (fromF x.chain)) := by
 refine LF.each (id := 0) (c := Code.at [1,1,1,1,1,0,1,0,0] (body Tryd.f15)) (by kernel_rfl) x.chain.svs.length (fun i => tturN_S0 x n was i (fromGo x.chain i)) (fun i hi => ?_) ⟨_,_,_,_,_,_,_,tturN_0_end x n was _ _,⟨lt_false,trivial⟩,.inl ⟨rfl,rfl⟩,rfl⟩
 have h8 := hV.chain.svs
 have hf := take_foldl (fun n (y : Sv) => mx n y.d) x.chain.svs (1 : Int) i sv0 hi
 exact ⟨_,_,_,_,_,_,tturN_0_on x n was i _,(by repeat (first | exact trivial | refine ⟨by first | exact lt_true hi | omega | exact i64_of (by omega) (by omega),?_⟩)),by rw [show fromGo x.chain (i + 1) = _ from hf]; rfl⟩
theorem ttur_fromY {x : FBook} (hV : FValid x) (n was day : Int) : LF 120 (Code.at [1,1,1,1,1,0,1] (body Tryd.f15)) (tturY_S0 x n was day 0 1) .normal (tturY_S0 x n was day x.chain.svs.length (fromF x.chain)) := by
 refine LF.each (id := 0) (c := Code.at [1,1,1,1,1,0,1,0,0] (body Tryd.f15)) (by kernel_rfl) x.chain.svs.length (fun i => tturY_S0 x n was day i (fromGo x.chain i)) (fun i hi => ?_) ⟨_,_,_,_,_,_,_,tturY_0_end x n was day _ _,⟨lt_false,trivial⟩,.inl ⟨rfl,rfl⟩,rfl⟩
 have h8 := hV.chain.svs
 have hf := take_foldl (fun n (y : Sv) => mx n y.d) x.chain.svs (1 : Int) i sv0 hi
 exact ⟨_,_,_,_,_,_,tturY_0_on x n was day i _,(by repeat (first | exact trivial | refine ⟨by first | exact lt_true hi | omega | exact i64_of (by omega) (by omega),?_⟩)),by rw [show fromGo x.chain (i + 1) = _ from hf]; rfl⟩
theorem ttur_con {x : FBook} (hs : FSmall x) (n : Int) : CF 15 [fbookD x,.int .i64 n] (.bool true) := by
 have hsm := small7_con hs
 have hch := chg7_con
 cases hv : fvalidF x with
 | false =>
  rw [hv] at hsm
  exact contract_of_path (GF 120) ttur_fn (ttur_bad x n) (by repeat (first | exact trivial | refine ⟨by first | exact hsm | exact hch,?_⟩))
 | true =>
  rw [hv] at hsm
  have hV := fvalid_iff.1 hv
  have hC := hV.chain
  have h4 := hC.turns
  have hdd := hC.days
  by_cases hfull : (x.chain.turns.length : Int) = 4
  ·have hf : ((x.chain.turns.length : Int) == 4) = true := by simpa using hfull
   exact contract_of_path (GF 120) ttur_fn (ttur_full x n) (by repeat (first | exact trivial | refine ⟨by first | exact hsm | exact hf | exact hch,?_⟩))
  ·have hf : ((x.chain.turns.length : Int) == 4) = false := by simpa using hfull
   have h3 : x.chain.turns.length ≤ 3 := by omega
   have c1 := (turnA_con hs.chain).up
   unfold turnAF at c1
   have c2 := thin7_con hV hs
   unfold thin7F at c2
   cases hc : canF x.chain with
   | false =>
    rw [err_f hC hc,if_neg (by decide)] at c1
    rw [hc,if_neg (by decide)] at c2
    exact contract_of_path (GF 120) ttur_fn (ttur_neg x n) (by repeat (first | exact trivial | refine ⟨by first | exact hsm | exact hf | exact c1 | exact c2 | exact hch,?_⟩))
   | true =>
    rw [err_zero hC hc,if_pos rfl] at c1
    rw [hc,if_pos rfl] at c2
    have hne := ne_of_can hc
    have hfr1 : 1 ≤ fromF x.chain := (fromGo_in (b := x.chain) (fun y hy => by have := (survey_iff.1 (hC.sv y hy)).2.1; omega) x.chain.svs.length (Nat.le_refl _)).1
    have hfr2 : fromF x.chain ≤ x.chain.days := from_days hdd.1 fun y hy => (survey_iff.1 (hC.sv y hy)).2.1.2
    have hfrom := from_le (b := x.chain)
    have hN : ((x.chain.days + 1 - fromF x.chain).toNat : Int) = x.chain.days + 1 - fromF x.chain := by omega
    have hsp := turn_spec x.chain (truthsF x.chain []) (fromF x.chain) hfr1 (x.chain.days + 1 - fromF x.chain).toNat
    have hw0 := soonest_nonneg (b := x.chain) (by omega) (truthsF x.chain []) x.chain.turns x.chain.secs.length
    have dw := decide_eq_true (show soonestF x.chain (truthsF x.chain []) x.chain.turns x.chain.secs.length ≥ 0 from hw0)
    have hmod := modU_con n (x.chain.days - fromF x.chain + 1) (by omega)
    have hmi := modF_in (n := n) (m := x.chain.days - fromF x.chain + 1) (by omega)
    generalize modF n (x.chain.days - fromF x.chain + 1) = k at hmod hmi
    have hat := fun v => (atB_con x.chain.turns v (by omega)).up
    have hge := fun v => indexF_ge v x.chain.turns 0
    have i1 : inI64 (x.chain.days - fromF x.chain) := i64_of (by omega) (by omega)
    have i2 : inI64 (x.chain.days - fromF x.chain + 1) := i64_of (by omega) (by omega)
    have i3 : inI64 (fromF x.chain + k) := i64_of (by omega) (by omega)
    have wsoon : ∀ d,fromF x.chain ≤ d → d ≤ x.chain.days → d ∉ x.chain.turns → CF 70 [fbookD (x.turnd d)] (.int .i64 (soonestF x.chain (truthsF x.chain []) (x.chain.turns ++ [d]) x.chain.secs.length)) := fun d h1 h2 h3' => by
     have hd : 1 ≤ d ∧ d ≤ x.chain.days := ⟨by omega,h2⟩
     have hsv : ∀ y ∈ x.chain.svs,y.d ≤ d := fun y hy => by have := hfrom y hy; omega
     have := thin7_con (turnd_valid hV h3 d) (turnd_small hs hV d)
     unfold thin7F at this
     rw [if_pos (show canF (x.turnd d).chain = true from can_true ((with_can hC hd h3' hsv).2 hne))] at this
     rwa [show soonestF (x.turnd d).chain (truthsF (x.turnd d).chain []) (x.turnd d).chain.turns (x.turnd d).chain.secs.length = _ from with_soonest hC hd h3' hsv hne x.chain.secs.length (Nat.le_refl _)] at this
    have wturn := fun d => turning7_con hV d
    have hL0 := soonest_nonneg (b := x.chain) (by omega) (truthsF x.chain []) (x.chain.turns ++ [fromF x.chain + k]) x.chain.secs.length
    have dL := decide_eq_true (show soonestF x.chain (truthsF x.chain []) (x.chain.turns ++ [fromF x.chain + k]) x.chain.secs.length ≥ 0 from hL0)
    have hno : ∀ v,v ∉ x.chain.turns → decide (indexF v x.chain.turns 0 ≥ 0) = false := fun v h => decide_eq_false fun h' => h ((hge v).1 h')
    unfold turnLF at c1
    generalize turnGo x.chain (truthsF x.chain []) (fromF x.chain) (x.chain.days + 1 - fromF x.chain).toNat = p at c1 hsp
    rw [hN] at hsp
    rcases hsp with ⟨p1,p2,p3⟩ | ⟨p1,p1',p2,p3,p4,p5⟩
    ·rw [if_pos p1] at c1
     have hloop := ttur_fromN hV n (soonestF x.chain (truthsF x.chain []) x.chain.turns x.chain.secs.length)
     by_cases hm : fromF x.chain + k ∈ x.chain.turns
     ·have d1 := decide_eq_true (show indexF (fromF x.chain + k) x.chain.turns 0 ≥ 0 from (hge _).2 hm)
      have a1 := hat (fromF x.chain + k)
      exact contract_of_path (GF 120) tturN_fn (tturN_has x n _ _ _ k _ 0 x) (by repeat (first | exact trivial | refine ⟨by first | exact hsm | exact hf | exact c1 | exact c2 | exact hloop | exact hmod | exact a1 | exact d1 | exact dw | exact i1 | exact i2 | exact i3 | exact hch,?_⟩))
     ·have d1 := hno _ hm
      have a1 := hat (fromF x.chain + k)
      have c3 := wsoon _ (by omega) (by omega) hm
      have c4 := wturn (fromF x.chain + k)
      have hle := p3 (fromF x.chain + k) (by omega) (by omega) hm
      have d2 : decide (soonestF x.chain (truthsF x.chain []) (x.chain.turns ++ [fromF x.chain + k]) x.chain.secs.length ≤ soonestF x.chain (truthsF x.chain []) x.chain.turns x.chain.secs.length) = true := decide_eq_true (by omega)
      exact contract_of_path (GF 120) tturN_fn (tturN_new x n _ _ _ k _ _ (x.turnd (fromF x.chain + k))) (by repeat (first | exact trivial | refine ⟨by first | exact hsm | exact hf | exact c1 | exact c2 | exact c3 | exact c4 | exact hloop | exact hmod | exact a1 | exact d1 | exact d2 | exact dw | exact dL | exact i1 | exact i2 | exact i3 | exact hch,?_⟩))
    ·rw [if_neg (by omega)] at c1
     have hloop := ttur_fromY hV n (soonestF x.chain (truthsF x.chain []) x.chain.turns x.chain.secs.length) p.1
     have hin := inside_t (n := p.1) (lo := fromF x.chain) (hi := x.chain.days) ⟨p1,by omega⟩
     have a2 := hat p.1
     have q1 := hno _ p2
     have b1 := wturn p.1
     have b2 := wsoon p.1 p1 (by omega) p2
     have q2 : decide (soonestF x.chain (truthsF x.chain []) (x.chain.turns ++ [p.1]) x.chain.secs.length ≤ soonestF x.chain (truthsF x.chain []) x.chain.turns x.chain.secs.length) = false := decide_eq_false (by omega)
     by_cases hm : fromF x.chain + k ∈ x.chain.turns
     ·have d1 := decide_eq_true (show indexF (fromF x.chain + k) x.chain.turns 0 ≥ 0 from (hge _).2 hm)
      have a1 := hat (fromF x.chain + k)
      exact contract_of_path (GF 120) tturY_fn (tturY_has x n _ p.1 _ _ k _ 0 x _ _ (x.turnd p.1)) (by repeat (first | exact trivial | refine ⟨by first | exact hsm | exact hf | exact c1 | exact c2 | exact hloop | exact hmod | exact hin | exact a1 | exact a2 | exact q1 | exact q2 | exact b1 | exact b2 | exact d1 | exact dw | exact i1 | exact i2 | exact i3 | exact hch,?_⟩))
     ·have d1 := hno _ hm
      have a1 := hat (fromF x.chain + k)
      have c3 := wsoon _ (by omega) (by omega) hm
      have c4 := wturn (fromF x.chain + k)
      have hle := (p5 (fromF x.chain + k) (by omega) (by omega) hm).1
      have d2 : decide (soonestF x.chain (truthsF x.chain []) (x.chain.turns ++ [fromF x.chain + k]) x.chain.secs.length ≤ soonestF x.chain (truthsF x.chain []) (x.chain.turns ++ [p.1]) x.chain.secs.length) = true := decide_eq_true (by omega)
      exact contract_of_path (GF 120) tturY_fn (tturY_new x n _ p.1 _ _ k _ _ (x.turnd (fromF x.chain + k)) _ _ (x.turnd p.1)) (by repeat (first | exact trivial | refine ⟨by first | exact hsm | exact hf | exact c1 | exact c2 | exact c3 | exact c4 | exact hloop | exact hmod | exact hin | exact a1 | exact a2 | exact q1 | exact q2 | exact b1 | exact b2 | exact d1 | exact d2 | exact dw | exact dL | exact i1 | exact i2 | exact i3 | exact hch,?_⟩))
end Go.Di

