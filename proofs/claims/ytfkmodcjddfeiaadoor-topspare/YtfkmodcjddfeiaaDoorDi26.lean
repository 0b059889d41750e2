/- Part 26: an interpreter over plain data for this code, with the proof that it says what the model does, and the contracts of the functions. No condition. -/
import Derived.Test.YtfkmodcjddfeiaaDoorDi25
import Derived.Deep.Slices
import Derived.Deep.DeepHandedRow
import Derived.Carry
import Derived.LaidMore
import Derived.ProofKit
import Derived.OpenShut
import Derived.Test.YtfkmodcjddfeiaaDoorCards
import Derived.Test.YtfkmodcjddfeiaaDoorTie
import Derived.SevenTiedAt
import Derived.Stop.Joined
import Derived.Deep.DeepWitnessRowRef
set_option linter.unusedVariables false
set_option linter.unusedSimpArgs false
set_option maxRecDepth 100000
namespace Go.Di
open Proofs
open Go.RowKit

theorem best_ok {x : FBook} (hx : FIn x) (th : List (List Int)) (wr : List Int) : PlanOk x (bestF x th wr).1 := by
 have key : ∀ (l : List (List Work)) (o : List Work × Bool),PlanOk x o.1 → (∀ p ∈ l,PlanOk x p) → PlanOk x (l.foldl (bestStep x) o).1 := by
  intro l
  induction l with
  | nil => exact fun o h _ => h
  | cons p l ih =>
   intro o ho hl
   refine ih _ ?_ (fun q hq => hl q (by simp [hq]))
   unfold bestStep
   split
   ·exact hl p (by simp)
   ·exact ho
 exact key _ _ ⟨by simp,fun w hw => by simp at hw⟩ (fun p hp => plans_ok hx hp)

/-! ### Plan -/
def fPlanF (x : FBook) : List Work × Int := if ferrF x true = 0 then (match bestF x (knowTh x) (knowWr x) with
 | (p,true) => (p,0)
 | (_,false) => ([],4)) else ([],ferrF x true)
theorem nil_workI {R : Foot} {w : World} {v : Value} {l : List Work} {e : Int} (h : Rel R w (.tup [.sl true .work l,.int .i64 e]) v) : Rel R w (.tup [.sl false .work l,.int .i64 e]) v := by
 obtain ⟨vs,rfl,h⟩ := h
 obtain ⟨v0,l',e',h0,h⟩ := all2_cons h
 refine ⟨vs,rfl,?_⟩
 rw [e']
 exact ⟨sl_weak h0,h⟩
theorem fPlan_con {x : FBook} (hs : FSmall x) : CF 77 [fbookD x] (.tup [.sl false .work (fPlanF x).1,.int .i64 (fPlanF x).2]) := by
 have ha := fasked_con hs 138 [] [] true (fun hV => falways_con x)
 unfold fPlanF
 by_cases he : ferrF x true = 0
 ·obtain ⟨hV,h1,h2,h3⟩ := ferr_ok he
  rw [if_pos he]
  rw [h3,he] at ha
  have hb := best_con hV.inn (.work (worksF x)) (know_ok hV h2)
  cases hbf : bestF x (knowTh x) (knowWr x) with
  | mk p f =>
   rw [hbf] at hb
   cases f with
   | false => exact (contract_of_path (GF 29) fPlan_fn (fPlan_none x _ _ _ p) ⟨ha,hb,trivial⟩).toRes fun R w v h => nil_workI h
   | true =>
    have e : (List.drop 0 (List.take (Int.toNat (List.length p : Int)) p) : List Work) = p := by rw [Int.toNat_natCast,List.take_length]; rfl
    exact (contract_of_path (GF 29) fPlan_fn (fPlan_some x _ _ _ p) ⟨ha,hb,⟨by omega,by omega,by omega,rfl⟩,trivial⟩).toRes fun R w v h => by
     have h' : Rel R w (.tup [.sl true .work (List.drop 0 (List.take (Int.toNat (List.length p : Int)) p) : List Work),.int .i64 0]) v := h
     rw [e] at h'
     exact nil_workI h'
 ·obtain ⟨h1,h2⟩ := ferr_bad he
  rw [if_neg he]
  rcases h1 with h1 | h1
  ·rw [h1] at ha
   exact (contract_of_path (GF 29) fPlan_fn (fPlan_errz x _) ⟨ha,h2,trivial⟩).toRes fun R w v h => nil_workI h
  ·rw [h1] at ha
   exact (contract_of_path (GF 29) fPlan_fn (fPlan_erro x _ _) ⟨ha,h2,trivial⟩).toRes fun R w v h => nil_workI h

/-! ### Stock -/
def fStockF (x : FBook) : Int × Int := if ferrF x true = 0 then (if stockF x (knowTh x) (knowWr x) > 200 then (0,4) else (stockF x (knowTh x) (knowWr x),0)) else (0,ferrF x true)
theorem stock_main {x : FBook} (hx : FIn x) (m : Mp) {th : List (List Int)} {wr : List Int} (hk : KnOk x th wr) (ha : CF 137 [fbookD x,.fn 138 [] []] (.tup [fbkD x m th wr,.int .i64 0])) :
  CF 89 [fbookD x] (if stockF x th wr > 200 then .tup [.int .i64 0,.int .i64 4] else .tup [.int .i64 (stockF x th wr),.int .i64 0]) := by
 have hcode : body Tryd.f89 = .seq (Code.at [0] (body Tryd.f89)) (.seq (Code.at [1,0] (body Tryd.f89)) (.seq (Code.at [1,1,0] (body Tryd.f89)) (.seq (Code.at [1,1,1,0] (body Tryd.f89)) (.seq (.seq (Code.at [1,1,1,1,0,0] (body Tryd.f89)) (.block 0 (.rangeFunc (.tmp 17) #[18] (Code.at [1,1,1,1,0,1,0,0] (body Tryd.f89)) (Code.at [1,1,1,1,0,1,0,1] (body Tryd.f89))))) (Code.at [1,1,1,1,1] (body Tryd.f89)))))) := by kernel_rfl
 have hgoal : ∀ (r : D),(∀ (ke : Nat → Prop) (w1 : World) (ds : List Deferred),WpL PRG (mkE PRG (lookN typesF) globF 27 ke w1 ds) (Code.at [1,1,1,1,1] (body Tryd.f89)) (skS x m th wr (stockF x th wr)) (fun e L' => e = .ret ∧ ∃ ps,fin (mkE PRG (lookN typesF) globF 27 ke w1 ds) [.tmp 2,.tmp 3] (ofL L') = some (ps,r) ∧ allP ps)) →
   CF 89 [fbookD x] r := by
  intro r hend
  refine contract_of_marks typesF_ok sk_fn ?_
  intro w0 R0 a Q hH hQ
  rw [hcode]
  refine wpIn_seq (WpL.path (GF 27) (sk_0 x) trivial (Post := fun e L' => e = .normal ∧ L' = skA x) ⟨rfl,rfl⟩ w0 R0 a w0 _ none 1 (fun _ => rfl) hH fun e L' a1 W1 hp hH1 => ?_)
  obtain ⟨rfl,rfl⟩ := hp
  show Code.wpIn _ _ _ _ _ _ _
  refine wpIn_seq (WpL.path (GF 27) (sk_1 x m th wr) ⟨ha,trivial⟩ (Post := fun e L' => e = .normal ∧ L' = skB x m th wr) ⟨rfl,rfl⟩ w0 R0 a1 W1 _ none 1 (fun _ => rfl) hH1 fun e L' a2 W2 hp hH2 => ?_)
  obtain ⟨rfl,rfl⟩ := hp
  show Code.wpIn _ _ _ _ _ _ _
  refine wpIn_seq (WpL.path (GF 27) (sk_2 x m th wr) trivial (Post := fun e L' => e = .normal ∧ L' = [(.tmp 4,.d (.ptr 4 0)),(.box 4,.bx (some ⟨false,cellsOf (fbkD x m th wr)⟩))]) ⟨rfl,rfl⟩ w0 R0 a2 W2 _ none 1 (fun _ => rfl) hH2 fun e L' a3 W3 hp hH3 => ?_)
  obtain ⟨rfl,rfl⟩ := hp
  show Code.wpIn _ _ _ _ _ _ _
  refine wpIn_seq (WpL.path (GF 27) (sk_3 x m th wr) trivial (Post := fun e L' => e = .normal ∧ L' = skS x m th wr 201) ⟨rfl,rfl⟩ w0 R0 a3 W3 _ none 1 (fun _ => rfl) hH3 fun e L' a4 W4 hp hH4 => ?_)
  obtain ⟨rfl,rfl⟩ := hp
  show Code.wpIn _ _ _ _ _ _ _
  refine wpIn_seq (wpIn_seq (WpL.path (GF 27) (sk_4 x m th wr) ⟨plans_con x m th wr,trivial⟩ (Post := fun e L' => e = .normal ∧ L' = (.tmp 17,.d (plW x m th wr)) :: skS x m th wr 201) ⟨rfl,rfl⟩ w0 R0 a4 W4 _ none 1 (fun _ => rfl) hH4 fun e L' a5 W5 hp hH5 => ?_))
  obtain ⟨rfl,rfl⟩ := hp
  show Code.wpIn _ _ _ _ _ _ _
  refine range_frame (tt := lookN typesF) (glob := globF) (n := 27) (gf := 179) (caps := [cellsOf (fbkD x m th wr)]) (Told := ToldP) (xs := plansF x th wr) (S := fun pre => skS x m th wr (stockOf x pre)) (S1 := fun pre p => skS1 x m th wr (stockOf x pre) p) (fx := [4,6]) (dx := fun p => .sl false .work p) (L := (.tmp 17,.d (plW x m th wr)) :: skS x m th wr 201) (ks := skK)
   ?_ ⟨Tryd.f179,by kernel_rfl,by kernel_rfl,by kernel_rfl⟩ ?_ (by decide) (by decide) ?_ ?_ ?_ ?_ rfl (by kernel_rfl) (by kernel_rfl) (fun k => by rfl) ?_ hH5 ?_
  ·exact fun KE R w lb h1 h2 h3 h4 => seq_plans hx hk m KE R w lb h1 h2 h3 h4
  ·exact fun R T p vs W h => hv_told h
  ·intro pre i hi
   exact tmpIn_ok (fx := [4,6]) (by kernel_rfl) i hi
  ·intro pre i
   rfl
  ·rintro pre p ke no w1 fv _
   exact WpL.path (goodR mixed_ok typesF_ok) (sk_as x m th wr _ p ke no w1 fv) trivial ⟨rfl,rfl⟩
  ·rintro pre p ke no w1 fv hsp
   obtain ⟨hm,hpre⟩ := mem_of_split hsp
   have hp := plans_ok hx hm
   have hg := needs_con hx m th wr hp
   have e1 : stockOf x (pre ++ [p]) = mn (stockOf x pre) (needsF x p) := by unfold stockOf; rw [List.foldl_append]; rfl
   show WpL _ _ _ _ (fun e L' => e = .normal ∧ L' = skS x m th wr (stockOf x (pre ++ [p])))
   rw [e1]
   exact WpL.path (goodR mixed_ok typesF_ok) (sk_bd x m th wr _ p _ ke no w1 fv) ⟨by omega,hg,trivial⟩ ⟨rfl,rfl⟩
  ·exact freeIn_ok (by kernel_rfl)
  ·intro D a6 W6 hD hH6 hWD
   show Code.wpIn _ _ _ _ _ _ _
   refine hend _ _ _ w0 R0 a6 W6 _ none 1 (fun _ => rfl) hH6 fun e L' a7 W7 hp hH7 => ?_
   obtain ⟨rfl,hfin⟩ := hp
   exact hQ D a7 W7 W6 _ L' hD hH7 hWD hfin (.inr rfl)
 by_cases h : stockF x th wr > 200
 ·rw [if_pos h]
  exact hgoal _ fun ke w1 ds => WpL.path (goodE mixed_ok typesF_ok) (sk_no x m th wr _ ke w1 ds) ⟨by omega,decide_eq_true h,trivial⟩ ⟨rfl,[],by kernel_rfl,trivial⟩
 ·rw [if_neg h]
  exact hgoal _ fun ke w1 ds => WpL.path (goodE mixed_ok typesF_ok) (sk_yes x m th wr _ ke w1 ds) ⟨by omega,decide_eq_false h,by omega,trivial⟩ ⟨rfl,[],by kernel_rfl,trivial⟩
theorem fStock_con {x : FBook} (hs : FSmall x) : CF 89 [fbookD x] (.tup [.int .i64 (fStockF x).1,.int .i64 (fStockF x).2]) := by
 have ha := fasked_con hs 138 [] [] true (fun hV => falways_con x)
 unfold fStockF
 by_cases he : ferrF x true = 0
 ·obtain ⟨hV,h1,h2,h3⟩ := ferr_ok he
  rw [if_pos he]
  rw [h3,he] at ha
  have := stock_main hV.inn (.work (worksF x)) (know_ok hV h2) ha
  by_cases h : stockF x (knowTh x) (knowWr x) > 200
  ·rw [if_pos h] at this ⊢; exact this
  ·rw [if_neg h] at this ⊢; exact this
 ·obtain ⟨h1,h2⟩ := ferr_bad he
  rw [if_neg he]
  rcases h1 with h1 | h1
  ·rw [h1] at ha
   exact contract_of_path (GF 27) fStock_fn (fStock_errz x _) ⟨ha,h2,trivial⟩
  ·rw [h1] at ha
   exact contract_of_path (GF 27) fStock_fn (fStock_erro x _ _) ⟨ha,h2,trivial⟩

/-! ### Rest -/
/-- The book with one open day more. -/
def FBook.rest (x : FBook) (d : Int) : FBook := x.withOpn (insL x.opn (x.opn.countP (· < d)) d)
def restStep (x : FBook) (th : List (List Int)) (wr : List Int) (o : Int × Int × Bool) (d : Nat) : Int × Int × Bool :=
 if x.opn.contains (d : Int) = true then o else match bestF (x.rest d) th wr with
  | (_,false) => o
  | (p,true) => if o.2.2 = false ∨ feetF x p < o.2.1 then ((d : Int),feetF x p,true) else o
def restTo (x : FBook) (th : List (List Int)) (wr : List Int) : Nat → Int × Int × Bool
 | 0 => (-1,feetF x (bestF x th wr).1,(bestF x th wr).2)
 | d + 1 => restStep x th wr (restTo x th wr d) d
def fRestF (x : FBook) : Int × Int := if ferrF x true = 0 then (if (restTo x (knowTh x) (knowWr x) (x.chain.days + 1).toNat).1 < 0 then (0,4) else ((restTo x (knowTh x) (knowWr x) (x.chain.days + 1).toNat).1,0)) else (0,ferrF x true)
theorem rest_in {x : FBook} (hV : FValid x) {d : Int} (hd : 0 ≤ d ∧ d ≤ x.chain.days) : FIn (x.rest d) := by
 have h := hV.inn
 have hl := hV.opnl
 have hc : x.opn.countP (· < d) ≤ x.opn.length := List.countP_le_length
 refine ⟨h.n,h.days,h.turns,h.feet,h.new,?_,fun e he => ?_,h.stock,h.make⟩
 ·show (insL x.opn _ d).length ≤ 5
  rw [insL_length d hc]
  omega
 ·have he' : e ∈ insL x.opn (x.opn.countP (· < d)) d := he
  unfold insL at he'
  rcases List.mem_append.1 he' with h1 | h1
  ·exact h.opn _ (List.mem_of_mem_take h1)
  ·rcases List.mem_cons.1 h1 with h1 | h1
   ·have := h.days; omega
   ·exact h.opn _ (List.mem_of_mem_drop h1)
def rS (x : FBook) (m : Mp) (th : List (List Int)) (wr : List Int) : Int × Int × Bool → Nat → List (Key × Val)
 | (k,v,false),i => restA_S0 x m th wr k v i
 | (k,v,true),i => restB_S0 x m th wr k v i
theorem rest_loop {x : FBook} (hV : FValid x) {th : List (List Int)} {wr : List Int} (hk : KnOk x th wr) (m : Mp) :
  LF 82 (Code.at [1,1,1,1,1,0,1] (body Tryd.f92)) (rS x m th wr (restTo x th wr 0) 0) .normal (rS x m th wr (restTo x th wr (x.chain.days + 1).toNat) (x.chain.days + 1).toNat) := by
 have hd := hV.inn.days
 have hx := hV.inn
 refine LF.each (id := 0) (c := Code.at [1,1,1,1,1,0,1,0,0] (body Tryd.f92)) (by kernel_rfl) (x.chain.days + 1).toNat (fun i => rS x m th wr (restTo x th wr i) i) (fun i hi => ?_) ?_
 ·have hlt : decide ((i : Int) < x.chain.days + 1) = true := decide_eq_true (by omega)
  have hi64 : inI64 ((i : Int) + 1) := i64_of (by omega) (by omega)
  have hbs := bs_con (l := x.opn) (by have := hx.opnl; omega) hV.opn.2 (i : Int)
  have hstep : restTo x th wr (i + 1) = restStep x th wr (restTo x th wr i) i := rfl
  simp only [hstep]
  generalize restTo x th wr i = o
  obtain ⟨k,v,f⟩ := o
  unfold restStep
  cases hc : x.opn.contains (i : Int) with
  | true =>
   rw [hc] at hbs
   rw [if_pos rfl]
   cases f with
   | false => exact ⟨_,_,_,_,_,_,restA_0_skip x m th wr k v i _,⟨hlt,hbs,hi64,trivial⟩,rfl⟩
   | true => exact ⟨_,_,_,_,_,_,restB_0_skip x m th wr k v i _,⟨hlt,hbs,hi64,trivial⟩,rfl⟩
  | false =>
   rw [hc] at hbs
   rw [if_neg (by decide)]
   have hxr := rest_in hV (d := (i : Int)) (by omega)
   have hkr : KnOk (x.rest i) th wr := ⟨hk.wl,hk.w,hk.tl,hk.row,hk.t⟩
   have hb := best_con hxr m hkr
   have hins := fun b => ins_lf (x := x) (by have := hx.opnl; omega) m th wr b k v i (x.opn.countP (· < (i : Int))) List.countP_le_length
   have hok := best_ok hxr th wr
   cases hbf : bestF (x.rest i) th wr with
   | mk q g =>
    rw [hbf] at hb hok
    have hf := feet_con hx m th wr (plan := q) ⟨hok.1,fun w hw => ⟨(hok.2 w hw).s,(hok.2 w hw).d⟩⟩
    cases g with
    | false =>
     cases f with
     | false => exact ⟨_,_,_,_,_,_,restA_0_no x m th wr k v i _ _ q,⟨hlt,hbs,hins false,hb,hi64,trivial⟩,rfl⟩
     | true => exact ⟨_,_,_,_,_,_,restB_0_no x m th wr k v i _ _ q,⟨hlt,hbs,hins true,hb,hi64,trivial⟩,rfl⟩
    | true =>
     cases f with
     | false => exact ⟨_,_,_,_,_,_,restA_0_first x m th wr k v i _ _ q _,⟨hlt,hbs,hins false,hb,hf,hi64,trivial⟩,by dsimp only; rw [if_pos (.inl rfl)]; rfl⟩
     | true =>
      by_cases hlt2 : feetF x q < v
      ·exact ⟨_,_,_,_,_,_,restB_0_better x m th wr k v i _ _ q _,⟨hlt,hbs,hins true,hb,hf,decide_eq_true hlt2,hf,hi64,trivial⟩,by dsimp only; rw [if_pos (.inr hlt2)]; rfl⟩
      ·exact ⟨_,_,_,_,_,_,restB_0_worse x m th wr k v i _ _ q _,⟨hlt,hbs,hins true,hb,hf,decide_eq_false hlt2,hi64,trivial⟩,by dsimp only; rw [if_neg (by simp [hlt2])]; rfl⟩
 ·have hend : decide ((((x.chain.days + 1).toNat : Nat) : Int) < x.chain.days + 1) = false := decide_eq_false (by omega)
  generalize restTo x th wr (x.chain.days + 1).toNat = o
  obtain ⟨k,v,f⟩ := o
  cases f with
  | false => exact ⟨_,_,_,_,_,_,_,restA_0_end x m th wr k v _,⟨hend,trivial⟩,.inl ⟨rfl,rfl⟩,rfl⟩
  | true => exact ⟨_,_,_,_,_,_,_,restB_0_end x m th wr k v _,⟨hend,trivial⟩,.inl ⟨rfl,rfl⟩,rfl⟩
theorem restStep_f {x : FBook} {th : List (List Int)} {wr : List Int} (o : Int × Int × Bool) (d : Nat) (h : o.2.2 = true) : (restStep x th wr o d).2.2 = true := by
 unfold restStep
 split
 ·exact h
 ·split
  ·exact h
  ·split
   ·rfl
   ·exact h
theorem restTo_f {x : FBook} {th : List (List Int)} {wr : List Int} (h : (bestF x th wr).2 = true) : ∀ d,(restTo x th wr d).2.2 = true
 | 0 => h
 | d + 1 => restStep_f _ _ (restTo_f h d)
theorem fRest_con {x : FBook} (hs : FSmall x) : CF 92 [fbookD x] (.tup [.int .i64 (fRestF x).1,.int .i64 (fRestF x).2]) := by
 have ha := fasked_con hs 138 [] [] true (fun hV => falways_con x)
 unfold fRestF
 by_cases he : ferrF x true = 0
 ·obtain ⟨hV,h1,h2,h3⟩ := ferr_ok he
  rw [if_pos he]
  rw [h3,he] at ha
  have hk := know_ok hV h2
  have hb := best_con hV.inn (.work (worksF x)) hk
  have hf := feet_con hV.inn (.work (worksF x)) (knowTh x) (knowWr x) (best_ok hV.inn (knowTh x) (knowWr x))
  have hl := rest_loop hV hk (.work (worksF x))
  have hd := hV.inn.days
  have hi64 : inI64 (x.chain.days + 1) := i64_of (by omega) (by omega)
  have hmono := restTo_f (x := x) (th := knowTh x) (wr := knowWr x)
  have e0 : restTo x (knowTh x) (knowWr x) 0 = (-1,feetF x (bestF x (knowTh x) (knowWr x)).1,(bestF x (knowTh x) (knowWr x)).2) := rfl
  rw [e0] at hl
  generalize hbf : bestF x (knowTh x) (knowWr x) = bp at hb hf hl hmono
  obtain ⟨p,f⟩ := bp
  have hmono' := fun h => hmono h (x.chain.days + 1).toNat
  clear hmono
  generalize restTo x (knowTh x) (knowWr x) (x.chain.days + 1).toNat = o at hl hmono' ⊢
  obtain ⟨k,y,g⟩ := o
  dsimp only at *
  by_cases hk0 : k < 0
  ·rw [if_pos hk0]
   cases f with
   | false =>
    cases g with
    | false => exact contract_of_path (GF 82) restA_fn (restA_Anone x _ _ _ p _ k y _) ⟨ha,hb,hf,hi64,hl,decide_eq_true hk0,trivial⟩
    | true => exact contract_of_path (GF 82) restA_fn (restA_Bnone x _ _ _ p _ k y _) ⟨ha,hb,hf,hi64,hl,decide_eq_true hk0,trivial⟩
   | true =>
    obtain rfl : g = true := hmono' rfl
    exact contract_of_path (GF 82) restB_fn (restB_Bnone x _ _ _ p _ k y _) ⟨ha,hb,hf,hi64,hl,decide_eq_true hk0,trivial⟩
  ·rw [if_neg hk0]
   cases f with
   | false =>
    cases g with
    | false => exact contract_of_path (GF 82) restA_fn (restA_Asome x _ _ _ p _ k y _) ⟨ha,hb,hf,hi64,hl,decide_eq_false hk0,trivial⟩
    | true => exact contract_of_path (GF 82) restA_fn (restA_Bsome x _ _ _ p _ k y _) ⟨ha,hb,hf,hi64,hl,decide_eq_false hk0,trivial⟩
   | true =>
    obtain rfl : g = true := hmono' rfl
    exact contract_of_path (GF 82) restB_fn (restB_Bsome x _ _ _ p _ k y _) ⟨ha,hb,hf,hi64,hl,decide_eq_false hk0,trivial⟩
 ·obtain ⟨h1,h2⟩ := ferr_bad he
  rw [if_neg he]
  rcases h1 with h1 | h1
  ·rw [h1] at ha
   exact contract_of_path (GF 82) restA_fn (restA_errz x _) ⟨ha,h2,trivial⟩
  ·rw [h1] at ha
   exact contract_of_path (GF 82) restA_fn (restA_erro x _ _) ⟨ha,h2,trivial⟩
end Go.Di

namespace Go.Di
open Proofs
/-! ### The chapter's examples -/
end Go.Di

namespace Go.Di
open Proofs
end Go.Di

namespace Go.Di
open Proofs

/-! ### Their contracts -/
instance workEq : DecidableEq Work := fun x y => if h : x.d = y.d ∧ x.s = y.s then isTrue (by obtain ⟨a,b⟩ := x; obtain ⟨c,d⟩ := y; obtain ⟨rfl,rfl⟩ := h; rfl) else isFalse fun e => h (by rw [e]; exact ⟨rfl,rfl⟩)
end Go.Di

namespace Go.Di
open Proofs
end Go.Di

namespace Go.Di
open Proofs

/-! ### A plan by a grid of days and sections -/
def grdDay (x : FBook) (f : Nat → Nat → Bool) (k : Nat) (l : List Work) : Nat → List Work
 | 0 => l
 | s + 1 => if f k s = true then grdDay x f k l s ++ [⟨x.opn.getD k 0,s⟩] else grdDay x f k l s
def grdTo (x : FBook) (f : Nat → Nat → Bool) : Nat → List Work
 | 0 => []
 | k + 1 => grdDay x f k (grdTo x f k) x.feet.length
def grdF (x : FBook) (f : Nat → Nat → Bool) : List Work := grdTo x f x.opn.length
theorem grdDay_mem {x : FBook} {f : Nat → Nat → Bool} {k : Nat} {l : List Work} {w : Work} : ∀ {s},w ∈ grdDay x f k l s ↔ w ∈ l ∨ ∃ j,j < s ∧ f k j = true ∧ w = ⟨x.opn.getD k 0,(j : Int)⟩
 | 0 => ⟨.inl,fun h => h.elim id fun ⟨j,hj,_⟩ => by omega⟩
 | s + 1 => by
  have ih := grdDay_mem (x := x) (f := f) (k := k) (l := l) (w := w) (s := s)
  simp only [grdDay]
  cases hb : f k s with
  | true =>
   simp only [if_true,List.mem_append,List.mem_singleton,ih]
   constructor
   ·rintro ((h | ⟨j,hj,h⟩) | h)
    ·exact .inl h
    ·exact .inr ⟨j,by omega,h⟩
    ·exact .inr ⟨s,by omega,hb,h⟩
   ·rintro (h | ⟨j,hj,h1,h2⟩)
    ·exact .inl (.inl h)
    ·by_cases hjs : j = s
     ·subst hjs; exact .inr h2
     ·exact .inl (.inr ⟨j,by omega,h1,h2⟩)
  | false =>
   simp only [Bool.false_eq_true,if_false,ih]
   constructor
   ·rintro (h | ⟨j,hj,h⟩)
    ·exact .inl h
    ·exact .inr ⟨j,by omega,h⟩
   ·rintro (h | ⟨j,hj,h1,h2⟩)
    ·exact .inl h
    ·by_cases hjs : j = s
     ·subst hjs; rw [hb] at h1; cases h1
     ·exact .inr ⟨j,by omega,h1,h2⟩
theorem grdTo_mem {x : FBook} {f : Nat → Nat → Bool} {w : Work} : ∀ {n},w ∈ grdTo x f n ↔ ∃ k j,k < n ∧ j < x.feet.length ∧ f k j = true ∧ w = ⟨x.opn.getD k 0,(j : Int)⟩
 | 0 => ⟨fun h => (by cases h),fun ⟨k,_,hk,_⟩ => by omega⟩
 | n + 1 => by
  simp only [grdTo,grdDay_mem,grdTo_mem (x := x) (f := f) (w := w) (n := n)]
  constructor
  ·rintro (⟨k,j,h1,h2⟩ | ⟨j,h1,h2⟩)
   ·exact ⟨k,j,by omega,h2⟩
   ·exact ⟨n,j,by omega,h1,h2⟩
  ·rintro ⟨k,j,h1,h2,h3⟩
   by_cases hk : k = n
   ·subst hk; exact .inr ⟨j,h2,h3⟩
   ·exact .inl ⟨k,j,by omega,h2,h3⟩
theorem grd_mem {x : FBook} {f : Nat → Nat → Bool} {w : Work} : w ∈ grdF x f ↔ ∃ k j,k < x.opn.length ∧ j < x.feet.length ∧ f k j = true ∧ w = ⟨x.opn.getD k 0,(j : Int)⟩ := grdTo_mem
theorem pair_getD {l : List Int} (h : l.Pairwise (· < ·)) {i j : Nat} (hij : i < j) (hj : j < l.length) : l.getD i 0 < l.getD j 0 := by
 rw [List.getD_eq_getElem?_getD,List.getD_eq_getElem?_getD,List.getElem?_eq_getElem (by omega),List.getElem?_eq_getElem hj]
 exact List.pairwise_iff_getElem.1 h i j (by omega) hj hij
theorem grdDay_pair {x : FBook} {f : Nat → Nat → Bool} {k : Nat} {l : List Work} (hl : l.Pairwise wlt) (hd : ∀ w ∈ l,w.d < x.opn.getD k 0) : ∀ s,(grdDay x f k l s).Pairwise wlt
 | 0 => hl
 | s + 1 => by
  have ih := grdDay_pair (f := f) hl hd s
  simp only [grdDay]
  split
  ·refine List.pairwise_append.2 ⟨ih,List.pairwise_singleton _ _,fun a ha b hb => ?_⟩
   rw [List.mem_singleton] at hb
   subst hb
   rcases grdDay_mem.1 ha with h | ⟨j,hj,_,rfl⟩
   ·exact .inl (hd a h)
   ·exact .inr ⟨rfl,by show (j : Int) < (s : Int); omega⟩
  ·exact ih
theorem grdTo_pair {x : FBook} (ho : x.opn.Pairwise (· < ·)) (f : Nat → Nat → Bool) : ∀ n,n ≤ x.opn.length → (grdTo x f n).Pairwise wlt
 | 0,_ => List.Pairwise.nil
 | n + 1,hn => by
  refine grdDay_pair (grdTo_pair ho f n (by omega)) (fun w hw => ?_) _
  obtain ⟨k,j,hk,_,_,rfl⟩ := grdTo_mem.1 hw
  exact pair_getD ho hk (by omega)
theorem grd_plan {x : FBook} (hV : FValid x) (f : Nat → Nat → Bool) : IsPlan x (grdF x f) := by
 refine ⟨fun w hw => ?_,grdTo_pair hV.opn.2 f _ (Nat.le_refl _)⟩
 obtain ⟨k,j,hk,hj,_,rfl⟩ := grd_mem.1 hw
 exact ⟨mem_getD 0 hk,by show (0 : Int) ≤ (j : Int); omega,by show (j : Int) < _; omega⟩

/-! ### sound -/
theorem fcheck_val {x : FBook} (hs : FSmall x) : CF 98 [fbookD x] (.int .i64 (if fvalidF x = true then 0 else 70)) := by
 have h := fcheck_con hs
 unfold fcheckF at h
 cases hv : fvalidF x with
 | true => rw [hv] at h; exact h
 | false => rw [hv] at h; exact h
/-! ### drawn -/
end Go.Di

namespace Go.Di
open Proofs

/-! ### What the laws of forge share -/
theorem inside_t {n lo hi : Int} (h : lo ≤ n ∧ n ≤ hi) : CF 50 [.int .i64 n,.int .i64 lo,.int .i64 hi] (.bool true) := by
 have := (inside_con n lo hi).up
 rwa [show insideF n lo hi = true from by unfold insideF; simp [h.1,h.2]] at this
theorem err_of {x : FBook} (hV : FValid x) : ferrF x true = if canF x.chain = true then 0 else 72 := by
 rcases ferr_cases (x := x) true with ⟨h1,_⟩ | ⟨_,h,_⟩ | ⟨_,_,h3,h2⟩ | ⟨_,_,h3,h2⟩
 ·rw [fvalid_iff.2 hV] at h1; cases h1
 ·cases h
 ·rw [h2,h3]; rfl
 ·rw [h2,h3]; rfl
/-- The least of a section on a day,by a plan,of a book that can be true. -/
abbrev leastV (x : FBook) (plan : List Work) (s d : Int) : Int := fleastF x (knowTh x) (knowWr x) plan s d
section
variable {x : FBook} (hV : FValid x) {plan : List Work} (hp : planB x plan = true)
include hV hp
theorem fFirst_can (hc : canF x.chain = true) : fFirstF x plan = match fthinF x (knowTh x) (knowWr x) plan with
  | some (d,s) => ((d : Int),(s : Int),0)
  | none => (0,0,4) := by
 unfold fFirstF
 rw [hp,err_of hV,if_pos hc,if_pos rfl]
 rfl
end
/-! ### The first day on which a section is too thin -/
section
variable {x : FBook} {th : List (List Int)} {wr : List Int} {plan : List Work}
theorem fsec_none {d : Nat} (h : fsecF x th wr plan d = none) : ∀ s,s < x.feet.length → fbadF x th wr plan d s = false := by
 intro s hs
 unfold fsecF at h
 rw [List.find?_eq_none] at h
 simpa using h s (List.mem_range.2 hs)
theorem fsec_some {d s : Nat} (h : fsecF x th wr plan d = some s) : s < x.feet.length ∧ fbadF x th wr plan d s = true ∧ ∀ j,j < s → fbadF x th wr plan d j = false := by
 unfold fsecF at h
 rw [List.find?_range_eq_some] at h
 exact ⟨List.mem_range.1 h.2.1,h.1,fun j hj => by simpa using h.2.2 j hj⟩
theorem fthinGo_none : ∀ {k d : Nat},fthinGo x th wr plan k d = none → ∀ e,d ≤ e → e < d + k → ∀ s,s < x.feet.length → fbadF x th wr plan e s = false
 | 0,d,_,e,h1,h2 => by omega
 | k + 1,d,h,e,h1,h2 => by
  unfold fthinGo at h
  cases hs : fsecF x th wr plan d with
  | some s => rw [hs] at h; cases h
  | none =>
   rw [hs] at h
   by_cases hde : e = d
   ·subst hde; exact fsec_none hs
   ·exact fthinGo_none h e (by omega) (by omega)
theorem fthinGo_some : ∀ {k d d0 s0 : Nat},fthinGo x th wr plan k d = some (d0,s0) → d ≤ d0 ∧ d0 < d + k ∧ s0 < x.feet.length ∧ fbadF x th wr plan d0 s0 = true ∧ (∀ e,d ≤ e → e < d0 → ∀ s,s < x.feet.length → fbadF x th wr plan e s = false) ∧ ∀ s,s < s0 → fbadF x th wr plan d0 s = false
 | 0,d,d0,s0,h => by cases h
 | k + 1,d,d0,s0,h => by
  unfold fthinGo at h
  cases hs : fsecF x th wr plan d with
  | some s =>
   rw [hs] at h
   cases h
   obtain ⟨h1,h2,h3⟩ := fsec_some hs
   exact ⟨Nat.le_refl _,by omega,h1,h2,fun e h4 h5 => by omega,h3⟩
  | none =>
   rw [hs] at h
   obtain ⟨h1,h2,h3,h4,h5,h6⟩ := fthinGo_some h
   refine ⟨by omega,by omega,h3,h4,fun e h7 h8 => ?_,h6⟩
   by_cases hde : e = d
   ·subst hde; exact fsec_none hs
   ·exact h5 e (by omega) h8
theorem fbad_not {d s : Nat} (h : fbadF x th wr plan d s = false) : x.chain.rule ≤ fleastF x th wr plan s d := by
 unfold fbadF at h
 have := of_decide_eq_false h
 omega
theorem fbad_yes {d s : Nat} (h : fbadF x th wr plan d s = true) : fleastF x th wr plan s d < x.chain.rule := of_decide_eq_true h
theorem thinN (h : fthinF x th wr plan = none) {s d : Int} (hs : 0 ≤ s ∧ s < x.feet.length) (hd : 0 ≤ d ∧ d ≤ x.chain.days) : x.chain.rule ≤ fleastF x th wr plan s d := by
 have := fbad_not (fthinGo_none h d.toNat (by omega) (by omega) s.toNat (by omega))
 rwa [Int.toNat_of_nonneg hs.1,Int.toNat_of_nonneg hd.1] at this
theorem thinS {d0 s0 : Nat} (h : fthinF x th wr plan = some (d0,s0)) : (d0 : Int) ≤ x.chain.days ∧ (s0 : Int) < x.feet.length ∧ fleastF x th wr plan s0 d0 < x.chain.rule ∧ ∀ s d : Int,0 ≤ s ∧ s < x.feet.length → 0 ≤ d ∧ d ≤ x.chain.days → fleastF x th wr plan s d < x.chain.rule → (d0 : Int) < d ∨ (d0 : Int) = d ∧ (s0 : Int) ≤ s := by
 obtain ⟨h1,h2,h3,h4,h5,h6⟩ := fthinGo_some h
 refine ⟨by omega,by omega,fbad_yes h4,fun s d hs hd hlt => ?_⟩
 by_cases hlt1 : d < d0
 ·have := fbad_not (h5 d.toNat (by omega) (by omega) s.toNat (by omega))
  rw [Int.toNat_of_nonneg hs.1,Int.toNat_of_nonneg hd.1] at this
  omega
 ·by_cases he : d = d0
  ·refine .inr ⟨he.symm,?_⟩
   by_cases hss : s < s0
   ·have := fbad_not (h6 s.toNat (by omega))
    rw [Int.toNat_of_nonneg hs.1,← he] at this
    omega
   ·omega
  ·exact .inl (by omega)
end
end Go.Di

/-
 DI,part Z: how a row reads its arguments,and what it asks behind the call.
-/
namespace Go.Di
open Go.RowKit Go.ChangeShapes Go.WideShapes Go.Deep

section
variable {H : Type} {enc : TypeId × Value → H} {P : Program}

/-! ### Behind the call -/
theorem trodAll_below (hl : laidOutB P = true) {W W' : World} (hb : Below W.heap.size W W') {sp : Nat → Bool} : ∀ {ts : List TypeId} {vs : List Value} {ds : List (DataW H)} {ps : List MemPlace},
  (∀ t ∈ ts,P.readableRec t = true ∧ t < P.types.size) → DataW.TrodAll enc P W 0 (fun _ => true) true ts vs ds ps → (∀ x ∈ ps,x.block < W.heap.size) → (∀ x ∈ ps,sp x.block = true) → DataW.TrodAll enc P W' 0 sp true ts vs ds ps
 | [],[],[],ps,_,h,_,_ => h
 | [],[],_ :: _,_,_,h,_,_ => h.elim
 | [],_ :: _,_,_,_,h,_,_ => h.elim
 | _ :: _,[],_,_,_,h,_,_ => h.elim
 | _ :: _,_ :: _,[],_,_,h,_,_ => h.elim
 | t :: ts,v :: vs,d :: ds,ps,ht,⟨p,q,h1,h2,e⟩,hlt,hsp => by
  subst e
  have hx : ∀ x ∈ p,x ∈ p ++ q := fun x hx => List.mem_append_left _ hx
  have hy : ∀ x ∈ q,x ∈ p ++ q := fun x hx => List.mem_append_right _ hx
  obtain ⟨r1,r2⟩ := ht t (by simp)
  exact ⟨p,q,WideElems.Trod_stays hl r1 r2 h1 (fun x h => hb.same (hlt x (hx x h))) (fun x h => hsp x (hx x h)),trodAll_below hl hb (fun u hu => ht u (by simp [hu])) h2 (fun x h => hlt x (hy x h)) (fun x h => hsp x (hy x h)),rfl⟩

theorem law_post {f : Func} {s : ChangeSpec} {apart fresh handsOn again : Bool} {W W' : World} {args : Array Value} {ds gs : List (DataW H)} {before : List MemPlace} {tb : TypeId}
  (hl : laidOutB P = true) (hread : ∀ t ∈ f.params.toList,P.readableRec t = true ∧ t < P.types.size) (hvars : s.vars = []) (hres : f.resultTypes = #[tb]) (htb : P.underlying tb = some .bool)
  (hW : DataW.Whole enc P f.params.toList s.vars apart W args.toList ds gs before) (hspec : s.fn H (ds ++ gs) = { results := [.lit (.bool true)],args := ds }) (hb : Below W.heap.size W W') :
  s.post enc P f apart fresh handsOn again W args (.bool true) W' := by
 have hlt : ∀ x ∈ before,x.block < W.heap.size := fun x hx => by simpa using hW.lt x hx
 have hW0 := hW
 obtain ⟨p,q,h1,h2,rfl,hz,hn⟩ := hW
 have hq : q = [] ∧ gs = [] := by
  rw [hvars] at h2
  cases gs with
  | nil => exact ⟨h2,rfl⟩
  | cons _ _ => exact h2.elim
 obtain ⟨rfl,rfl⟩ := hq
 have hbool : ∀ (b : Nat) (sp : Nat → Bool) (hd : Bool),DataW.TrodAll enc P W' b sp hd f.resultTypes.toList ((Value.bool true).resultList f.resultTypes.size) [.lit (.bool true)] [] := fun b sp hd => by
  rw [hres]
  exact trodAll_cons_mk (shut_bool htb _) trodAll_mk0
 have hargs : ∀ sp : Nat → Bool,(∀ x ∈ p,sp x.block = true) → DataW.TrodAll enc P W' 0 sp true f.params.toList args.toList ds p := fun sp hsp =>
  trodAll_below hl hb hread h1 (fun x hx => hlt x (by simp [hx])) hsp
 have hv : ∀ sp : Nat → Bool,DataW.TrodVars enc P W' sp s.vars ([] : List (DataW H)) [] := fun sp => by rw [hvars]; rfl
 refine ⟨ds,[],p ++ [],[],p,[],hW0,?_,?_,?_,hb.frame _,fun _ => ⟨?_,[.lit (.bool true)] ++ ds,[],[] ++ p,⟨[] ++ p,[],?_,hv (fun _ => true),by simp,?_,?_⟩,?_⟩⟩
 ·rw [hspec]; exact hbool _ _ _
 ·rw [hspec]; exact hargs _ fun x hx => by simpa using hlt x (by simp [hx])
 ·rw [hspec]; exact hv _
 ·exact ok_one hres rfl (okWide_bool_mk htb _)
 ·exact trodAll_append (hargs (fun _ => true) fun _ _ => rfl) (hbool _ _ _)
 ·intro b off hp
  have hp' : MemPlace.cell b off ∈ p := by simpa using hp
  rw [hb.frozen (p := ⟨b,off,none⟩) (hlt (.cell b off) (by simp [hp']))]
  exact hz b off (by simpa using hp')
 ·intro ha
  have := hn ha
  simpa using this
 ·intro x hx _
  simpa using hx

/-! ### Reading arguments -/
variable {w : World} {sp : Nat → Bool} {hd : Bool}
/-- Memory that was there. -/
def Old (w : World) : Foot := fun b _ => b < w.heap.size
theorem cell_old {w : World} {a : Addr} {v : Value} (h : w.cell? a = some v) : a.block < w.heap.size := by
 unfold World.cell? at h
 cases hh : w.heap[a.block]? with
 | none => rw [hh] at h; cases h
 | some o => exact (Array.getElem?_eq_some_iff.1 hh).1

/-- How an element reads. -/
def ReadsE (enc : TypeId × Value → H) (P : Program) (w : World) (sp : Nat → Bool) (hd : Bool) (t : TypeId) (e : E) : Prop := ∀ (fuel : Nat) (cs : List Value) (x : DataW H × List MemPlace),DataW.trod enc P w 0 sp hd fuel t cs = some x → ∃ y : e.α,cs.length = e.sz ∧ RelE (Old w) w e y cs

theorem reads_int {t : TypeId} (ht : P.underlying t = some (.int .i64)) {fuel : Nat} {cs : List Value} {x : DataW H × List MemPlace} (h : DataW.trod enc P w 0 sp hd fuel t cs = some x) : ∃ n,cs = [.int .i64 n] := by
 obtain ⟨n,h1,_⟩ := DataW.trod_int ht h
 exact ⟨n,h1⟩
theorem reads_two {t : TypeId} {f0 f1 : Field} (ht : P.underlying t = some (.struct #[f0,f1])) (hc : P.cellsOf t = 2) (o0 : f0.offset = 0) (o1 : f1.offset = 1) (c0 : P.cellsOf f0.type = 1) (c1 : P.cellsOf f1.type = 1)
  (t0 : P.underlying f0.type = some (.int .i64)) (t1 : P.underlying f1.type = some (.int .i64)) {fuel : Nat} {cs : List Value} {x : DataW H × List MemPlace} (h : DataW.trod enc P w 0 sp hd fuel t cs = some x) : ∃ a b,cs = [.int .i64 a,.int .i64 b] := by
 obtain ⟨xs,k,_,_,hl,hx,hf⟩ := DataW.trod_struct ht h
 rw [hc] at hl
 match xs,hx,cs,hl with
 | [y0,y1],_,[v0,v1],_ =>
  have g0 := hf 0 f0 rfl
  have g1 := hf 1 f1 rfl
  simp [o0,o1,c0,c1] at g0 g1
  obtain ⟨a,ha⟩ := reads_int t0 g0
  obtain ⟨b,hb⟩ := reads_int t1 g1
  simp only [List.cons.injEq,and_true] at ha hb
  exact ⟨a,b,by rw [ha,hb]⟩
theorem reads_four {t : TypeId} {f0 f1 f2 f3 : Field} (ht : P.underlying t = some (.struct #[f0,f1,f2,f3])) (hc : P.cellsOf t = 4) (o0 : f0.offset = 0) (o1 : f1.offset = 1) (o2 : f2.offset = 2) (o3 : f3.offset = 3)
  (c0 : P.cellsOf f0.type = 1) (c1 : P.cellsOf f1.type = 1) (c2 : P.cellsOf f2.type = 1) (c3 : P.cellsOf f3.type = 1) (t0 : P.underlying f0.type = some (.int .i64)) (t1 : P.underlying f1.type = some (.int .i64)) (t2 : P.underlying f2.type = some (.int .i64)) (t3 : P.underlying f3.type = some (.int .i64))
  {fuel : Nat} {cs : List Value} {x : DataW H × List MemPlace} (h : DataW.trod enc P w 0 sp hd fuel t cs = some x) : ∃ a b c d,cs = [.int .i64 a,.int .i64 b,.int .i64 c,.int .i64 d] := by
 obtain ⟨xs,k,_,_,hl,hx,hf⟩ := DataW.trod_struct ht h
 rw [hc] at hl
 match xs,hx,cs,hl with
 | [y0,y1,y2,y3],_,[v0,v1,v2,v3],_ =>
  have g0 := hf 0 f0 rfl
  have g1 := hf 1 f1 rfl
  have g2 := hf 2 f2 rfl
  have g3 := hf 3 f3 rfl
  simp [o0,o1,o2,o3,c0,c1,c2,c3] at g0 g1 g2 g3
  obtain ⟨a,ha⟩ := reads_int t0 g0
  obtain ⟨b,hb⟩ := reads_int t1 g1
  obtain ⟨c,hc⟩ := reads_int t2 g2
  obtain ⟨d,hd⟩ := reads_int t3 g3
  simp only [List.cons.injEq,and_true] at ha hb hc hd
  exact ⟨a,b,c,d,by rw [ha,hb,hc,hd]⟩
theorem reads_sec {t : TypeId} {f0 f1 : Field} (ht : P.underlying t = some (.struct #[f0,f1])) (hc : P.cellsOf t = 4) (o0 : f0.offset = 0) (o1 : f1.offset = 2) (c0 : P.cellsOf f0.type = 2) (c1 : P.cellsOf f1.type = 2)
  (t0 : ∀ (fuel : Nat) (cs : List Value) (x : DataW H × List MemPlace),DataW.trod enc P w 0 sp hd fuel f0.type cs = some x → ∃ a b,cs = [.int .i64 a,.int .i64 b])
  (t1 : ∀ (fuel : Nat) (cs : List Value) (x : DataW H × List MemPlace),DataW.trod enc P w 0 sp hd fuel f1.type cs = some x → ∃ a b,cs = [.int .i64 a,.int .i64 b])
  {fuel : Nat} {cs : List Value} {x : DataW H × List MemPlace} (h : DataW.trod enc P w 0 sp hd fuel t cs = some x) : ∃ a b c d,cs = [.int .i64 a,.int .i64 b,.int .i64 c,.int .i64 d] := by
 obtain ⟨xs,k,_,_,hl,hx,hf⟩ := DataW.trod_struct ht h
 rw [hc] at hl
 match xs,hx,cs,hl with
 | [y0,y1],_,[v0,v1,v2,v3],_ =>
  have g0 := hf 0 f0 rfl
  have g1 := hf 1 f1 rfl
  simp [o0,o1,c0,c1] at g0 g1
  obtain ⟨a,b,hab⟩ := t0 _ _ _ g0
  obtain ⟨c,d,hcd⟩ := t1 _ _ _ g1
  simp only [List.cons.injEq,and_true] at hab hcd
  exact ⟨a,b,c,d,by rw [hab.1,hab.2,hcd.1,hcd.2]⟩
theorem reads_slice {t et : TypeId} {e : E} (ht : P.underlying t = some (.slice et)) (hc : P.cellsOf et = e.sz) (hE : ReadsE enc P w sp hd et e) {fuel : Nat} {cs : List Value} {x : DataW H × List MemPlace} (h : DataW.trod enc P w 0 sp hd fuel t cs = some x) :
  ∃ (v : Value) (xs : List e.α),cs = [v] ∧ SlR (RelE (Old w) w e) e.sz (Old w) w false xs v ∧ xs.length ≤ maxLen := by
 rcases open_slice ht h with ⟨rfl,_⟩ | ⟨a,len,cap,m,n,D,Pl,rfl,hb,hlc,hmx,hm,_,hel⟩
 ·exact ⟨_,[],rfl,sl_nil _ _ _ _ _,by simp⟩
 ·have hlm : len ≤ m := by rw [hm]; split <;> omega
  have hz : Nonempty e.α := ⟨E.z e⟩
  have hget : ∀ i,i < len → ∃ y : e.α,∃ cs',w.cells? 0 (a.add (i * e.sz)) e.sz = some cs' ∧ RelE (Old w) w e y cs' ∧ cs'.length = e.sz := fun i hi => by
   obtain ⟨cs',h1,h2⟩ := hel i (by omega)
   obtain ⟨y,h3,h4⟩ := hE _ _ _ h2
   rw [hc] at h1
   exact ⟨y,cs',h1,h4,h3⟩
  haveI : Inhabited e.α := ⟨E.z e⟩
  obtain ⟨f,hf⟩ := choose_lt hget
  refine ⟨_,(List.range len).map f,rfl,⟨some a,cap,by simp,by simpa using hlc,hmx,fun h => (by cases h),fun hpos => ?_⟩,by simp; omega⟩
  have hlen : 0 < len := by simpa using hpos
  obtain ⟨b,off,spot⟩ := a
  have hszpos : 0 < e.sz := by cases e <;> simp [E.sz]
  have hspot : spot = none := by
   obtain ⟨cs',h1,h2,h3⟩ := hf 0 hlen
   obtain ⟨_,_,hcell⟩ := World.cells?_some h1
   have := hcell 0 hszpos
   rw [Nat.zero_mul] at this
   have h0 : w.cell? ⟨b,off,spot⟩ = cs'[0]? := by simpa [Addr.add] using this
   rw [List.getElem?_eq_getElem (by omega)] at h0
   simpa using World.cell?_spot h0
  subst hspot
  refine ⟨b,off,rfl,fun i y hy => ?_⟩
  have hi : i < len := by
   have := (List.getElem?_eq_some_iff.1 hy).1
   simpa using this
  have hyf : y = f i := by
   rw [List.getElem?_map,List.getElem?_range hi] at hy
   exact (Option.some.inj hy).symm
  subst hyf
  obtain ⟨cs',h1,h2,h3⟩ := hf i hi
  obtain ⟨_,_,hcell⟩ := World.cells?_some h1
  refine ⟨cs',h3,h2,fun j u hu => ?_⟩
  have hj : j < e.sz := by
   have := (List.getElem?_eq_some_iff.1 hu).1
   omega
  have hcj := hcell j hj
  rw [Deep.add_add,hu] at hcj
  have hca : w.cell? ⟨b,off + i * e.sz + j,none⟩ = some u := by
   have : (⟨b,off,none⟩ : Addr).add (i * e.sz + j) = ⟨b,off + i * e.sz + j,none⟩ := by
    unfold Addr.add
    by_cases h0 : i * e.sz + j = 0
    ·rw [if_pos h0]; congr 1; omega
    ·rw [if_neg h0]; congr 1; dsimp only; omega
   rwa [this] at hcj
  exact ⟨cell_old hca,hca⟩
theorem reads_book {t : TypeId} {f0 f1 f2 f3 f4 : Field} (ht : P.underlying t = some (.struct #[f0,f1,f2,f3,f4])) (hc : P.cellsOf t = 5) (o0 : f0.offset = 0) (o1 : f1.offset = 1) (o2 : f2.offset = 2) (o3 : f3.offset = 3) (o4 : f4.offset = 4)
  (c0 : P.cellsOf f0.type = 1) (c1 : P.cellsOf f1.type = 1) (c2 : P.cellsOf f2.type = 1) (c3 : P.cellsOf f3.type = 1) (c4 : P.cellsOf f4.type = 1)
  {e0 e1 e2 : TypeId} (t0 : P.underlying f0.type = some (.slice e0)) (t1 : P.underlying f1.type = some (.slice e1)) (t2 : P.underlying f2.type = some (.slice e2)) (t3 : P.underlying f3.type = some (.int .i64)) (t4 : P.underlying f4.type = some (.int .i64))
  (k0 : P.cellsOf e0 = 4) (k1 : P.cellsOf e1 = 1) (k2 : P.cellsOf e2 = 4) (r0 : ReadsE enc P w sp hd e0 .sec) (r1 : ReadsE enc P w sp hd e1 .int) (r2 : ReadsE enc P w sp hd e2 .sv)
  {fuel : Nat} {cs : List Value} {x : DataW H × List MemPlace} (h : DataW.trod enc P w 0 sp hd fuel t cs = some x) :
  ∃ b : Book,All2 (RelC (Old w) w) [.sl false .sec b.secs,.sl false .int b.turns,.sl false .sv b.svs,.int .i64 b.rule,.int .i64 b.days] cs ∧ b.secs.length ≤ maxLen ∧ b.turns.length ≤ maxLen ∧ b.svs.length ≤ maxLen := by
 obtain ⟨xs,k,_,_,hl,hx,hf⟩ := DataW.trod_struct ht h
 rw [hc] at hl
 match xs,hx,cs,hl with
 | [y0,y1,y2,y3,y4],_,[v0,v1,v2,v3,v4],_ =>
  have g0 := hf 0 f0 rfl
  have g1 := hf 1 f1 rfl
  have g2 := hf 2 f2 rfl
  have g3 := hf 3 f3 rfl
  have g4 := hf 4 f4 rfl
  simp [o0,o1,o2,o3,o4,c0,c1,c2,c3,c4] at g0 g1 g2 g3 g4
  obtain ⟨w0,a,ha,sa,la⟩ := reads_slice (e := .sec) t0 k0 r0 g0
  obtain ⟨w1,b,hb,sb,lb⟩ := reads_slice (e := .int) t1 k1 r1 g1
  obtain ⟨w2,c,hc,sc,lc⟩ := reads_slice (e := .sv) t2 k2 r2 g2
  obtain ⟨d,hd⟩ := reads_int t3 g3
  obtain ⟨e,he⟩ := reads_int t4 g4
  simp only [List.cons.injEq,and_true] at ha hb hc hd he
  subst ha hb hc hd he
  exact ⟨⟨a,b,c,d,e⟩,⟨sa,sb,sc,rfl,rfl,trivial⟩,la,lb,lc⟩
end
end Go.Di

namespace Go.Di
open Proofs
open Go.RowKit Go.ChangeShapes Go.WideShapes Go.Deep Go.ChangeAt Go.Proofs
open Go.Proofs.YtfkmodcjddfeiaaDoor

/-! ### The program's facts -/
theorem laidOut : laidOutB Tryd.prog = true := by kernel_rfl
theorem own : ownKnob Tryd.prog.godebug = none := by kernel_rfl
theorem gNowhere : Tryd.prog.globalNamed "prow/chain.nowhere" = some 1 := by kernel_rfl
theorem gThins : Tryd.prog.globalNamed "prow/chain.thins" = some 0 := by kernel_rfl
theorem tThins : (Tryd.prog.globals[0]?).map (·.type) = some 136 := by kernel_rfl
theorem gBegin : Tryd.prog.globalNamed "prow/forge.begin" = some 2 := by kernel_rfl
theorem gThicks : Tryd.prog.globalNamed "prow/forge.thicks" = some 3 := by kernel_rfl
theorem tBegin : (Tryd.prog.globals[2]?).map (·.type) = some 108 := by kernel_rfl
theorem tThicks : (Tryd.prog.globals[3]?).map (·.type) = some 192 := by kernel_rfl
theorem tNowhere : (Tryd.prog.globals[1]?).map (·.type) = some 179 := by kernel_rfl

section
variable {H : Type} {enc : TypeId × Value → H} {w : World} {sp : Nat → Bool} {hd : Bool}
theorem reads3 : ReadsE enc Tryd.prog w sp hd 3 .int := fun fuel cs x h => by
 obtain ⟨n,rfl⟩ := reads_int (t := 3) (by kernel_rfl) h
 exact ⟨n,rfl,rfl⟩
/-- The fields of a struct. -/
noncomputable def fld (t i : Nat) : Field := match Tryd.prog.underlying t with
 | some (.struct fs) => fs.getD i default
 | _ => default
theorem reads51 (fuel : Nat) (cs : List Value) (x : DataW H × List MemPlace) (h : DataW.trod enc Tryd.prog w 0 sp hd fuel 51 cs = some x) : ∃ a b,cs = [.int .i64 a,.int .i64 b] :=
 reads_two (t := 51) (f0 := fld 51 0) (f1 := fld 51 1) (by kernel_rfl) (by kernel_rfl) (by kernel_rfl) (by kernel_rfl) (by kernel_rfl) (by kernel_rfl) (by kernel_rfl) (by kernel_rfl) h
theorem reads76 : ReadsE enc Tryd.prog w sp hd 76 .sec := fun fuel cs x h => by
 obtain ⟨a,b,c,d,rfl⟩ := reads_sec (t := 76) (f0 := fld 76 0) (f1 := fld 76 1) (by kernel_rfl) (by kernel_rfl) (by kernel_rfl) (by kernel_rfl) (by kernel_rfl) (by kernel_rfl) (by rw [show (fld 76 0).type = 51 from by kernel_rfl]; exact reads51) (by rw [show (fld 76 1).type = 51 from by kernel_rfl]; exact reads51) h
 exact ⟨(⟨⟨a,b⟩,⟨c,d⟩⟩ : Sec),rfl,rfl⟩
theorem reads34 : ReadsE enc Tryd.prog w sp hd 34 .sv := fun fuel cs x h => by
 obtain ⟨a,b,c,d,rfl⟩ := reads_four (t := 34) (f0 := fld 34 0) (f1 := fld 34 1) (f2 := fld 34 2) (f3 := fld 34 3) (by kernel_rfl) (by kernel_rfl) (by kernel_rfl) (by kernel_rfl) (by kernel_rfl) (by kernel_rfl) (by kernel_rfl) (by kernel_rfl) (by kernel_rfl) (by kernel_rfl) (by kernel_rfl) (by kernel_rfl) (by kernel_rfl) (by kernel_rfl) h
 exact ⟨(⟨a,b,c,d⟩ : Sv),rfl,rfl⟩
end

/-! ### The listed variables -/
theorem trod_arr2 {H : Type} {enc : TypeId × Value → H} {P : Program} {w : World} {sp : Nat → Bool} {hd : Bool} {t et : TypeId} (ht : P.underlying t = some (.array 2 et)) (hc : P.cellsOf t = 2) (ce : P.cellsOf et = 1) {fuel : Nat} {cs : List Value} {d0 d1 : DataW H} {ps : List MemPlace}
  (h : DataW.trod enc P w 0 sp hd fuel t cs = some (.agg [d0,d1],ps)) : ∃ v0 v1 k q0 q1,cs = [v0,v1] ∧ DataW.trod enc P w 0 sp hd k et [v0] = some (d0,q0) ∧ DataW.trod enc P w 0 sp hd k et [v1] = some (d1,q1) := by
 cases fuel with
 | zero => simp [DataW.trod] at h
 | succ k =>
  unfold DataW.trod at h
  rw [ht] at h
  simp only [ce,Nat.mul_one] at h
  split at h
  ·rename_i hl
   rw [hc] at hl
   match cs,hl with
   | [v0,v1],_ =>
    have hr : List.range 2 = [0,1] := rfl
    rw [hr] at h
    simp only [List.mapM_cons,List.mapM_nil] at h
    cases h0 : DataW.trod enc P w 0 sp hd k et (List.take 1 (List.drop 0 [v0,v1])) with
    | none => rw [h0] at h; cases h
    | some x0 =>
     rw [h0] at h
     cases h1 : DataW.trod enc P w 0 sp hd k et (List.take 1 (List.drop 1 [v0,v1])) with
     | none => rw [h1] at h; cases h
     | some x1 =>
      rw [h1] at h
      have h' : (DataW.agg [x0.1,x1.1],x0.2 ++ (x1.2 ++ [])) = (DataW.agg [d0,d1],ps) := Option.some.inj h
      simp only [Prod.mk.injEq,DataW.agg.injEq,List.cons.injEq,and_true] at h'
      obtain ⟨⟨rfl,rfl⟩,_⟩ := h'
      exact ⟨v0,v1,k,x0.2,x1.2,rfl,h0,h1⟩
  ·cases h
theorem trod_pair {H : Type} {enc : TypeId × Value → H} {w : World} {sp : Nat → Bool} {hd : Bool} {fuel : Nat} {cs : List Value} {a b : Int} {ps : List MemPlace}
  (h : DataW.trod enc Tryd.prog w 0 sp hd fuel 179 cs = some (.agg [.lit (.int .i64 a),.lit (.int .i64 b)],ps)) : cs = [.int .i64 a,.int .i64 b] := by
 obtain ⟨xs,k,_,hx,hl,hxl,hf⟩ := DataW.trod_struct (t := 179) (fs := #[fld 179 0,fld 179 1]) (by kernel_rfl) h
 have hc : Tryd.prog.cellsOf 179 = 2 := by kernel_rfl
 rw [hc] at hl
 have c0 : Tryd.prog.cellsOf (fld 179 0).type = 1 := by kernel_rfl
 have c1 : Tryd.prog.cellsOf (fld 179 1).type = 1 := by kernel_rfl
 have o0 : (fld 179 0).offset = 0 := by kernel_rfl
 have o1 : (fld 179 1).offset = 1 := by kernel_rfl
 match xs,hxl,cs,hl with
 | [y0,y1],_,[v0,v1],_ =>
  have g0 := hf 0 (fld 179 0) rfl
  have g1 := hf 1 (fld 179 1) rfl
  simp [o0,o1,c0,c1] at g0 g1
  obtain ⟨n0,e0,e0',_⟩ := DataW.trod_int (k := .i64) (by kernel_rfl) g0
  obtain ⟨n1,e1,e1',_⟩ := DataW.trod_int (k := .i64) (by kernel_rfl) g1
  simp only [List.cons.injEq,and_true] at e0 e1
  simp only [List.map_cons,List.map_nil,Prod.mk.injEq,DataW.agg.injEq,List.cons.injEq,and_true] at hx
  obtain ⟨⟨q0,q1⟩,_⟩ := hx
  rw [e0'] at q0
  rw [e1'] at q1
  simp only [DataW.lit.injEq,Lit.int.injEq,true_and] at q0 q1
  subst q0 q1
  rw [e0,e1]
theorem trod_pairB {H : Type} {enc : TypeId × Value → H} {w : World} {sp : Nat → Bool} {hd : Bool} {fuel : Nat} {cs : List Value} {a b : Int} {ps : List MemPlace}
  (h : DataW.trod enc Tryd.prog w 0 sp hd fuel 108 cs = some (.agg [.lit (.int .i64 a),.lit (.int .i64 b)],ps)) : cs = [.int .i64 a,.int .i64 b] := by
 obtain ⟨xs,k,_,hx,hl,hxl,hf⟩ := DataW.trod_struct (t := 108) (fs := #[fld 108 0,fld 108 1]) (by kernel_rfl) h
 have hc : Tryd.prog.cellsOf 108 = 2 := by kernel_rfl
 rw [hc] at hl
 have c0 : Tryd.prog.cellsOf (fld 108 0).type = 1 := by kernel_rfl
 have c1 : Tryd.prog.cellsOf (fld 108 1).type = 1 := by kernel_rfl
 have o0 : (fld 108 0).offset = 0 := by kernel_rfl
 have o1 : (fld 108 1).offset = 1 := by kernel_rfl
 match xs,hxl,cs,hl with
 | [y0,y1],_,[v0,v1],_ =>
  have g0 := hf 0 (fld 108 0) rfl
  have g1 := hf 1 (fld 108 1) rfl
  simp [o0,o1,c0,c1] at g0 g1
  obtain ⟨n0,e0,e0',_⟩ := DataW.trod_int (k := .i64) (by kernel_rfl) g0
  obtain ⟨n1,e1,e1',_⟩ := DataW.trod_int (k := .i64) (by kernel_rfl) g1
  simp only [List.cons.injEq,and_true] at e0 e1
  simp only [List.map_cons,List.map_nil,Prod.mk.injEq,DataW.agg.injEq,List.cons.injEq,and_true] at hx
  obtain ⟨⟨q0,q1⟩,_⟩ := hx
  rw [e0'] at q0
  rw [e1'] at q1
  simp only [DataW.lit.injEq,Lit.int.injEq,true_and] at q0 q1
  subst q0 q1
  rw [e0,e1]
theorem laid_globF {W : World} (h : laidMetH Tryd.prog [("prow/chain.nowhere",YtfkmodcjddfeiaaDoor.Rows.laid_prow_chain_nowhere),("prow/chain.thins",YtfkmodcjddfeiaaDoor.Rows.laid_prow_chain_thins),("prow/forge.begin",YtfkmodcjddfeiaaDoor.Rows.laid_prow_forge_begin),("prow/forge.thicks",YtfkmodcjddfeiaaDoor.Rows.laid_prow_forge_thicks)] W) :
  ∀ g cs,globF g = some cs → Rel (Old W) W (.ref cs 0) (.pointer (some ⟨g,0,none⟩)) := by
 intro g cs hg
 match g,hg with
 | 0,hg =>
  cases hg
  obtain ⟨g',t,vs,fuel,p,hg',ht,hv,hd⟩ := h.funcs (n := "prow/chain.thins") (List.mem_cons_of_mem _ (List.mem_cons_self ..))
  obtain rfl := Option.some.inj (gThins.symm.trans hg')
  obtain rfl := Option.some.inj (tThins.symm.trans ht)
  obtain ⟨v0,v1,k,q0,q1,e,h0,h1⟩ := trod_arr2 (t := 136) (et := 135) (by kernel_rfl) (by kernel_rfl) (by kernel_rfl) hd
  have hf : Tryd.prog.underlying 135 = some (.func #[137,3] #[4] false) := by kernel_rfl
  obtain rfl := func_of_trod (f0 := 223) hf (by kernel_rfl) h0
  obtain rfl := func_of_trod (f0 := 225) hf (by kernel_rfl) h1
  refine ⟨0,0,rfl,fun j d hj => ?_⟩
  have hc := World.var?_cell hg' hv
  have hs : vs = #[.func (.func 223) #[] #[],.func (.func 225) #[] #[]] := by rw [← Array.toArray_toList (xs := vs),e]
  match j,hj with
  | 0,hj =>
   cases hj
   have h0 := hc 0
   rw [hs] at h0
   exact ⟨_,⟨#[],#[],rfl,trivial,trivial⟩,cell_old h0,h0⟩
  | 1,hj =>
   cases hj
   have h0 := hc 1
   rw [hs] at h0
   exact ⟨_,⟨#[],#[],rfl,trivial,trivial⟩,cell_old h0,h0⟩
 | 1,hg =>
  cases hg
  obtain ⟨⟨ps,⟨g',t,vs,fuel,p,q,hg',ht,hv,hd,_,_⟩,_⟩,_⟩ := h
  obtain rfl := Option.some.inj (gNowhere.symm.trans hg')
  obtain rfl := Option.some.inj (tNowhere.symm.trans ht)
  have e := trod_pair hd
  refine ⟨1,0,rfl,fun j d hj => ?_⟩
  have hc := World.var?_cell hg' hv
  have hs : vs = #[.int .i64 (-1),.int .i64 (-1)] := by rw [← Array.toArray_toList (xs := vs),e]
  match j,hj with
  | 0,hj =>
   cases hj
   have h0 := hc 0
   rw [hs] at h0
   exact ⟨_,rfl,cell_old h0,h0⟩
  | 1,hj =>
   cases hj
   have h0 := hc 1
   rw [hs] at h0
   exact ⟨_,rfl,cell_old h0,h0⟩
 | 2,hg =>
  cases hg
  obtain ⟨⟨ps,⟨_,_,_,_,_,_,_,_,_,_,hrest,_⟩,_⟩,_⟩ := h
  obtain ⟨g',t,vs,fuel,p,q,hg',ht,hv,hd,_,_⟩ := hrest
  obtain rfl := Option.some.inj (gBegin.symm.trans hg')
  obtain rfl := Option.some.inj (tBegin.symm.trans ht)
  have e := trod_pairB hd
  refine ⟨2,0,rfl,fun j d hj => ?_⟩
  have hc := World.var?_cell hg' hv
  have hs : vs = #[.int .i64 (-1),.int .i64 0] := by rw [← Array.toArray_toList (xs := vs),e]
  match j,hj with
  | 0,hj =>
   cases hj
   have h0 := hc 0
   rw [hs] at h0
   exact ⟨_,rfl,cell_old h0,h0⟩
  | 1,hj =>
   cases hj
   have h0 := hc 1
   rw [hs] at h0
   exact ⟨_,rfl,cell_old h0,h0⟩
 | 3,hg =>
  cases hg
  obtain ⟨g',t,vs,fuel,p,hg',ht,hv,hd⟩ := h.funcs (n := "prow/forge.thicks") (List.mem_cons_of_mem _ (List.mem_cons_of_mem _ (List.mem_cons_of_mem _ (List.mem_cons_self ..))))
  obtain rfl := Option.some.inj (gThicks.symm.trans hg')
  obtain rfl := Option.some.inj (tThicks.symm.trans ht)
  obtain ⟨v0,v1,k,q0,q1,e,h0,h1⟩ := trod_arr2 (t := 192) (et := 191) (by kernel_rfl) (by kernel_rfl) (by kernel_rfl) hd
  have hf : Tryd.prog.underlying 191 = some (.func #[151,3,3,3] #[3] false) := by kernel_rfl
  obtain rfl := func_of_trod (f0 := 226) hf (by kernel_rfl) h0
  obtain rfl := func_of_trod (f0 := 227) hf (by kernel_rfl) h1
  refine ⟨3,0,rfl,fun j d hj => ?_⟩
  have hc := World.var?_cell hg' hv
  have hs : vs = #[.func (.func 226) #[] #[],.func (.func 227) #[] #[]] := by rw [← Array.toArray_toList (xs := vs),e]
  match j,hj with
  | 0,hj =>
   cases hj
   have h0 := hc 0
   rw [hs] at h0
   exact ⟨_,⟨#[],#[],rfl,trivial,trivial⟩,cell_old h0,h0⟩
  | 1,hj =>
   cases hj
   have h0 := hc 1
   rw [hs] at h0
   exact ⟨_,⟨#[],#[],rfl,trivial,trivial⟩,cell_old h0,h0⟩

/-! ### A world for the witness -/
def lay0 : Obj → Obj
 | .cells _ t frozen => .cells #[.func (.func 223) #[] #[],.func (.func 225) #[] #[]] t frozen
 | o => o
def lay1 : Obj → Obj
 | .cells _ t frozen => .cells #[.int .i64 (-1),.int .i64 (-1)] t frozen
 | o => o
def lay2 : Obj → Obj
 | .cells _ t frozen => .cells #[.int .i64 (-1),.int .i64 0] t frozen
 | o => o
def lay3 : Obj → Obj
 | .cells _ t frozen => .cells #[.func (.func 226) #[] #[],.func (.func 227) #[] #[]] t frozen
 | o => o
noncomputable def laidWorld (os : Os) : World :=
 { World.holding Tryd.prog os ⟨#[],#[],[]⟩ with heap := ((((World.holding Tryd.prog os ⟨#[],#[],[]⟩).heap.modify 0 lay0).modify 1 lay1).modify 2 lay2).modify 3 lay3 }
def noFBook : Value := .agg #[.slice none 0 0,.slice none 0 0,.slice none 0 0,.int .i64 0,.int .i64 0,.slice none 0 0,.int .i64 0,.slice none 0 0,.int .i64 0,.int .i64 0]
theorem laid_met (os : Os) (args : Array Value) : laidMetH Tryd.prog [("prow/chain.nowhere",Rows.laid_prow_chain_nowhere),("prow/chain.thins",Rows.laid_prow_chain_thins),("prow/forge.begin",Rows.laid_prow_forge_begin),("prow/forge.thicks",Rows.laid_prow_forge_thicks)] ((laidWorld os).forCall (fun _ _ => 0) ⟨#[],args,[]⟩).memory :=
 laidMetH_of_parts3 (fuel := 8) (laidMet_of_run' 8 (by kernel_rfl) (by kernel_rfl)) (by kernel_rfl) (by kernel_rfl)
theorem calls_lawF {f : FuncId} {W : World} {args : Array Value} {ds : List D} (hc : Contract Tryd.prog globF f ds (.bool true)) (hg : ∀ g cs,globF g = some cs → Rel (Old W) W (.ref cs 0) (.pointer (some ⟨g,0,none⟩))) (ha : All2 (Rel (Old W) W) ds args.toList) :
  Calls Tryd.prog f args W fun e W' => e = .returned (.bool true) ∧ Below W.heap.size W W' := by
 have := hc.calls W (Old W) args.toList (fun b o h => h) hg ha
 rw [Array.toArray_toList] at this
 exact this.mono fun e W' ⟨v,he,hb,R',_,_,hr⟩ => ⟨by rw [he,show v = .bool true from hr],hb⟩
theorem under4 : Tryd.prog.underlying 4 = some .bool := by kernel_rfl

/-! ### More kinds of arguments -/
section
variable {H : Type} {enc : TypeId × Value → H} {w : World} {sp : Nat → Bool} {hd : Bool}
theorem reads26 (fuel : Nat) (cs : List Value) (x : DataW H × List MemPlace) (h : DataW.trod enc Tryd.prog w 0 sp hd fuel 26 cs = some x) : ∃ b : Book,All2 (RelC (Old w) w) [.sl false .sec b.secs,.sl false .int b.turns,.sl false .sv b.svs,.int .i64 b.rule,.int .i64 b.days] cs ∧ b.secs.length ≤ maxLen ∧ b.turns.length ≤ maxLen ∧ b.svs.length ≤ maxLen := by
 have hu : Tryd.prog.underlying 26 = some (.struct #[fld 26 0,fld 26 1,fld 26 2,fld 26 3,fld 26 4]) := by kernel_rfl
 exact reads_book (t := 26) hu (by kernel_rfl) (by kernel_rfl) (by kernel_rfl) (by kernel_rfl) (by kernel_rfl) (by kernel_rfl) (by kernel_rfl) (by kernel_rfl) (by kernel_rfl) (by kernel_rfl) (by kernel_rfl) (e0 := 76) (e1 := 3) (e2 := 34) (by kernel_rfl) (by kernel_rfl) (by kernel_rfl) (by kernel_rfl) (by kernel_rfl) (by kernel_rfl) (by kernel_rfl) (by kernel_rfl) reads76 reads3 reads34 h
theorem six {α : Type} {l : List α} (h : l.length = 6) : ∃ a b c d e f,l = [a,b,c,d,e,f] := by
 match l,h with
 | [a,b,c,d,e,f],_ => exact ⟨a,b,c,d,e,f,rfl⟩
theorem five {α : Type} {l : List α} (h : l.length = 10) : ∃ a b c d e f g i j k,l = [a,b,c,d,e,f,g,i,j,k] := by
 match l,h with
 | [a,b,c,d,e,f,g,i,j,k],_ => exact ⟨a,b,c,d,e,f,g,i,j,k,rfl⟩
theorem arg84 {r : Reach} {b0 : Nat} {v : Value} {d : DataW H} {ps : List MemPlace} (hval : Value.okWide Tryd.prog w r b0 84 v) (h : DataW.Trod enc Tryd.prog w 0 sp hd 84 v d ps) : ∃ x : FBook,FSmall x ∧ Rel (Old w) w (fbookD x) v := by
 have hu : Tryd.prog.underlying 84 = some (.struct #[fld 84 0,fld 84 1,fld 84 2,fld 84 3,fld 84 4,fld 84 5]) := by kernel_rfl
 unfold Value.okWide at hval
 rw [hu] at hval
 obtain ⟨cs,rfl,_⟩ := hval
 obtain ⟨fuel,h⟩ := h
 obtain ⟨xs,k,_,_,hl,hx,hf⟩ := DataW.trod_struct hu h
 have hc : Tryd.prog.cellsOf 84 = 10 := by kernel_rfl
 rw [hc] at hl
 obtain ⟨u0,u1,u2,u3,u4,u5,u6,u7,u8,u9,hcs⟩ := five hl
 obtain ⟨y0,y1,y2,y3,y4,y5,hxs⟩ := six hx
 subst hxs
 have g0 := hf 0 (fld 84 0) rfl
 have g1 := hf 1 (fld 84 1) rfl
 have g2 := hf 2 (fld 84 2) rfl
 have g3 := hf 3 (fld 84 3) rfl
 have g4 := hf 4 (fld 84 4) rfl
 have g5 := hf 5 (fld 84 5) rfl
 have hfs : ∀ i,i < 6 → (fld 84 i).offset = [0,5,6,7,8,9].getD i 0 ∧ Tryd.prog.cellsOf (fld 84 i).type = [5,1,1,1,1,1].getD i 0 ∧ (fld 84 i).type = [26,23,3,23,3,3].getD i 0 := by
  intro i hi
  have h6 : i = 0 ∨ i = 1 ∨ i = 2 ∨ i = 3 ∨ i = 4 ∨ i = 5 := by omega
  rcases h6 with rfl | rfl | rfl | rfl | rfl | rfl <;> exact ⟨by kernel_rfl,by kernel_rfl,by kernel_rfl⟩
 obtain ⟨a0,b0,c0⟩ := hfs 0 (by decide)
 obtain ⟨a1,b1,c1⟩ := hfs 1 (by decide)
 obtain ⟨a2,b2,c2⟩ := hfs 2 (by decide)
 obtain ⟨a3,b3,c3⟩ := hfs 3 (by decide)
 obtain ⟨a4,b4,c4⟩ := hfs 4 (by decide)
 obtain ⟨a5,b5,c5⟩ := hfs 5 (by decide)
 rw [a0,b0,c0,hcs] at g0
 rw [a1,b1,c1,hcs] at g1
 rw [a2,b2,c2,hcs] at g2
 rw [a3,b3,c3,hcs] at g3
 rw [a4,b4,c4,hcs] at g4
 rw [a5,b5,c5,hcs] at g5
 simp at g0 g1 g2 g3 g4 g5
 obtain ⟨b,h1,h2,h3,h4⟩ := reads26 _ _ _ g0
 have t23 : Tryd.prog.underlying 23 = some (.slice 3) := by kernel_rfl
 have t3 : Tryd.prog.underlying 3 = some (.int .i64) := by kernel_rfl
 obtain ⟨w1,fe,e1,s1,l1⟩ := reads_slice (e := .int) t23 (by kernel_rfl) reads3 g1
 obtain ⟨nw,e2⟩ := reads_int t3 g2
 obtain ⟨w3,op,e3,s3,l3⟩ := reads_slice (e := .int) t23 (by kernel_rfl) reads3 g3
 obtain ⟨st,e4⟩ := reads_int t3 g4
 obtain ⟨mk,e5⟩ := reads_int t3 g5
 simp only [List.cons.injEq,and_true] at e1 e2 e3 e4 e5
 have hm : maxLen ≤ 9223372036854775807 := by decide
 refine ⟨⟨b,fe,nw,op,st,mk⟩,⟨⟨Nat.le_trans h2 hm,Nat.le_trans h3 hm,Nat.le_trans h4 hm⟩,Nat.le_trans l1 hm,Nat.le_trans l3 hm⟩,cs,rfl,?_⟩
 have hcs' : cs.toList = [u0,u1,u2,u3,u4,u5,u6,u7,u8,u9] := hcs
 rw [hcs']
 obtain ⟨p0,p1,p2,p3,p4,_⟩ := h1
 rw [e1,e2,e3,e4,e5]
 exact ⟨p0,p1,p2,p3,p4,s1,rfl,s3,rfl,rfl,trivial⟩
end
end Go.Di

namespace Go.Di
open Proofs
end Go.Di

namespace Go.Di
open Proofs

/-! ### works: the days on which a plan changes a section -/
/-! ### The last day on which a section was changed -/
end Go.Di

namespace Go.Di
open Proofs
end Go.Di

namespace Go.Di
open Proofs

/-! ### The stock,work by work -/
/-- What a work asks of the stock. -/
def termF (x : FBook) (plan : List Work) (k : Nat) : Int := feetF x (plan.take (k + 1)) - x.make * (plan.getD k work0).d
theorem mx_lei {a b c : Int} : mx a b ≤ c ↔ a ≤ c ∧ b ≤ c := by unfold mx; split <;> omega
theorem needs_le (x : FBook) (plan : List Work) (c : Int) : ∀ k,needsTo x plan k ≤ c ↔ 0 ≤ c ∧ ∀ j,j < k → termF x plan j ≤ c
 | 0 => ⟨fun h => ⟨h,fun j hj => by omega⟩,fun h => h.1⟩
 | k + 1 => by
  rw [show needsTo x plan (k + 1) = mx (needsTo x plan k) (termF x plan k) from rfl,mx_lei,needs_le x plan c k]
  constructor
  ·rintro ⟨⟨h1,h2⟩,h3⟩
   refine ⟨h1,fun j hj => ?_⟩
   by_cases h : j = k
   ·subst h; exact h3
   ·exact h2 j (by omega)
  ·rintro ⟨h1,h2⟩
   exact ⟨⟨h1,fun j hj => h2 j (by omega)⟩,h2 k (by omega)⟩
end Go.Di

