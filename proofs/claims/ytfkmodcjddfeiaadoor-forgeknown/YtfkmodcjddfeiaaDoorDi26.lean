/- Part 26: an interpreter over plain data for this code, with the proof that it says what the model does, and the contracts of the functions. No condition. -/
import Derived.Test.YtfkmodcjddfeiaaDoorDi25
import Derived.Deep.Slices
import Derived.Deep.DeepHandedRow
import Derived.Carry
import Derived.LaidMore
import Derived.ProofKit
import Derived.OpenShut
set_option linter.unusedVariables false
set_option linter.unusedSimpArgs false
namespace Go.Di
open Proofs
open Go.RowKit

theorem best_ok {x : FBook} (hx : FIn x) (th : List (List Int)) (wr : List Int) : PlanOk x (bestF x th wr).1 := by
 have key : ∀ (l : List (List Work)) (o : List Work × Bool),PlanOk x o.1 → (∀ p ∈ l,PlanOk x p) → PlanOk x (l.foldl (bestStep x) o).1 := by
  intro l
  induction l with
  | nil => exact fun o h _ => h
  | cons p l ih =>
   intro o ho hl
   refine ih _ ?_ (fun q hq => hl q (by simp [hq]))
   unfold bestStep
   split
   ·exact hl p (by simp)
   ·exact ho
 exact key _ _ ⟨by simp,fun w hw => by simp at hw⟩ (fun p hp => plans_ok hx hp)

/-! ### Plan -/
def fPlanF (x : FBook) : List Work × Int := if ferrF x true = 0 then (match bestF x (knowTh x) (knowWr x) with
 | (p,true) => (p,0)
 | (_,false) => ([],4)) else ([],ferrF x true)
theorem nil_workI {R : Foot} {w : World} {v : Value} {l : List Work} {e : Int} (h : Rel R w (.tup [.sl true .work l,.int .i64 e]) v) : Rel R w (.tup [.sl false .work l,.int .i64 e]) v := by
 obtain ⟨vs,rfl,h⟩ := h
 obtain ⟨v0,l',e',h0,h⟩ := all2_cons h
 refine ⟨vs,rfl,?_⟩
 rw [e']
 exact ⟨sl_weak h0,h⟩
theorem fPlan_con {x : FBook} (hs : FSmall x) : CF 77 [fbookD x] (.tup [.sl false .work (fPlanF x).1,.int .i64 (fPlanF x).2]) := by
 have ha := fasked_con hs 138 [] [] true (fun hV => falways_con x)
 unfold fPlanF
 by_cases he : ferrF x true = 0
 ·obtain ⟨hV,h1,h2,h3⟩ := ferr_ok he
  rw [if_pos he]
  rw [h3,he] at ha
  have hb := best_con hV.inn (.work (worksF x)) (know_ok hV h2)
  cases hbf : bestF x (knowTh x) (knowWr x) with
  | mk p f =>
   rw [hbf] at hb
   cases f with
   | false => exact (contract_of_path (GF 29) fPlan_fn (fPlan_none x _ _ _ p) ⟨ha,hb,trivial⟩).toRes fun R w v h => nil_workI h
   | true =>
    have e : (List.drop 0 (List.take (Int.toNat (List.length p : Int)) p) : List Work) = p := by rw [Int.toNat_natCast,List.take_length]; rfl
    exact (contract_of_path (GF 29) fPlan_fn (fPlan_some x _ _ _ p) ⟨ha,hb,⟨by omega,by omega,by omega,rfl⟩,trivial⟩).toRes fun R w v h => by
     have h' : Rel R w (.tup [.sl true .work (List.drop 0 (List.take (Int.toNat (List.length p : Int)) p) : List Work),.int .i64 0]) v := h
     rw [e] at h'
     exact nil_workI h'
 ·obtain ⟨h1,h2⟩ := ferr_bad he
  rw [if_neg he]
  rcases h1 with h1 | h1
  ·rw [h1] at ha
   exact (contract_of_path (GF 29) fPlan_fn (fPlan_errz x _) ⟨ha,h2,trivial⟩).toRes fun R w v h => nil_workI h
  ·rw [h1] at ha
   exact (contract_of_path (GF 29) fPlan_fn (fPlan_erro x _ _) ⟨ha,h2,trivial⟩).toRes fun R w v h => nil_workI h

/-! ### Stock -/
def fStockF (x : FBook) : Int × Int := if ferrF x true = 0 then (if stockF x (knowTh x) (knowWr x) > 200 then (0,4) else (stockF x (knowTh x) (knowWr x),0)) else (0,ferrF x true)
theorem stock_main {x : FBook} (hx : FIn x) (m : Mp) {th : List (List Int)} {wr : List Int} (hk : KnOk x th wr) (ha : CF 137 [fbookD x,.fn 138 [] []] (.tup [fbkD x m th wr,.int .i64 0])) :
  CF 89 [fbookD x] (if stockF x th wr > 200 then .tup [.int .i64 0,.int .i64 4] else .tup [.int .i64 (stockF x th wr),.int .i64 0]) := by
 have hcode : body Tryd.f89 = .seq (Code.at [0] (body Tryd.f89)) (.seq (Code.at [1,0] (body Tryd.f89)) (.seq (Code.at [1,1,0] (body Tryd.f89)) (.seq (Code.at [1,1,1,0] (body Tryd.f89)) (.seq (.seq (Code.at [1,1,1,1,0,0] (body Tryd.f89)) (.block 0 (.rangeFunc (.tmp 17) #[18] (Code.at [1,1,1,1,0,1,0,0] (body Tryd.f89)) (Code.at [1,1,1,1,0,1,0,1] (body Tryd.f89))))) (Code.at [1,1,1,1,1] (body Tryd.f89)))))) := by kernel_rfl
 have hgoal : ∀ (r : D),(∀ (ke : Nat → Prop) (w1 : World) (ds : List Deferred),WpL PRG (mkE PRG (lookN typesF) globF 27 ke w1 ds) (Code.at [1,1,1,1,1] (body Tryd.f89)) (skS x m th wr (stockF x th wr)) (fun e L' => e = .ret ∧ ∃ ps,fin (mkE PRG (lookN typesF) globF 27 ke w1 ds) [.tmp 2,.tmp 3] (ofL L') = some (ps,r) ∧ allP ps)) →
   CF 89 [fbookD x] r := by
  intro r hend
  refine contract_of_marks typesF_ok sk_fn ?_
  intro w0 R0 a Q hH hQ
  rw [hcode]
  refine wpIn_seq (WpL.path (GF 27) (sk_0 x) trivial (Post := fun e L' => e = .normal ∧ L' = skA x) ⟨rfl,rfl⟩ w0 R0 a w0 _ none 1 (fun _ => rfl) hH fun e L' a1 W1 hp hH1 => ?_)
  obtain ⟨rfl,rfl⟩ := hp
  show Code.wpIn _ _ _ _ _ _ _
  refine wpIn_seq (WpL.path (GF 27) (sk_1 x m th wr) ⟨ha,trivial⟩ (Post := fun e L' => e = .normal ∧ L' = skB x m th wr) ⟨rfl,rfl⟩ w0 R0 a1 W1 _ none 1 (fun _ => rfl) hH1 fun e L' a2 W2 hp hH2 => ?_)
  obtain ⟨rfl,rfl⟩ := hp
  show Code.wpIn _ _ _ _ _ _ _
  refine wpIn_seq (WpL.path (GF 27) (sk_2 x m th wr) trivial (Post := fun e L' => e = .normal ∧ L' = [(.tmp 4,.d (.ptr 4 0)),(.box 4,.bx (some ⟨false,cellsOf (fbkD x m th wr)⟩))]) ⟨rfl,rfl⟩ w0 R0 a2 W2 _ none 1 (fun _ => rfl) hH2 fun e L' a3 W3 hp hH3 => ?_)
  obtain ⟨rfl,rfl⟩ := hp
  show Code.wpIn _ _ _ _ _ _ _
  refine wpIn_seq (WpL.path (GF 27) (sk_3 x m th wr) trivial (Post := fun e L' => e = .normal ∧ L' = skS x m th wr 201) ⟨rfl,rfl⟩ w0 R0 a3 W3 _ none 1 (fun _ => rfl) hH3 fun e L' a4 W4 hp hH4 => ?_)
  obtain ⟨rfl,rfl⟩ := hp
  show Code.wpIn _ _ _ _ _ _ _
  refine wpIn_seq (wpIn_seq (WpL.path (GF 27) (sk_4 x m th wr) ⟨plans_con x m th wr,trivial⟩ (Post := fun e L' => e = .normal ∧ L' = (.tmp 17,.d (plW x m th wr)) :: skS x m th wr 201) ⟨rfl,rfl⟩ w0 R0 a4 W4 _ none 1 (fun _ => rfl) hH4 fun e L' a5 W5 hp hH5 => ?_))
  obtain ⟨rfl,rfl⟩ := hp
  show Code.wpIn _ _ _ _ _ _ _
  refine range_frame (tt := lookN typesF) (glob := globF) (n := 27) (gf := 179) (caps := [cellsOf (fbkD x m th wr)]) (Told := ToldP) (xs := plansF x th wr) (S := fun pre => skS x m th wr (stockOf x pre)) (S1 := fun pre p => skS1 x m th wr (stockOf x pre) p) (fx := [4,6]) (dx := fun p => .sl false .work p) (L := (.tmp 17,.d (plW x m th wr)) :: skS x m th wr 201) (ks := skK)
   ?_ ⟨Tryd.f179,by kernel_rfl,by kernel_rfl,by kernel_rfl⟩ ?_ (by decide) (by decide) ?_ ?_ ?_ ?_ rfl (by kernel_rfl) (by kernel_rfl) (fun k => by rfl) ?_ hH5 ?_
  ·exact fun KE R w lb h1 h2 h3 h4 => seq_plans hx hk m KE R w lb h1 h2 h3 h4
  ·exact fun R T p vs W h => hv_told h
  ·intro pre i hi
   exact tmpIn_ok (fx := [4,6]) (by kernel_rfl) i hi
  ·intro pre i
   rfl
  ·rintro pre p ke no w1 fv _
   exact WpL.path (goodR mixed_ok typesF_ok) (sk_as x m th wr _ p ke no w1 fv) trivial ⟨rfl,rfl⟩
  ·rintro pre p ke no w1 fv hsp
   obtain ⟨hm,hpre⟩ := mem_of_split hsp
   have hp := plans_ok hx hm
   have hg := needs_con hx m th wr hp
   have e1 : stockOf x (pre ++ [p]) = mn (stockOf x pre) (needsF x p) := by unfold stockOf; rw [List.foldl_append]; rfl
   show WpL _ _ _ _ (fun e L' => e = .normal ∧ L' = skS x m th wr (stockOf x (pre ++ [p])))
   rw [e1]
   exact WpL.path (goodR mixed_ok typesF_ok) (sk_bd x m th wr _ p _ ke no w1 fv) ⟨by omega,hg,trivial⟩ ⟨rfl,rfl⟩
  ·exact freeIn_ok (by kernel_rfl)
  ·intro D a6 W6 hD hH6 hWD
   show Code.wpIn _ _ _ _ _ _ _
   refine hend _ _ _ w0 R0 a6 W6 _ none 1 (fun _ => rfl) hH6 fun e L' a7 W7 hp hH7 => ?_
   obtain ⟨rfl,hfin⟩ := hp
   exact hQ D a7 W7 W6 _ L' hD hH7 hWD hfin (.inr rfl)
 by_cases h : stockF x th wr > 200
 ·rw [if_pos h]
  exact hgoal _ fun ke w1 ds => WpL.path (goodE mixed_ok typesF_ok) (sk_no x m th wr _ ke w1 ds) ⟨by omega,decide_eq_true h,trivial⟩ ⟨rfl,[],by kernel_rfl,trivial⟩
 ·rw [if_neg h]
  exact hgoal _ fun ke w1 ds => WpL.path (goodE mixed_ok typesF_ok) (sk_yes x m th wr _ ke w1 ds) ⟨by omega,decide_eq_false h,by omega,trivial⟩ ⟨rfl,[],by kernel_rfl,trivial⟩
theorem fStock_con {x : FBook} (hs : FSmall x) : CF 89 [fbookD x] (.tup [.int .i64 (fStockF x).1,.int .i64 (fStockF x).2]) := by
 have ha := fasked_con hs 138 [] [] true (fun hV => falways_con x)
 unfold fStockF
 by_cases he : ferrF x true = 0
 ·obtain ⟨hV,h1,h2,h3⟩ := ferr_ok he
  rw [if_pos he]
  rw [h3,he] at ha
  have := stock_main hV.inn (.work (worksF x)) (know_ok hV h2) ha
  by_cases h : stockF x (knowTh x) (knowWr x) > 200
  ·rw [if_pos h] at this ⊢; exact this
  ·rw [if_neg h] at this ⊢; exact this
 ·obtain ⟨h1,h2⟩ := ferr_bad he
  rw [if_neg he]
  rcases h1 with h1 | h1
  ·rw [h1] at ha
   exact contract_of_path (GF 27) fStock_fn (fStock_errz x _) ⟨ha,h2,trivial⟩
  ·rw [h1] at ha
   exact contract_of_path (GF 27) fStock_fn (fStock_erro x _ _) ⟨ha,h2,trivial⟩

/-! ### Rest -/
/-- The book with one open day more. -/
def FBook.rest (x : FBook) (d : Int) : FBook := x.withOpn (insL x.opn (x.opn.countP (· < d)) d)
def restStep (x : FBook) (th : List (List Int)) (wr : List Int) (o : Int × Int × Bool) (d : Nat) : Int × Int × Bool :=
 if x.opn.contains (d : Int) = true then o else match bestF (x.rest d) th wr with
  | (_,false) => o
  | (p,true) => if o.2.2 = false ∨ feetF x p < o.2.1 then ((d : Int),feetF x p,true) else o
def restTo (x : FBook) (th : List (List Int)) (wr : List Int) : Nat → Int × Int × Bool
 | 0 => (-1,feetF x (bestF x th wr).1,(bestF x th wr).2)
 | d + 1 => restStep x th wr (restTo x th wr d) d
def fRestF (x : FBook) : Int × Int := if ferrF x true = 0 then (if (restTo x (knowTh x) (knowWr x) (x.chain.days + 1).toNat).1 < 0 then (0,4) else ((restTo x (knowTh x) (knowWr x) (x.chain.days + 1).toNat).1,0)) else (0,ferrF x true)
theorem rest_in {x : FBook} (hV : FValid x) {d : Int} (hd : 0 ≤ d ∧ d ≤ x.chain.days) : FIn (x.rest d) := by
 have h := hV.inn
 have hl := hV.opnl
 have hc : x.opn.countP (· < d) ≤ x.opn.length := List.countP_le_length
 refine ⟨h.n,h.days,h.turns,h.feet,h.new,?_,fun e he => ?_,h.stock,h.make⟩
 ·show (insL x.opn _ d).length ≤ 5
  rw [insL_length d hc]
  omega
 ·have he' : e ∈ insL x.opn (x.opn.countP (· < d)) d := he
  unfold insL at he'
  rcases List.mem_append.1 he' with h1 | h1
  ·exact h.opn _ (List.mem_of_mem_take h1)
  ·rcases List.mem_cons.1 h1 with h1 | h1
   ·have := h.days; omega
   ·exact h.opn _ (List.mem_of_mem_drop h1)
def rS (x : FBook) (m : Mp) (th : List (List Int)) (wr : List Int) : Int × Int × Bool → Nat → List (Key × Val)
 | (k,v,false),i => restA_S0 x m th wr k v i
 | (k,v,true),i => restB_S0 x m th wr k v i
theorem rest_loop {x : FBook} (hV : FValid x) {th : List (List Int)} {wr : List Int} (hk : KnOk x th wr) (m : Mp) :
  LF 82 (Code.at [1,1,1,1,1,0,1] (body Tryd.f92)) (rS x m th wr (restTo x th wr 0) 0) .normal (rS x m th wr (restTo x th wr (x.chain.days + 1).toNat) (x.chain.days + 1).toNat) := by
 have hd := hV.inn.days
 have hx := hV.inn
 refine LF.each (id := 0) (c := Code.at [1,1,1,1,1,0,1,0,0] (body Tryd.f92)) (by kernel_rfl) (x.chain.days + 1).toNat (fun i => rS x m th wr (restTo x th wr i) i) (fun i hi => ?_) ?_
 ·have hlt : decide ((i : Int) < x.chain.days + 1) = true := decide_eq_true (by omega)
  have hi64 : inI64 ((i : Int) + 1) := i64_of (by omega) (by omega)
  have hbs := bs_con (l := x.opn) (by have := hx.opnl; omega) hV.opn.2 (i : Int)
  have hstep : restTo x th wr (i + 1) = restStep x th wr (restTo x th wr i) i := rfl
  simp only [hstep]
  generalize restTo x th wr i = o
  obtain ⟨k,v,f⟩ := o
  unfold restStep
  cases hc : x.opn.contains (i : Int) with
  | true =>
   rw [hc] at hbs
   rw [if_pos rfl]
   cases f with
   | false => exact ⟨_,_,_,_,_,_,restA_0_skip x m th wr k v i _,⟨hlt,hbs,hi64,trivial⟩,rfl⟩
   | true => exact ⟨_,_,_,_,_,_,restB_0_skip x m th wr k v i _,⟨hlt,hbs,hi64,trivial⟩,rfl⟩
  | false =>
   rw [hc] at hbs
   rw [if_neg (by decide)]
   have hxr := rest_in hV (d := (i : Int)) (by omega)
   have hkr : KnOk (x.rest i) th wr := ⟨hk.wl,hk.w,hk.tl,hk.row,hk.t⟩
   have hb := best_con hxr m hkr
   have hins := fun b => ins_lf (x := x) (by have := hx.opnl; omega) m th wr b k v i (x.opn.countP (· < (i : Int))) List.countP_le_length
   have hok := best_ok hxr th wr
   cases hbf : bestF (x.rest i) th wr with
   | mk q g =>
    rw [hbf] at hb hok
    have hf := feet_con hx m th wr (plan := q) ⟨hok.1,fun w hw => ⟨(hok.2 w hw).s,(hok.2 w hw).d⟩⟩
    cases g with
    | false =>
     cases f with
     | false => exact ⟨_,_,_,_,_,_,restA_0_no x m th wr k v i _ _ q,⟨hlt,hbs,hins false,hb,hi64,trivial⟩,rfl⟩
     | true => exact ⟨_,_,_,_,_,_,restB_0_no x m th wr k v i _ _ q,⟨hlt,hbs,hins true,hb,hi64,trivial⟩,rfl⟩
    | true =>
     cases f with
     | false => exact ⟨_,_,_,_,_,_,restA_0_first x m th wr k v i _ _ q _,⟨hlt,hbs,hins false,hb,hf,hi64,trivial⟩,by dsimp only; rw [if_pos (.inl rfl)]; rfl⟩
     | true =>
      by_cases hlt2 : feetF x q < v
      ·exact ⟨_,_,_,_,_,_,restB_0_better x m th wr k v i _ _ q _,⟨hlt,hbs,hins true,hb,hf,decide_eq_true hlt2,hf,hi64,trivial⟩,by dsimp only; rw [if_pos (.inr hlt2)]; rfl⟩
      ·exact ⟨_,_,_,_,_,_,restB_0_worse x m th wr k v i _ _ q _,⟨hlt,hbs,hins true,hb,hf,decide_eq_false hlt2,hi64,trivial⟩,by dsimp only; rw [if_neg (by simp [hlt2])]; rfl⟩
 ·have hend : decide ((((x.chain.days + 1).toNat : Nat) : Int) < x.chain.days + 1) = false := decide_eq_false (by omega)
  generalize restTo x th wr (x.chain.days + 1).toNat = o
  obtain ⟨k,v,f⟩ := o
  cases f with
  | false => exact ⟨_,_,_,_,_,_,_,restA_0_end x m th wr k v _,⟨hend,trivial⟩,.inl ⟨rfl,rfl⟩,rfl⟩
  | true => exact ⟨_,_,_,_,_,_,_,restB_0_end x m th wr k v _,⟨hend,trivial⟩,.inl ⟨rfl,rfl⟩,rfl⟩
theorem restStep_f {x : FBook} {th : List (List Int)} {wr : List Int} (o : Int × Int × Bool) (d : Nat) (h : o.2.2 = true) : (restStep x th wr o d).2.2 = true := by
 unfold restStep
 split
 ·exact h
 ·split
  ·exact h
  ·split
   ·rfl
   ·exact h
theorem restTo_f {x : FBook} {th : List (List Int)} {wr : List Int} (h : (bestF x th wr).2 = true) : ∀ d,(restTo x th wr d).2.2 = true
 | 0 => h
 | d + 1 => restStep_f _ _ (restTo_f h d)
theorem fRest_con {x : FBook} (hs : FSmall x) : CF 92 [fbookD x] (.tup [.int .i64 (fRestF x).1,.int .i64 (fRestF x).2]) := by
 have ha := fasked_con hs 138 [] [] true (fun hV => falways_con x)
 unfold fRestF
 by_cases he : ferrF x true = 0
 ·obtain ⟨hV,h1,h2,h3⟩ := ferr_ok he
  rw [if_pos he]
  rw [h3,he] at ha
  have hk := know_ok hV h2
  have hb := best_con hV.inn (.work (worksF x)) hk
  have hf := feet_con hV.inn (.work (worksF x)) (knowTh x) (knowWr x) (best_ok hV.inn (knowTh x) (knowWr x))
  have hl := rest_loop hV hk (.work (worksF x))
  have hd := hV.inn.days
  have hi64 : inI64 (x.chain.days + 1) := i64_of (by omega) (by omega)
  have hmono := restTo_f (x := x) (th := knowTh x) (wr := knowWr x)
  have e0 : restTo x (knowTh x) (knowWr x) 0 = (-1,feetF x (bestF x (knowTh x) (knowWr x)).1,(bestF x (knowTh x) (knowWr x)).2) := rfl
  rw [e0] at hl
  generalize hbf : bestF x (knowTh x) (knowWr x) = bp at hb hf hl hmono
  obtain ⟨p,f⟩ := bp
  have hmono' := fun h => hmono h (x.chain.days + 1).toNat
  clear hmono
  generalize restTo x (knowTh x) (knowWr x) (x.chain.days + 1).toNat = o at hl hmono' ⊢
  obtain ⟨k,y,g⟩ := o
  dsimp only at *
  by_cases hk0 : k < 0
  ·rw [if_pos hk0]
   cases f with
   | false =>
    cases g with
    | false => exact contract_of_path (GF 82) restA_fn (restA_Anone x _ _ _ p _ k y _) ⟨ha,hb,hf,hi64,hl,decide_eq_true hk0,trivial⟩
    | true => exact contract_of_path (GF 82) restA_fn (restA_Bnone x _ _ _ p _ k y _) ⟨ha,hb,hf,hi64,hl,decide_eq_true hk0,trivial⟩
   | true =>
    obtain rfl : g = true := hmono' rfl
    exact contract_of_path (GF 82) restB_fn (restB_Bnone x _ _ _ p _ k y _) ⟨ha,hb,hf,hi64,hl,decide_eq_true hk0,trivial⟩
  ·rw [if_neg hk0]
   cases f with
   | false =>
    cases g with
    | false => exact contract_of_path (GF 82) restA_fn (restA_Asome x _ _ _ p _ k y _) ⟨ha,hb,hf,hi64,hl,decide_eq_false hk0,trivial⟩
    | true => exact contract_of_path (GF 82) restA_fn (restA_Bsome x _ _ _ p _ k y _) ⟨ha,hb,hf,hi64,hl,decide_eq_false hk0,trivial⟩
   | true =>
    obtain rfl : g = true := hmono' rfl
    exact contract_of_path (GF 82) restB_fn (restB_Bsome x _ _ _ p _ k y _) ⟨ha,hb,hf,hi64,hl,decide_eq_false hk0,trivial⟩
 ·obtain ⟨h1,h2⟩ := ferr_bad he
  rw [if_neg he]
  rcases h1 with h1 | h1
  ·rw [h1] at ha
   exact contract_of_path (GF 82) restA_fn (restA_errz x _) ⟨ha,h2,trivial⟩
  ·rw [h1] at ha
   exact contract_of_path (GF 82) restA_fn (restA_erro x _ _) ⟨ha,h2,trivial⟩
end Go.Di

namespace Go.Di
open Proofs
/-! ### The chapter's examples -/
def linksB (svs : List Sv) : Book := { secs := [⟨⟨40,42⟩,⟨1,2⟩⟩,⟨⟨38,39⟩,⟨0,1⟩⟩],turns := [6],svs := svs,rule := 30,days := 12 }
def bookX (n : Int) : FBook := { chain := linksB [],feet := [9,6],new := 40,opn := [3,5,9],stock := n,make := 1 }
def tornX : FBook := { bookX 12 with chain := linksB [⟨0,6,34,1⟩,⟨0,6,40,1⟩] }
def threeW : List Work := [⟨3,1⟩,⟨5,0⟩,⟨9,1⟩]
end Go.Di

namespace Go.Di
open Proofs
theorem links_fn : FnOk PRG (MF 13) 153 (body Tryd.f153) [.cell 2 26] := by refine ⟨Tryd.f153,?_,?_,?_,?_,?_⟩ <;> kernel_rfl
theorem fbookB_fn : FnOk PRG (MF 8) 95 (body Tryd.f95) [.cell 2 84] := by refine ⟨Tryd.f95,?_,?_,?_,?_,?_⟩ <;> kernel_rfl
theorem fown_fn : FnOk PRG (MF 2) 94 (body Tryd.f94) [.cell 0 84] := by refine ⟨Tryd.f94,?_,?_,?_,?_,?_⟩ <;> kernel_rfl
theorem fpoor_fn : FnOk PRG (MF 2) 100 (body Tryd.f100) [.cell 0 84] := by refine ⟨Tryd.f100,?_,?_,?_,?_,?_⟩ <;> kernel_rfl
theorem fwork_fn : FnOk PRG (MF 8) 97 (body Tryd.f97) [.cell 4 108] := by refine ⟨Tryd.f97,?_,?_,?_,?_,?_⟩ <;> kernel_rfl
theorem fthree_fn : FnOk PRG (MF 5) 96 (body Tryd.f96) [.tmp 0] := by refine ⟨Tryd.f96,?_,?_,?_,?_,?_⟩ <;> kernel_rfl
theorem ftorn_fn : FnOk PRG (MF 9) 99 (body Tryd.f99) [.cell 0 84] := by refine ⟨Tryd.f99,?_,?_,?_,?_,?_⟩ <;> kernel_rfl
theorem same_fn : FnOk PRG (MF 26) 136 (body Tryd.f136) [.tmp 4] := by refine ⟨Tryd.f136,?_,?_,?_,?_,?_⟩ <;> kernel_rfl
theorem riv_fn : FnOk PRG (MF 136) 73 (body Tryd.f73) [.tmp 0] := by refine ⟨Tryd.f73,?_,?_,?_,?_,?_⟩ <;> kernel_rfl
def same_S0 (p q : List Work) (i : Nat) : List (Key × Val) :=
 [(.tmp 0,.d (D.sl false E.work p)),
  (.tmp 1,.d (D.sl false E.work q)),
  (.tmp 5,.d (.int .i64 i))]
def same_K0 : List Key := [.tmp 0,.tmp 1,.tmp 5]
def same_T0_diff (p q : List Work) (i : Nat)  : List (Key × Val) :=
 [(.tmp 0,.d (D.sl false E.work p)),(.tmp 1,.d (D.sl false E.work q)),(.tmp 5,.d (D.int .i64 (i : Int))),(.tmp 4,.d (D.bool false))]
theorem same_0_on (p q : List Work) (i : Nat) :
  runK (MF 26) [(14,true),(25,false)] [] [] (Code.at [1,1,0,1,0,0] (body Tryd.f136)) (same_S0 p q i) same_K0 =
   some ([decide ((i : Int) < (List.length p : Int)) = true,(0 : Int) ≤ (i : Int) ∧ (i : Int) < (List.length p : Int),0 + 2 ≤ 2,(0 : Int) ≤ (i : Int) ∧ (i : Int) < (List.length q : Int),0 + 2 ≤ 2,(!eqI [Work.d (List.getD p (i) work0),Work.s (List.getD p (i) work0)] [Work.d (List.getD q (i) work0),Work.s (List.getD q (i) work0)]) = false,inI64 ((i : Int) + (1 : Int))],Ex.normal,same_S0 p q (i + 1)) := by kernel_rfl
theorem same_0_diff (p q : List Work) (i : Nat) :
  runK (MF 26) [(14,true),(25,true)] [] [] (Code.at [1,1,0,1,0,0] (body Tryd.f136)) (same_S0 p q i) [.tmp 0,.tmp 1,.tmp 5,.tmp 4] =
   some ([decide ((i : Int) < (List.length p : Int)) = true,(0 : Int) ≤ (i : Int) ∧ (i : Int) < (List.length p : Int),0 + 2 ≤ 2,(0 : Int) ≤ (i : Int) ∧ (i : Int) < (List.length q : Int),0 + 2 ≤ 2,(!eqI [Work.d (List.getD p (i) work0),Work.s (List.getD p (i) work0)] [Work.d (List.getD q (i) work0),Work.s (List.getD q (i) work0)]) = true],Ex.ret,same_T0_diff p q i ) := by kernel_rfl
theorem same_0_end (p q : List Work) (i : Nat) :
  runK (MF 26) [(14,false)] [] [] (Code.at [1,1,0,1,0,0] (body Tryd.f136)) (same_S0 p q i) same_K0 =
   some ([decide ((i : Int) < (List.length p : Int)) = false],Ex.exit 0,same_S0 p q i) := by kernel_rfl
theorem links_all (svs : List Sv) :
  callF (MF 13) [] [(3,spD ⟨40,42⟩),(4,spD ⟨1,2⟩),(6,spD ⟨38,39⟩),(7,spD ⟨0,1⟩)] [] (body Tryd.f153) [.cell 2 26] [.sl false .sv svs] =
   some ([CF 61 [D.int .i64 40,D.int .i64 42] (D.agg [D.int .i64 (Span.lo (Span.mk (40 : Int) (42 : Int))),D.int .i64 (Span.hi (Span.mk (40 : Int) (42 : Int)))]),CF 61 [D.int .i64 1,D.int .i64 2] (D.agg [D.int .i64 (Span.lo (Span.mk (1 : Int) (2 : Int))),D.int .i64 (Span.hi (Span.mk (1 : Int) (2 : Int)))]),CF 61 [D.int .i64 38,D.int .i64 39] (D.agg [D.int .i64 (Span.lo (Span.mk (38 : Int) (39 : Int))),D.int .i64 (Span.hi (Span.mk (38 : Int) (39 : Int)))]),CF 61 [D.int .i64 0,D.int .i64 1] (D.agg [D.int .i64 (Span.lo (Span.mk (0 : Int) (1 : Int))),D.int .i64 (Span.hi (Span.mk (0 : Int) (1 : Int)))])],D.agg [D.sl true E.sec [Sec.mk (Span.mk (Span.lo (Span.mk (40 : Int) (42 : Int))) (Span.hi (Span.mk (40 : Int) (42 : Int)))) (Span.mk (Span.lo (Span.mk (1 : Int) (2 : Int))) (Span.hi (Span.mk (1 : Int) (2 : Int)))),Sec.mk (Span.mk (Span.lo (Span.mk (38 : Int) (39 : Int))) (Span.hi (Span.mk (38 : Int) (39 : Int)))) (Span.mk (Span.lo (Span.mk (0 : Int) (1 : Int))) (Span.hi (Span.mk (0 : Int) (1 : Int))))],D.sl true E.int [(6 : Int)],D.sl false E.sv svs,D.int .i64 30,D.int .i64 12]) := by kernel_rfl
theorem fbookB_all (n : Int) :
  callF (MF 8) [] [(3,bookD (linksB []))] [] (body Tryd.f95) [.cell 2 84] [.int .i64 n] =
   some ([CF 153 [D.sl false E.sv []] (D.agg (bkCells (linksB [])))],D.agg [D.sl false E.sec (Book.secs (linksB [])),D.sl false E.int (Book.turns (linksB [])),D.sl false E.sv (Book.svs (linksB [])),D.int .i64 (Book.rule (linksB [])),D.int .i64 (Book.days (linksB [])),D.sl true E.int [(9 : Int),(6 : Int)],D.int .i64 40,D.sl true E.int [(3 : Int),(5 : Int),(9 : Int)],D.int .i64 n,D.int .i64 1]) := by kernel_rfl
theorem fown_all  :
  callF (MF 2) [] [(1,fbookD (bookX 12))] [] (body Tryd.f94) [.cell 0 84] [] =
   some ([CF 95 [D.int .i64 12] (D.agg [D.sl false E.sec (Book.secs (FBook.chain (bookX (12 : Int)))),D.sl false E.int (Book.turns (FBook.chain (bookX (12 : Int)))),D.sl false E.sv (Book.svs (FBook.chain (bookX (12 : Int)))),D.int .i64 (Book.rule (FBook.chain (bookX (12 : Int)))),D.int .i64 (Book.days (FBook.chain (bookX (12 : Int)))),D.sl false E.int (FBook.feet (bookX (12 : Int))),D.int .i64 (FBook.new (bookX (12 : Int))),D.sl false E.int (FBook.opn (bookX (12 : Int))),D.int .i64 (FBook.stock (bookX (12 : Int))),D.int .i64 (FBook.make (bookX (12 : Int)))])],D.agg [D.sl false E.sec (Book.secs (FBook.chain (bookX (12 : Int)))),D.sl false E.int (Book.turns (FBook.chain (bookX (12 : Int)))),D.sl false E.sv (Book.svs (FBook.chain (bookX (12 : Int)))),D.int .i64 (Book.rule (FBook.chain (bookX (12 : Int)))),D.int .i64 (Book.days (FBook.chain (bookX (12 : Int)))),D.sl false E.int (FBook.feet (bookX (12 : Int))),D.int .i64 (FBook.new (bookX (12 : Int))),D.sl false E.int (FBook.opn (bookX (12 : Int))),D.int .i64 (FBook.stock (bookX (12 : Int))),D.int .i64 (FBook.make (bookX (12 : Int)))]) := by kernel_rfl
theorem fpoor_all  :
  callF (MF 2) [] [(1,fbookD (bookX 11))] [] (body Tryd.f100) [.cell 0 84] [] =
   some ([CF 95 [D.int .i64 11] (D.agg [D.sl false E.sec (Book.secs (FBook.chain (bookX (11 : Int)))),D.sl false E.int (Book.turns (FBook.chain (bookX (11 : Int)))),D.sl false E.sv (Book.svs (FBook.chain (bookX (11 : Int)))),D.int .i64 (Book.rule (FBook.chain (bookX (11 : Int)))),D.int .i64 (Book.days (FBook.chain (bookX (11 : Int)))),D.sl false E.int (FBook.feet (bookX (11 : Int))),D.int .i64 (FBook.new (bookX (11 : Int))),D.sl false E.int (FBook.opn (bookX (11 : Int))),D.int .i64 (FBook.stock (bookX (11 : Int))),D.int .i64 (FBook.make (bookX (11 : Int)))])],D.agg [D.sl false E.sec (Book.secs (FBook.chain (bookX (11 : Int)))),D.sl false E.int (Book.turns (FBook.chain (bookX (11 : Int)))),D.sl false E.sv (Book.svs (FBook.chain (bookX (11 : Int)))),D.int .i64 (Book.rule (FBook.chain (bookX (11 : Int)))),D.int .i64 (Book.days (FBook.chain (bookX (11 : Int)))),D.sl false E.int (FBook.feet (bookX (11 : Int))),D.int .i64 (FBook.new (bookX (11 : Int))),D.sl false E.int (FBook.opn (bookX (11 : Int))),D.int .i64 (FBook.stock (bookX (11 : Int))),D.int .i64 (FBook.make (bookX (11 : Int)))]) := by kernel_rfl
theorem fwork_all (d s : Int) :
  callF (MF 8) [] [] [] (body Tryd.f97) [.cell 4 108] [.int .i64 d,.int .i64 s] =
   some ([0 + 2 ≤ 2],D.agg [D.int .i64 d,D.int .i64 s]) := by kernel_rfl
theorem fthree_all  :
  callF (MF 5) [] [(1,wkD ⟨3,1⟩),(2,wkD ⟨5,0⟩),(3,wkD ⟨9,1⟩)] [] (body Tryd.f96) [.tmp 0] [] =
   some ([CF 97 [D.int .i64 3,D.int .i64 1] (D.agg [D.int .i64 (Work.d (Work.mk (3 : Int) (1 : Int))),D.int .i64 (Work.s (Work.mk (3 : Int) (1 : Int)))]),CF 97 [D.int .i64 5,D.int .i64 0] (D.agg [D.int .i64 (Work.d (Work.mk (5 : Int) (0 : Int))),D.int .i64 (Work.s (Work.mk (5 : Int) (0 : Int)))]),CF 97 [D.int .i64 9,D.int .i64 1] (D.agg [D.int .i64 (Work.d (Work.mk (9 : Int) (1 : Int))),D.int .i64 (Work.s (Work.mk (9 : Int) (1 : Int)))])],D.sl true E.work [Work.mk (Work.d (Work.mk (3 : Int) (1 : Int))) (Work.s (Work.mk (3 : Int) (1 : Int))),Work.mk (Work.d (Work.mk (5 : Int) (0 : Int))) (Work.s (Work.mk (5 : Int) (0 : Int))),Work.mk (Work.d (Work.mk (9 : Int) (1 : Int))) (Work.s (Work.mk (9 : Int) (1 : Int)))]) := by kernel_rfl
theorem ftorn_all  :
  callF (MF 9) [] [(2,fbookD (bookX 12)),(6,bookD (linksB [⟨0,6,34,1⟩,⟨0,6,40,1⟩]))] [] (body Tryd.f99) [.cell 0 84] [] =
   some ([CF 94 [] (D.agg [D.sl false E.sec (Book.secs (FBook.chain (bookX (12 : Int)))),D.sl false E.int (Book.turns (FBook.chain (bookX (12 : Int)))),D.sl false E.sv (Book.svs (FBook.chain (bookX (12 : Int)))),D.int .i64 (Book.rule (FBook.chain (bookX (12 : Int)))),D.int .i64 (Book.days (FBook.chain (bookX (12 : Int)))),D.sl false E.int (FBook.feet (bookX (12 : Int))),D.int .i64 (FBook.new (bookX (12 : Int))),D.sl false E.int (FBook.opn (bookX (12 : Int))),D.int .i64 (FBook.stock (bookX (12 : Int))),D.int .i64 (FBook.make (bookX (12 : Int)))]),CF 153 [D.sl false E.sv [Sv.mk (0 : Int) (6 : Int) (34 : Int) (1 : Int),Sv.mk (0 : Int) (6 : Int) (40 : Int) (1 : Int)]] (D.agg (bkCells (linksB [Sv.mk (0 : Int) (6 : Int) (34 : Int) (1 : Int),Sv.mk (0 : Int) (6 : Int) (40 : Int) (1 : Int)])))],D.agg [D.sl false E.sec (Book.secs (linksB [Sv.mk (0 : Int) (6 : Int) (34 : Int) (1 : Int),Sv.mk (0 : Int) (6 : Int) (40 : Int) (1 : Int)])),D.sl false E.int (Book.turns (linksB [Sv.mk (0 : Int) (6 : Int) (34 : Int) (1 : Int),Sv.mk (0 : Int) (6 : Int) (40 : Int) (1 : Int)])),D.sl false E.sv (Book.svs (linksB [Sv.mk (0 : Int) (6 : Int) (34 : Int) (1 : Int),Sv.mk (0 : Int) (6 : Int) (40 : Int) (1 : Int)])),D.int .i64 (Book.rule (linksB [Sv.mk (0 : Int) (6 : Int) (34 : Int) (1 : Int),Sv.mk (0 : Int) (6 : Int) (40 : Int) (1 : Int)])),D.int .i64 (Book.days (linksB [Sv.mk (0 : Int) (6 : Int) (34 : Int) (1 : Int),Sv.mk (0 : Int) (6 : Int) (40 : Int) (1 : Int)])),D.sl false E.int (FBook.feet (bookX (12 : Int))),D.int .i64 (FBook.new (bookX (12 : Int))),D.sl false E.int (FBook.opn (bookX (12 : Int))),D.int .i64 (FBook.stock (bookX (12 : Int))),D.int .i64 (FBook.make (bookX (12 : Int)))]) := by kernel_rfl
theorem same_len (p q : List Work) :
  callF (MF 26) [(10,true)] [] [] (body Tryd.f136) [.tmp 4] [.sl false .work p,.sl false .work q] =
   some ([((List.length p : Int) != (List.length q : Int)) = true],D.bool false) := by kernel_rfl
theorem same_diff (p q : List Work) (i : Nat) :
  callF (MF 26) [(10,false)] [] [(0,(same_K0,(.ret,same_T0_diff p q i)))] (body Tryd.f136) [.tmp 4] [.sl false .work p,.sl false .work q] =
   some ([((List.length p : Int) != (List.length q : Int)) = false,LF 26 (Code.at [1,1,0,1] (body Tryd.f136)) [(.tmp 0,.d (D.sl false E.work p)),(.tmp 1,.d (D.sl false E.work q)),(.tmp 5,.d (D.int .i64 0))] Ex.ret (same_T0_diff p q i)],D.bool false) := by kernel_rfl
theorem same_all (p q : List Work) (i : Nat) :
  callF (MF 26) [(10,false)] [] [(0,(same_K0,(.normal,same_S0 p q i)))] (body Tryd.f136) [.tmp 4] [.sl false .work p,.sl false .work q] =
   some ([((List.length p : Int) != (List.length q : Int)) = false,LF 26 (Code.at [1,1,0,1] (body Tryd.f136)) [(.tmp 0,.d (D.sl false E.work p)),(.tmp 1,.d (D.sl false E.work q)),(.tmp 5,.d (D.int .i64 0))] Ex.normal (same_S0 p q i)],D.bool true) := by kernel_rfl
theorem riv_all  :
  callF (MF 136) [] [(16,fbookD (bookX 12)),(17,.sl false .work threeW),(18,.tup [.int .i64 32,.int .i64 0]),(22,fbookD (bookX 12)),(23,.sl false .work threeW),(24,.tup [.bool true,.int .i64 0]),(28,fbookD (bookX 12)),(29,wkD ⟨5,0⟩),(31,.tup [.int .i64 8,.int .i64 1,.int .i64 0]),(36,fbookD tornX),(37,.sl false .work threeW),(38,.tup [.int .i64 21,.int .i64 0]),(42,fbookD (bookX 11)),(43,.sl false .work threeW),(44,.tup [.int .i64 2,.int .i64 0]),(90,fbookD (bookX 12)),(91,.tup [.sl false .work threeW,.int .i64 0]),(95,fbookD (bookX 11)),(96,.tup [.int .i64 12,.int .i64 0]),(100,fbookD (bookX 12)),(101,.tup [.int .i64 7,.int .i64 0]),(105,fbookD tornX),(106,.tup [.sl false .work ([] : List Work),.int .i64 72]),(125,.sl false .work threeW),(126,.bool true)] [] (body Tryd.f73) [.tmp 0] [] =
   some ([CF 94 [] (D.agg [D.sl false E.sec (Book.secs (FBook.chain (bookX (12 : Int)))),D.sl false E.int (Book.turns (FBook.chain (bookX (12 : Int)))),D.sl false E.sv (Book.svs (FBook.chain (bookX (12 : Int)))),D.int .i64 (Book.rule (FBook.chain (bookX (12 : Int)))),D.int .i64 (Book.days (FBook.chain (bookX (12 : Int)))),D.sl false E.int (FBook.feet (bookX (12 : Int))),D.int .i64 (FBook.new (bookX (12 : Int))),D.sl false E.int (FBook.opn (bookX (12 : Int))),D.int .i64 (FBook.stock (bookX (12 : Int))),D.int .i64 (FBook.make (bookX (12 : Int)))]),CF 96 [] (D.sl false E.work threeW),CF 81 [D.agg [D.sl false E.sec (Book.secs (FBook.chain (bookX (12 : Int)))),D.sl false E.int (Book.turns (FBook.chain (bookX (12 : Int)))),D.sl false E.sv (Book.svs (FBook.chain (bookX (12 : Int)))),D.int .i64 (Book.rule (FBook.chain (bookX (12 : Int)))),D.int .i64 (Book.days (FBook.chain (bookX (12 : Int)))),D.sl false E.int (FBook.feet (bookX (12 : Int))),D.int .i64 (FBook.new (bookX (12 : Int))),D.sl false E.int (FBook.opn (bookX (12 : Int))),D.int .i64 (FBook.stock (bookX (12 : Int))),D.int .i64 (FBook.make (bookX (12 : Int)))],D.sl false E.work threeW,D.int .i64 0,D.int .i64 12] (D.tup [D.int .i64 32,D.int .i64 0]),CF 94 [] (D.agg [D.sl false E.sec (Book.secs (FBook.chain (bookX (12 : Int)))),D.sl false E.int (Book.turns (FBook.chain (bookX (12 : Int)))),D.sl false E.sv (Book.svs (FBook.chain (bookX (12 : Int)))),D.int .i64 (Book.rule (FBook.chain (bookX (12 : Int)))),D.int .i64 (Book.days (FBook.chain (bookX (12 : Int)))),D.sl false E.int (FBook.feet (bookX (12 : Int))),D.int .i64 (FBook.new (bookX (12 : Int))),D.sl false E.int (FBook.opn (bookX (12 : Int))),D.int .i64 (FBook.stock (bookX (12 : Int))),D.int .i64 (FBook.make (bookX (12 : Int)))]),CF 96 [] (D.sl false E.work threeW),CF 78 [D.agg [D.sl false E.sec (Book.secs (FBook.chain (bookX (12 : Int)))),D.sl false E.int (Book.turns (FBook.chain (bookX (12 : Int)))),D.sl false E.sv (Book.svs (FBook.chain (bookX (12 : Int)))),D.int .i64 (Book.rule (FBook.chain (bookX (12 : Int)))),D.int .i64 (Book.days (FBook.chain (bookX (12 : Int)))),D.sl false E.int (FBook.feet (bookX (12 : Int))),D.int .i64 (FBook.new (bookX (12 : Int))),D.sl false E.int (FBook.opn (bookX (12 : Int))),D.int .i64 (FBook.stock (bookX (12 : Int))),D.int .i64 (FBook.make (bookX (12 : Int)))],D.sl false E.work threeW] (D.tup [D.bool true,D.int .i64 0]),CF 94 [] (D.agg [D.sl false E.sec (Book.secs (FBook.chain (bookX (12 : Int)))),D.sl false E.int (Book.turns (FBook.chain (bookX (12 : Int)))),D.sl false E.sv (Book.svs (FBook.chain (bookX (12 : Int)))),D.int .i64 (Book.rule (FBook.chain (bookX (12 : Int)))),D.int .i64 (Book.days (FBook.chain (bookX (12 : Int)))),D.sl false E.int (FBook.feet (bookX (12 : Int))),D.int .i64 (FBook.new (bookX (12 : Int))),D.sl false E.int (FBook.opn (bookX (12 : Int))),D.int .i64 (FBook.stock (bookX (12 : Int))),D.int .i64 (FBook.make (bookX (12 : Int)))]),CF 97 [D.int .i64 5,D.int .i64 0] (D.agg [D.int .i64 (Work.d (Work.mk (5 : Int) (0 : Int))),D.int .i64 (Work.s (Work.mk (5 : Int) (0 : Int)))]),CF 83 [D.agg [D.sl false E.sec (Book.secs (FBook.chain (bookX (12 : Int)))),D.sl false E.int (Book.turns (FBook.chain (bookX (12 : Int)))),D.sl false E.sv (Book.svs (FBook.chain (bookX (12 : Int)))),D.int .i64 (Book.rule (FBook.chain (bookX (12 : Int)))),D.int .i64 (Book.days (FBook.chain (bookX (12 : Int)))),D.sl false E.int (FBook.feet (bookX (12 : Int))),D.int .i64 (FBook.new (bookX (12 : Int))),D.sl false E.int (FBook.opn (bookX (12 : Int))),D.int .i64 (FBook.stock (bookX (12 : Int))),D.int .i64 (FBook.make (bookX (12 : Int)))],D.sl false E.work [Work.mk (Work.d (Work.mk (5 : Int) (0 : Int))) (Work.s (Work.mk (5 : Int) (0 : Int)))]] (D.tup [D.int .i64 8,D.int .i64 1,D.int .i64 0]),CF 99 [] (fbookD tornX),CF 96 [] (D.sl false E.work threeW),CF 84 [fbookD tornX,D.sl false E.work threeW] (D.tup [D.int .i64 21,D.int .i64 0]),CF 100 [] (D.agg [D.sl false E.sec (Book.secs (FBook.chain (bookX (11 : Int)))),D.sl false E.int (Book.turns (FBook.chain (bookX (11 : Int)))),D.sl false E.sv (Book.svs (FBook.chain (bookX (11 : Int)))),D.int .i64 (Book.rule (FBook.chain (bookX (11 : Int)))),D.int .i64 (Book.days (FBook.chain (bookX (11 : Int)))),D.sl false E.int (FBook.feet (bookX (11 : Int))),D.int .i64 (FBook.new (bookX (11 : Int))),D.sl false E.int (FBook.opn (bookX (11 : Int))),D.int .i64 (FBook.stock (bookX (11 : Int))),D.int .i64 (FBook.make (bookX (11 : Int)))]),CF 96 [] (D.sl false E.work threeW),CF 85 [D.agg [D.sl false E.sec (Book.secs (FBook.chain (bookX (11 : Int)))),D.sl false E.int (Book.turns (FBook.chain (bookX (11 : Int)))),D.sl false E.sv (Book.svs (FBook.chain (bookX (11 : Int)))),D.int .i64 (Book.rule (FBook.chain (bookX (11 : Int)))),D.int .i64 (Book.days (FBook.chain (bookX (11 : Int)))),D.sl false E.int (FBook.feet (bookX (11 : Int))),D.int .i64 (FBook.new (bookX (11 : Int))),D.sl false E.int (FBook.opn (bookX (11 : Int))),D.int .i64 (FBook.stock (bookX (11 : Int))),D.int .i64 (FBook.make (bookX (11 : Int)))],D.sl false E.work threeW] (D.tup [D.int .i64 2,D.int .i64 0]),CF 94 [] (D.agg [D.sl false E.sec (Book.secs (FBook.chain (bookX (12 : Int)))),D.sl false E.int (Book.turns (FBook.chain (bookX (12 : Int)))),D.sl false E.sv (Book.svs (FBook.chain (bookX (12 : Int)))),D.int .i64 (Book.rule (FBook.chain (bookX (12 : Int)))),D.int .i64 (Book.days (FBook.chain (bookX (12 : Int)))),D.sl false E.int (FBook.feet (bookX (12 : Int))),D.int .i64 (FBook.new (bookX (12 : Int))),D.sl false E.int (FBook.opn (bookX (12 : Int))),D.int .i64 (FBook.stock (bookX (12 : Int))),D.int .i64 (FBook.make (bookX (12 : Int)))]),CF 77 [D.agg [D.sl false E.sec (Book.secs (FBook.chain (bookX (12 : Int)))),D.sl false E.int (Book.turns (FBook.chain (bookX (12 : Int)))),D.sl false E.sv (Book.svs (FBook.chain (bookX (12 : Int)))),D.int .i64 (Book.rule (FBook.chain (bookX (12 : Int)))),D.int .i64 (Book.days (FBook.chain (bookX (12 : Int)))),D.sl false E.int (FBook.feet (bookX (12 : Int))),D.int .i64 (FBook.new (bookX (12 : Int))),D.sl false E.int (FBook.opn (bookX (12 : Int))),D.int .i64 (FBook.stock (bookX (12 : Int))),D.int .i64 (FBook.make (bookX (12 : Int)))]] (D.tup [D.sl false E.work threeW,D.int .i64 0]),CF 100 [] (D.agg [D.sl false E.sec (Book.secs (FBook.chain (bookX (11 : Int)))),D.sl false E.int (Book.turns (FBook.chain (bookX (11 : Int)))),D.sl false E.sv (Book.svs (FBook.chain (bookX (11 : Int)))),D.int .i64 (Book.rule (FBook.chain (bookX (11 : Int)))),D.int .i64 (Book.days (FBook.chain (bookX (11 : Int)))),D.sl false E.int (FBook.feet (bookX (11 : Int))),D.int .i64 (FBook.new (bookX (11 : Int))),D.sl false E.int (FBook.opn (bookX (11 : Int))),D.int .i64 (FBook.stock (bookX (11 : Int))),D.int .i64 (FBook.make (bookX (11 : Int)))]),CF 89 [D.agg [D.sl false E.sec (Book.secs (FBook.chain (bookX (11 : Int)))),D.sl false E.int (Book.turns (FBook.chain (bookX (11 : Int)))),D.sl false E.sv (Book.svs (FBook.chain (bookX (11 : Int)))),D.int .i64 (Book.rule (FBook.chain (bookX (11 : Int)))),D.int .i64 (Book.days (FBook.chain (bookX (11 : Int)))),D.sl false E.int (FBook.feet (bookX (11 : Int))),D.int .i64 (FBook.new (bookX (11 : Int))),D.sl false E.int (FBook.opn (bookX (11 : Int))),D.int .i64 (FBook.stock (bookX (11 : Int))),D.int .i64 (FBook.make (bookX (11 : Int)))]] (D.tup [D.int .i64 12,D.int .i64 0]),CF 94 [] (D.agg [D.sl false E.sec (Book.secs (FBook.chain (bookX (12 : Int)))),D.sl false E.int (Book.turns (FBook.chain (bookX (12 : Int)))),D.sl false E.sv (Book.svs (FBook.chain (bookX (12 : Int)))),D.int .i64 (Book.rule (FBook.chain (bookX (12 : Int)))),D.int .i64 (Book.days (FBook.chain (bookX (12 : Int)))),D.sl false E.int (FBook.feet (bookX (12 : Int))),D.int .i64 (FBook.new (bookX (12 : Int))),D.sl false E.int (FBook.opn (bookX (12 : Int))),D.int .i64 (FBook.stock (bookX (12 : Int))),D.int .i64 (FBook.make (bookX (12 : Int)))]),CF 92 [D.agg [D.sl false E.sec (Book.secs (FBook.chain (bookX (12 : Int)))),D.sl false E.int (Book.turns (FBook.chain (bookX (12 : Int)))),D.sl false E.sv (Book.svs (FBook.chain (bookX (12 : Int)))),D.int .i64 (Book.rule (FBook.chain (bookX (12 : Int)))),D.int .i64 (Book.days (FBook.chain (bookX (12 : Int)))),D.sl false E.int (FBook.feet (bookX (12 : Int))),D.int .i64 (FBook.new (bookX (12 : Int))),D.sl false E.int (FBook.opn (bookX (12 : Int))),D.int .i64 (FBook.stock (bookX (12 : Int))),D.int .i64 (FBook.make (bookX (12 : Int)))]] (D.tup [D.int .i64 7,D.int .i64 0]),CF 99 [] (fbookD tornX),CF 77 [fbookD tornX] (D.tup [D.sl false E.work [],D.int .i64 72]),CF 96 [] (D.sl false E.work threeW),CF 136 [D.sl false E.work threeW,D.sl false E.work threeW] (D.bool true)],D.bool true) := by kernel_rfl
end Go.Di

namespace Go.Di
open Proofs

theorem own_th : knowTh (bookX 12) = [[40,38,36,34,32,30,28,27,26,25,24,23,22],[38,37,36,35,34,33,32,30,28,26,24,22,20]] := by kernel_rfl
theorem own_wr : knowWr (bookX 12) = [2,1] := by kernel_rfl
theorem poor_th : knowTh (bookX 11) = knowTh (bookX 12) := rfl
theorem poor_wr : knowWr (bookX 11) = knowWr (bookX 12) := rfl
theorem own_err : ferrF (bookX 12) true = 0 := by kernel_rfl
theorem poor_err : ferrF (bookX 11) true = 0 := by kernel_rfl
theorem ev_least : fLeastF (bookX 12) threeW 0 12 = (32,0) := by kernel_rfl
theorem ev_first3 : fFirstF (bookX 12) threeW = (0,0,4) := by
 have h : ferrF (bookX 12) (planB (bookX 12) threeW) = 0 := by kernel_rfl
 have e : fthinF (bookX 12) (knowTh (bookX 12)) (knowWr (bookX 12)) threeW = none := by rw [own_th,own_wr]; kernel_rfl
 unfold fFirstF
 rw [if_pos h,e]
theorem ev_safe : fSafeF (bookX 12) threeW = (true,0) := by unfold fSafeF; rw [ev_first3]; rfl
theorem ev_first : fFirstF (bookX 12) [⟨5,0⟩] = (8,1,0) := by
 have h : ferrF (bookX 12) (planB (bookX 12) [⟨5,0⟩]) = 0 := by kernel_rfl
 have e : fthinF (bookX 12) (knowTh (bookX 12)) (knowWr (bookX 12)) [⟨5,0⟩] = some (8,1) := by rw [own_th,own_wr]; kernel_rfl
 unfold fFirstF
 rw [if_pos h,e]
 rfl
theorem ev_feet : fFeetF tornX threeW = (21,0) := by kernel_rfl
theorem ev_short : fShortF (bookX 11) threeW = (2,0) := by kernel_rfl
theorem ev_best : bestF (bookX 12) (knowTh (bookX 12)) (knowWr (bookX 12)) = (threeW,true) := by rw [own_th,own_wr]; kernel_rfl
theorem ev_plan : fPlanF (bookX 12) = (threeW,0) := by unfold fPlanF; rw [if_pos own_err,ev_best]
theorem ev_stock0 : stockF (bookX 11) (knowTh (bookX 11)) (knowWr (bookX 11)) = 12 := by rw [poor_th,poor_wr,own_th,own_wr]; kernel_rfl
theorem ev_stock : fStockF (bookX 11) = (12,0) := by unfold fStockF; rw [if_pos poor_err,ev_stock0]; rfl
theorem ev_rest0 : (restTo (bookX 12) (knowTh (bookX 12)) (knowWr (bookX 12)) ((bookX 12).chain.days + 1).toNat).1 = 7 := by rw [own_th,own_wr]; kernel_rfl
theorem ev_rest : fRestF (bookX 12) = (7,0) := by unfold fRestF; rw [if_pos own_err,ev_rest0]; rfl
theorem ev_torn : fPlanF tornX = ([],72) := by
 have h : ferrF tornX true = 72 := by kernel_rfl
 unfold fPlanF
 rw [h]
 rfl

/-! ### Their contracts -/
theorem links_con (svs : List Sv) : CF 153 [.sl false .sv svs] (bookD (linksB svs)) := by
 have := contract_of_path (GF 13) links_fn (links_all svs) ⟨(rangeB_con 40 42).up,(rangeB_con 1 2).up,(rangeB_con 38 39).up,(rangeB_con 0 1).up,trivial⟩
 exact this.toWeak
theorem fbookB_con (n : Int) : CF 95 [.int .i64 n] (fbookD (bookX n)) := (contract_of_path (GF 8) fbookB_fn (fbookB_all n) ⟨links_con [],trivial⟩).toWeak
theorem fown_con : CF 94 [] (fbookD (bookX 12)) := contract_of_path (GF 2) fown_fn fown_all ⟨fbookB_con 12,trivial⟩
theorem fpoor_con : CF 100 [] (fbookD (bookX 11)) := contract_of_path (GF 2) fpoor_fn fpoor_all ⟨fbookB_con 11,trivial⟩
theorem fwork_con (d s : Int) : CF 97 [.int .i64 d,.int .i64 s] (wkD ⟨d,s⟩) := contract_of_path (GF 8) fwork_fn (fwork_all d s) ⟨by omega,trivial⟩
theorem fthree_con : CF 96 [] (.sl false .work threeW) := (contract_of_path (GF 5) fthree_fn fthree_all ⟨fwork_con 3 1,fwork_con 5 0,fwork_con 9 1,trivial⟩).toRes fun R w v h => sl_weak h
theorem ftorn_con : CF 99 [] (fbookD tornX) := contract_of_path (GF 9) ftorn_fn ftorn_all ⟨fown_con,links_con _,trivial⟩
instance workEq : DecidableEq Work := fun x y => if h : x.d = y.d ∧ x.s = y.s then isTrue (by obtain ⟨a,b⟩ := x; obtain ⟨c,d⟩ := y; obtain ⟨rfl,rfl⟩ := h; rfl) else isFalse fun e => h (by rw [e]; exact ⟨rfl,rfl⟩)
theorem eq_work {x y : Work} : eqI [x.d,x.s] [y.d,y.s] = decide (x = y) := by
 obtain ⟨a,b⟩ := x
 obtain ⟨c,d⟩ := y
 by_cases h : (⟨a,b⟩ : Work) = ⟨c,d⟩
 ·rw [decide_eq_true h]
  cases h
  simp [eqI]
 ·rw [decide_eq_false h]
  simp only [Work.mk.injEq,not_and] at h
  simp only [eqI]
  by_cases h1 : a = c
  ·have := h h1
   simp [this]
  ·simp [h1]
theorem ext_work {xs ys : List Work} (hl : xs.length = ys.length) (h : ∀ i < xs.length,xs.getD i work0 = ys.getD i work0) : xs = ys := by
 refine List.ext_getElem hl fun i h1 h2 => ?_
 have := h i h1
 rwa [List.getD_eq_getElem?_getD,List.getD_eq_getElem?_getD,List.getElem?_eq_getElem h1,List.getElem?_eq_getElem h2] at this
theorem same_con (p q : List Work) (hl : p.length ≤ 1000000) : CF 136 [.sl false .work p,.sl false .work q] (.bool (decide (p = q))) := by
 have hb : Code.at [1,1,0,1] (body Tryd.f136) = .block 0 (.loop (Code.at [1,1,0,1,0,0] (body Tryd.f136))) := by kernel_rfl
 by_cases hlen : p.length = q.length
 ·have hne : ((p.length : Int) != (q.length : Int)) = false := by rw [hlen]; simp
  have hon : ∀ k,k ≤ p.length → (∀ i < k,(!eqI [(p.getD i work0).d,(p.getD i work0).s] [(q.getD i work0).d,(q.getD i work0).s]) = false) → ∀ i,i < k → ∃ dec orc lorc ks ps L1,runK (MF 26) dec orc lorc (Code.at [1,1,0,1,0,0] (body Tryd.f136)) (same_S0 p q i) ks = some (ps,.normal,L1) ∧ allP ps ∧ L1 = same_S0 p q (i + 1) := fun k hk h i hi =>
   ⟨_,_,_,_,_,_,same_0_on p q i,⟨lt_true (by omega),⟨by omega,by omega⟩,by omega,⟨by omega,by omega⟩,by omega,h i hi,i64_of (by omega) (by omega),trivial⟩,rfl⟩
  rcases find_first (fun i => !eqI [(p.getD i work0).d,(p.getD i work0).s] [(q.getD i work0).d,(q.getD i work0).s]) p.length with ⟨k,h1,h2,h3⟩ | h
  ·have : decide (p = q) = false := decide_eq_false fun e => by subst e; rw [eq_work] at h2; simp at h2
   rw [this]
   exact contract_of_path (GF 26) same_fn (same_diff p q k) ⟨hne,LF.each hb k (same_S0 p q) (hon k (by omega) h3) ⟨_,_,_,_,_,_,_,same_0_diff p q k,⟨lt_true h1,⟨by omega,by omega⟩,by omega,⟨by omega,by omega⟩,by omega,h2,trivial⟩,.inr ⟨rfl,rfl⟩,rfl⟩,trivial⟩
  ·have : decide (p = q) = true := decide_eq_true (ext_work hlen fun i hi => by have := h i hi; rw [eq_work] at this; simpa using this)
   rw [this]
   exact contract_of_path (GF 26) same_fn (same_all p q p.length) ⟨hne,LF.each hb p.length (same_S0 p q) (hon _ (Nat.le_refl _) h) ⟨_,_,_,_,_,_,_,same_0_end p q _,⟨lt_false,trivial⟩,.inl ⟨rfl,rfl⟩,rfl⟩,trivial⟩
 ·have : decide (p = q) = false := decide_eq_false fun e => hlen (by rw [e])
  rw [this]
  exact contract_of_path (GF 26) same_fn (same_len p q) ⟨by simp; omega,trivial⟩
theorem small_bookX (n : Int) : FSmall (bookX n) := ⟨⟨by simp [bookX,linksB],by simp [bookX,linksB],by simp [bookX,linksB]⟩,by simp [bookX],by simp [bookX]⟩
theorem small_torn : FSmall tornX := ⟨⟨by simp [tornX,bookX,linksB],by simp [tornX,bookX,linksB],by simp [tornX,bookX,linksB]⟩,by simp [tornX,bookX],by simp [tornX,bookX]⟩
theorem riv_con : CF 73 [] (.bool true) := by
 have w3 : threeW.length ≤ 9223372036854775807 := by decide
 have c1 := fLeast_con (small_bookX 12) w3 0 12
 have c2 := fSafe_con (small_bookX 12) w3
 have c3 := fFirst_con (small_bookX 12) (plan := [⟨5,0⟩]) (by decide)
 have c4 := fFeet_con small_torn w3
 have c5 := fShort_con (small_bookX 11) w3
 have c6 := fPlan_con (small_bookX 12)
 have c7 := fStock_con (small_bookX 11)
 have c8 := fRest_con (small_bookX 12)
 have c9 := fPlan_con small_torn
 rw [ev_least] at c1
 rw [ev_safe] at c2
 rw [ev_first] at c3
 rw [ev_feet] at c4
 rw [ev_short] at c5
 rw [ev_plan] at c6
 rw [ev_stock] at c7
 rw [ev_rest] at c8
 rw [ev_torn] at c9
 have c10 := same_con threeW threeW (by decide)
 rw [decide_eq_true rfl] at c10
 exact contract_of_path (GF 136) riv_fn riv_all (by
  repeat (first | exact trivial | refine ⟨by first | exact fown_con | exact fthree_con | exact fpoor_con | exact ftorn_con | exact fwork_con 5 0 | exact c1 | exact c2 | exact c3 | exact c4 | exact c5 | exact c6 | exact c7 | exact c8 | exact c9 | exact c10 | exact c3.toArgs (fun R w vs h => by obtain ⟨v,l,rfl,h1,h⟩ := all2_cons h; obtain ⟨v2,l,rfl,h2,h⟩ := all2_cons h; exact ⟨h1,sl_weak h2,h⟩) | rfl | decide,?_⟩))
end Go.Di

namespace Go.Di
open Proofs
end Go.Di

namespace Go.Di
open Proofs

/-! ### A plan by a grid of days and sections -/
/-! ### sound -/
/-! ### drawn -/
end Go.Di

namespace Go.Di
open Proofs

/-! ### What the laws of forge share -/
section
variable {x : FBook} (hV : FValid x) {plan : List Work} (hp : planB x plan = true)
include hV hp
end
/-! ### The first day on which a section is too thin -/
section
variable {x : FBook} {th : List (List Int)} {wr : List Int} {plan : List Work}
end
end Go.Di

/-
 DI,part Z: how a row reads its arguments,and what it asks behind the call.
-/
namespace Go.Di
open Go.RowKit Go.ChangeShapes Go.WideShapes Go.Deep

section
variable {H : Type} {enc : TypeId × Value → H} {P : Program}

/-! ### Behind the call -/
theorem trodAll_below (hl : laidOutB P = true) {W W' : World} (hb : Below W.heap.size W W') {sp : Nat → Bool} : ∀ {ts : List TypeId} {vs : List Value} {ds : List (DataW H)} {ps : List MemPlace},
  (∀ t ∈ ts,P.readableRec t = true ∧ t < P.types.size) → DataW.TrodAll enc P W 0 (fun _ => true) true ts vs ds ps → (∀ x ∈ ps,x.block < W.heap.size) → (∀ x ∈ ps,sp x.block = true) → DataW.TrodAll enc P W' 0 sp true ts vs ds ps
 | [],[],[],ps,_,h,_,_ => h
 | [],[],_ :: _,_,_,h,_,_ => h.elim
 | [],_ :: _,_,_,_,h,_,_ => h.elim
 | _ :: _,[],_,_,_,h,_,_ => h.elim
 | _ :: _,_ :: _,[],_,_,h,_,_ => h.elim
 | t :: ts,v :: vs,d :: ds,ps,ht,⟨p,q,h1,h2,e⟩,hlt,hsp => by
  subst e
  have hx : ∀ x ∈ p,x ∈ p ++ q := fun x hx => List.mem_append_left _ hx
  have hy : ∀ x ∈ q,x ∈ p ++ q := fun x hx => List.mem_append_right _ hx
  obtain ⟨r1,r2⟩ := ht t (by simp)
  exact ⟨p,q,WideElems.Trod_stays hl r1 r2 h1 (fun x h => hb.same (hlt x (hx x h))) (fun x h => hsp x (hx x h)),trodAll_below hl hb (fun u hu => ht u (by simp [hu])) h2 (fun x h => hlt x (hy x h)) (fun x h => hsp x (hy x h)),rfl⟩

theorem law_post {f : Func} {s : ChangeSpec} {apart fresh handsOn again : Bool} {W W' : World} {args : Array Value} {ds gs : List (DataW H)} {before : List MemPlace} {tb : TypeId}
  (hl : laidOutB P = true) (hread : ∀ t ∈ f.params.toList,P.readableRec t = true ∧ t < P.types.size) (hvars : s.vars = []) (hres : f.resultTypes = #[tb]) (htb : P.underlying tb = some .bool)
  (hW : DataW.Whole enc P f.params.toList s.vars apart W args.toList ds gs before) (hspec : s.fn H (ds ++ gs) = { results := [.lit (.bool true)],args := ds }) (hb : Below W.heap.size W W') :
  s.post enc P f apart fresh handsOn again W args (.bool true) W' := by
 have hlt : ∀ x ∈ before,x.block < W.heap.size := fun x hx => by simpa using hW.lt x hx
 have hW0 := hW
 obtain ⟨p,q,h1,h2,rfl,hz,hn⟩ := hW
 have hq : q = [] ∧ gs = [] := by
  rw [hvars] at h2
  cases gs with
  | nil => exact ⟨h2,rfl⟩
  | cons _ _ => exact h2.elim
 obtain ⟨rfl,rfl⟩ := hq
 have hbool : ∀ (b : Nat) (sp : Nat → Bool) (hd : Bool),DataW.TrodAll enc P W' b sp hd f.resultTypes.toList ((Value.bool true).resultList f.resultTypes.size) [.lit (.bool true)] [] := fun b sp hd => by
  rw [hres]
  exact trodAll_cons_mk (shut_bool htb _) trodAll_mk0
 have hargs : ∀ sp : Nat → Bool,(∀ x ∈ p,sp x.block = true) → DataW.TrodAll enc P W' 0 sp true f.params.toList args.toList ds p := fun sp hsp =>
  trodAll_below hl hb hread h1 (fun x hx => hlt x (by simp [hx])) hsp
 have hv : ∀ sp : Nat → Bool,DataW.TrodVars enc P W' sp s.vars ([] : List (DataW H)) [] := fun sp => by rw [hvars]; rfl
 refine ⟨ds,[],p ++ [],[],p,[],hW0,?_,?_,?_,hb.frame _,fun _ => ⟨?_,[.lit (.bool true)] ++ ds,[],[] ++ p,⟨[] ++ p,[],?_,hv (fun _ => true),by simp,?_,?_⟩,?_⟩⟩
 ·rw [hspec]; exact hbool _ _ _
 ·rw [hspec]; exact hargs _ fun x hx => by simpa using hlt x (by simp [hx])
 ·rw [hspec]; exact hv _
 ·exact ok_one hres rfl (okWide_bool_mk htb _)
 ·exact trodAll_append (hargs (fun _ => true) fun _ _ => rfl) (hbool _ _ _)
 ·intro b off hp
  have hp' : MemPlace.cell b off ∈ p := by simpa using hp
  rw [hb.frozen (p := ⟨b,off,none⟩) (hlt (.cell b off) (by simp [hp']))]
  exact hz b off (by simpa using hp')
 ·intro ha
  have := hn ha
  simpa using this
 ·intro x hx _
  simpa using hx

/-! ### Reading arguments -/
variable {w : World} {sp : Nat → Bool} {hd : Bool}
/-- Memory that was there. -/
def Old (w : World) : Foot := fun b _ => b < w.heap.size
theorem cell_old {w : World} {a : Addr} {v : Value} (h : w.cell? a = some v) : a.block < w.heap.size := by
 unfold World.cell? at h
 cases hh : w.heap[a.block]? with
 | none => rw [hh] at h; cases h
 | some o => exact (Array.getElem?_eq_some_iff.1 hh).1

end
end Go.Di

