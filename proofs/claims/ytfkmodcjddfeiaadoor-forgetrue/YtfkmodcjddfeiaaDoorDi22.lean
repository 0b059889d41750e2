/- Part 22: contracts are proved. No condition. -/
import Derived.Test.YtfkmodcjddfeiaaDoorDi21
set_option linter.unusedVariables false
set_option linter.unusedSimpArgs false
namespace Go.Di
open Proofs
open Go.RowKit
theorem best_ok {x : FBook} (hx : FIn x) (th : List (List Int)) (wr : List Int) : PlanOk x (Yfq x th wr).1 := by
 have key : ∀ (l : List (List Work)) (o : List Work × Bool),PlanOk x o.1 → (∀ p ∈ l,PlanOk x p) → PlanOk x (l.foldl (Yb9 x) o).1 := by
  intro l
  induction l with
  | nil => exact fun o h _ => h
  | cons p l ih =>
   intro o ho hl
   refine ih _ ?_ (fun q hq => hl q (by simp [hq]))
   unfold Yb9
   split
   ·exact hl p (by simp)
   ·exact ho
 exact key _ _ ⟨by simp,fun w hw => by simp at hw⟩ (fun p hp => plans_ok hx hp)
def fPlanF (x : FBook) : List Work × Int := if Yc7 x true = 0 then (match Yfq x (Yax x) (Yaw x) with
 | (p,true) => (p,0)
 | (_,false) => ([],4)) else ([],Yc7 x true)
theorem nil_workI {R : Foot} {w : World} {v : Value} {l : List Work} {e : Int} (h : Rel R w (.tup [.sl true .work l,.int .i64 e]) v) : Rel R w (.tup [.sl false .work l,.int .i64 e]) v := by
 obtain ⟨vs,rfl,h⟩ := h
 obtain ⟨v0,l',e',h0,h⟩ := Yal h
 refine ⟨vs,rfl,?_⟩
 rw [e']
 exact ⟨sl_weak h0,h⟩
theorem fPlan_con {x : FBook} (hs : FSmall x) : CF 77 [Yab x] (.tup [.sl false .work (fPlanF x).1,.int .i64 (fPlanF x).2]) := by
 have ha := Ygr hs 138 [] [] true (fun hV => falways_con x)
 unfold fPlanF
 by_cases he : Yc7 x true = 0
 ·obtain ⟨hV,h1,h2,h3⟩ := ferr_ok he
  rw [if_pos he]
  rw [h3,he] at ha
  have hb := best_con hV.inn (.work (Ya6 x)) (know_ok hV h2)
  cases hbf : Yfq x (Yax x) (Yaw x) with
  | mk p f =>
   rw [hbf] at hb
   cases f with
   | false => exact (Yaa (GF 29) fPlan_fn (fPlan_none x _ _ _ p) ⟨ha,hb,trivial⟩).toRes fun R w v h => nil_workI h
   | true =>
    have e : (List.drop 0 (List.take (Int.toNat (List.length p : Int)) p) : List Work) = p := by rw [Int.toNat_natCast,List.take_length]; rfl
    exact (Yaa (GF 29) fPlan_fn (fPlan_some x _ _ _ p) ⟨ha,hb,⟨by omega,by omega,by omega,rfl⟩,trivial⟩).toRes fun R w v h => by
     have h' : Rel R w (.tup [.sl true .work (List.drop 0 (List.take (Int.toNat (List.length p : Int)) p) : List Work),.int .i64 0]) v := h
     rw [e] at h'
     exact nil_workI h'
 ·obtain ⟨h1,h2⟩ := ferr_bad he
  rw [if_neg he]
  rcases h1 with h1 | h1
  ·rw [h1] at ha
   exact (Yaa (GF 29) fPlan_fn (fPlan_errz x _) ⟨ha,h2,trivial⟩).toRes fun R w v h => nil_workI h
  ·rw [h1] at ha
   exact (Yaa (GF 29) fPlan_fn (fPlan_erro x _ _) ⟨ha,h2,trivial⟩).toRes fun R w v h => nil_workI h
def fStockF (x : FBook) : Int × Int := if Yc7 x true = 0 then (if stockF x (Yax x) (Yaw x) > 200 then (0,4) else (stockF x (Yax x) (Yaw x),0)) else (0,Yc7 x true)
theorem stock_main {x : FBook} (hx : FIn x) (m : Mp) {th : List (List Int)} {wr : List Int} (hk : KnOk x th wr) (ha : CF 137 [Yab x,.fn 138 [] []] (.tup [fbkD x m th wr,.int .i64 0])) :
  CF 89 [Yab x] (if stockF x th wr > 200 then .tup [.int .i64 0,.int .i64 4] else .tup [.int .i64 (stockF x th wr),.int .i64 0]) := by
 have hcode : body Tryd.f89 = .seq (k_89 [0]) (.seq (k_89 [1,0]) (.seq (k_89 [1,1,0]) (.seq (k_89 [1,1,1,0]) (.seq (.seq (k_89 [1,1,1,1,0,0]) (.block 0 (.rangeFunc (.tmp 17) #[18] (k_89 [1,1,1,1,0,1,0,0]) (k_89 [1,1,1,1,0,1,0,1])))) (k_89 [1,1,1,1,1]))))) := by kernel_rfl
 have hgoal : ∀ (r : D),(∀ (ke : Nat → Prop) (w1 : World) (ds : List Deferred),WpL PRG (mkE PRG (Yad Yba) Ybx 27 ke w1 ds) (k_89 [1,1,1,1,1]) (skS x m th wr (stockF x th wr)) (fun e L' => e = .ret ∧ ∃ ps,fin (mkE PRG (Yad Yba) Ybx 27 ke w1 ds) [.tmp 2,.tmp 3] (ofL L') = some (ps,r) ∧ allP ps)) →
   CF 89 [Yab x] r := by
  intro r hend
  refine Yea Yan sk_fn ?_
  intro w0 R0 a Q hH hQ
  rw [hcode]
  refine wpIn_seq (WpL.path (GF 27) (sk_0 x) trivial (Post := fun e L' => e = .normal ∧ L' = skA x) ⟨rfl,rfl⟩ w0 R0 a w0 _ none 1 (fun _ => rfl) hH fun e L' a1 W1 hp hH1 => ?_)
  obtain ⟨rfl,rfl⟩ := hp
  show Code.wpIn _ _ _ _ _ _ _
  refine wpIn_seq (WpL.path (GF 27) (sk_1 x m th wr) ⟨ha,trivial⟩ (Post := fun e L' => e = .normal ∧ L' = skB x m th wr) ⟨rfl,rfl⟩ w0 R0 a1 W1 _ none 1 (fun _ => rfl) hH1 fun e L' a2 W2 hp hH2 => ?_)
  obtain ⟨rfl,rfl⟩ := hp
  show Code.wpIn _ _ _ _ _ _ _
  refine wpIn_seq (WpL.path (GF 27) (sk_2 x m th wr) trivial (Post := fun e L' => e = .normal ∧ L' = [(.tmp 4,.d (.ptr 4 0)),(.box 4,.bx (some ⟨false,cellsOf (fbkD x m th wr)⟩))]) ⟨rfl,rfl⟩ w0 R0 a2 W2 _ none 1 (fun _ => rfl) hH2 fun e L' a3 W3 hp hH3 => ?_)
  obtain ⟨rfl,rfl⟩ := hp
  show Code.wpIn _ _ _ _ _ _ _
  refine wpIn_seq (WpL.path (GF 27) (sk_3 x m th wr) trivial (Post := fun e L' => e = .normal ∧ L' = skS x m th wr 201) ⟨rfl,rfl⟩ w0 R0 a3 W3 _ none 1 (fun _ => rfl) hH3 fun e L' a4 W4 hp hH4 => ?_)
  obtain ⟨rfl,rfl⟩ := hp
  show Code.wpIn _ _ _ _ _ _ _
  refine wpIn_seq (wpIn_seq (WpL.path (GF 27) (sk_4 x m th wr) ⟨plans_con x m th wr,trivial⟩ (Post := fun e L' => e = .normal ∧ L' = (.tmp 17,.d (plW x m th wr)) :: skS x m th wr 201) ⟨rfl,rfl⟩ w0 R0 a4 W4 _ none 1 (fun _ => rfl) hH4 fun e L' a5 W5 hp hH5 => ?_))
  obtain ⟨rfl,rfl⟩ := hp
  show Code.wpIn _ _ _ _ _ _ _
  refine range_frame (tt := Yad Yba) (glob := Ybx) (n := 27) (gf := 179) (caps := [cellsOf (fbkD x m th wr)]) (Told := ToldP) (xs := Ygi x th wr) (S := fun pre => skS x m th wr (stockOf x pre)) (S1 := fun pre p => skS1 x m th wr (stockOf x pre) p) (fx := [4,6]) (dx := fun p => .sl false .work p) (L := (.tmp 17,.d (plW x m th wr)) :: skS x m th wr 201) (ks := skK)
   ?_ ⟨Tryd.f179,by kernel_rfl,by kernel_rfl,by kernel_rfl⟩ ?_ (by decide) (by decide) ?_ ?_ ?_ ?_ rfl (by kernel_rfl) (by kernel_rfl) (fun k => by rfl) ?_ hH5 ?_
  ·exact fun KE R w lb h1 h2 h3 h4 => seq_plans hx hk m KE R w lb h1 h2 h3 h4
  ·exact fun R T p vs W h => hv_told h
  ·intro pre i hi
   exact tmpIn_ok (fx := [4,6]) (by kernel_rfl) i hi
  ·intro pre i
   rfl
  ·rintro pre p ke no w1 fv _
   exact WpL.path (goodR Yaj Yan) (sk_as x m th wr _ p ke no w1 fv) trivial ⟨rfl,rfl⟩
  ·rintro pre p ke no w1 fv hsp
   obtain ⟨hm,hpre⟩ := mem_of_split hsp
   have hp := plans_ok hx hm
   have hg := needs_con hx m th wr hp
   have e1 : stockOf x (pre ++ [p]) = mn (stockOf x pre) (Yfy x p) := by unfold stockOf; rw [List.foldl_append]; rfl
   show WpL _ _ _ _ (fun e L' => e = .normal ∧ L' = skS x m th wr (stockOf x (pre ++ [p])))
   rw [e1]
   exact WpL.path (goodR Yaj Yan) (sk_bd x m th wr _ p _ ke no w1 fv) ⟨by omega,hg,trivial⟩ ⟨rfl,rfl⟩
  ·exact Yfj (by kernel_rfl)
  ·intro D a6 W6 hD hH6 hWD
   show Code.wpIn _ _ _ _ _ _ _
   refine hend _ _ _ w0 R0 a6 W6 _ none 1 (fun _ => rfl) hH6 fun e L' a7 W7 hp hH7 => ?_
   obtain ⟨rfl,hfin⟩ := hp
   exact hQ D a7 W7 W6 _ L' hD hH7 hWD hfin (.inr rfl)
 by_cases h : stockF x th wr > 200
 ·rw [if_pos h]
  exact hgoal _ fun ke w1 ds => WpL.path (goodE Yaj Yan) (sk_no x m th wr _ ke w1 ds) ⟨by omega,decide_eq_true h,trivial⟩ ⟨rfl,[],by kernel_rfl,trivial⟩
 ·rw [if_neg h]
  exact hgoal _ fun ke w1 ds => WpL.path (goodE Yaj Yan) (sk_yes x m th wr _ ke w1 ds) ⟨by omega,decide_eq_false h,by omega,trivial⟩ ⟨rfl,[],by kernel_rfl,trivial⟩
theorem fStock_con {x : FBook} (hs : FSmall x) : CF 89 [Yab x] (.tup [.int .i64 (fStockF x).1,.int .i64 (fStockF x).2]) := by
 have ha := Ygr hs 138 [] [] true (fun hV => falways_con x)
 unfold fStockF
 by_cases he : Yc7 x true = 0
 ·obtain ⟨hV,h1,h2,h3⟩ := ferr_ok he
  rw [if_pos he]
  rw [h3,he] at ha
  have := stock_main hV.inn (.work (Ya6 x)) (know_ok hV h2) ha
  by_cases h : stockF x (Yax x) (Yaw x) > 200
  ·rw [if_pos h] at this ⊢; exact this
  ·rw [if_neg h] at this ⊢; exact this
 ·obtain ⟨h1,h2⟩ := ferr_bad he
  rw [if_neg he]
  rcases h1 with h1 | h1
  ·rw [h1] at ha
   exact Yaa (GF 27) fStock_fn (fStock_errz x _) ⟨ha,h2,trivial⟩
  ·rw [h1] at ha
   exact Yaa (GF 27) fStock_fn (fStock_erro x _ _) ⟨ha,h2,trivial⟩
def FBook.rest (x : FBook) (d : Int) : FBook := x.withOpn (insL x.opn (x.opn.countP (· < d)) d)
def restStep (x : FBook) (th : List (List Int)) (wr : List Int) (o : Int × Int × Bool) (d : Nat) : Int × Int × Bool :=
 if x.opn.contains (d : Int) = true then o else match Yfq (x.rest d) th wr with
  | (_,false) => o
  | (p,true) => if o.2.2 = false ∨ Ycp x p < o.2.1 then ((d : Int),Ycp x p,true) else o
def Yft (x : FBook) (th : List (List Int)) (wr : List Int) : Nat → Int × Int × Bool
 | 0 => (-1,Ycp x (Yfq x th wr).1,(Yfq x th wr).2)
 | d + 1 => restStep x th wr (Yft x th wr d) d
def fRestF (x : FBook) : Int × Int := if Yc7 x true = 0 then (if (Yft x (Yax x) (Yaw x) (x.chain.days + 1).toNat).1 < 0 then (0,4) else ((Yft x (Yax x) (Yaw x) (x.chain.days + 1).toNat).1,0)) else (0,Yc7 x true)
theorem rest_in {x : FBook} (hV : FValid x) {d : Int} (hd : 0 ≤ d ∧ d ≤ x.chain.days) : FIn (x.rest d) := by
 have h := hV.inn
 have hl := hV.opnl
 have hc : x.opn.countP (· < d) ≤ x.opn.length := List.countP_le_length
 refine ⟨h.n,h.days,h.turns,h.feet,h.new,?_,fun e he => ?_,h.stock,h.make⟩
 ·show (insL x.opn _ d).length ≤ 5
  rw [insL_length d hc]
  omega
 ·have he' : e ∈ insL x.opn (x.opn.countP (· < d)) d := he
  unfold insL at he'
  rcases List.mem_append.1 he' with h1 | h1
  ·exact h.opn _ (List.mem_of_mem_take h1)
  ·rcases List.mem_cons.1 h1 with h1 | h1
   ·have := h.days; omega
   ·exact h.opn _ (List.mem_of_mem_drop h1)
def rS (x : FBook) (m : Mp) (th : List (List Int)) (wr : List Int) : Int × Int × Bool → Nat → List (Key × Val)
 | (k,v,false),i => Ych x m th wr k v i
 | (k,v,true),i => Ybg x m th wr k v i
theorem rest_loop {x : FBook} (hV : FValid x) {th : List (List Int)} {wr : List Int} (hk : KnOk x th wr) (m : Mp) :
  LF 82 (k_92 [1,1,1,1,1,0,1]) (rS x m th wr (Yft x th wr 0) 0) .normal (rS x m th wr (Yft x th wr (x.chain.days + 1).toNat) (x.chain.days + 1).toNat) := by
 have hd := hV.inn.days
 have hx := hV.inn
 refine LF.each (id := 0) (c := k_92 [1,1,1,1,1,0,1,0,0]) (by kernel_rfl) (x.chain.days + 1).toNat (fun i => rS x m th wr (Yft x th wr i) i) (fun i hi => ?_) ?_
 ·have hlt : decide ((i : Int) < x.chain.days + 1) = true := decide_eq_true (by omega)
  have hi64 : Yac ((i : Int) + 1) := Yah (by omega) (by omega)
  have hbs := bs_con (l := x.opn) (by have := hx.opnl; omega) hV.opn.2 (i : Int)
  have hstep : Yft x th wr (i + 1) = restStep x th wr (Yft x th wr i) i := rfl
  simp only [hstep]
  generalize Yft x th wr i = o
  obtain ⟨k,v,f⟩ := o
  unfold restStep
  cases hc : x.opn.contains (i : Int) with
  | true =>
   rw [hc] at hbs
   rw [if_pos rfl]
   cases f with
   | false => exact ⟨_,_,_,_,_,_,restA_0_skip x m th wr k v i _,⟨hlt,hbs,hi64,trivial⟩,rfl⟩
   | true => exact ⟨_,_,_,_,_,_,restB_0_skip x m th wr k v i _,⟨hlt,hbs,hi64,trivial⟩,rfl⟩
  | false =>
   rw [hc] at hbs
   rw [if_neg (by decide)]
   have hxr := rest_in hV (d := (i : Int)) (by omega)
   have hkr : KnOk (x.rest i) th wr := ⟨hk.wl,hk.w,hk.tl,hk.row,hk.t⟩
   have hb := best_con hxr m hkr
   have hins := fun b => ins_lf (x := x) (by have := hx.opnl; omega) m th wr b k v i (x.opn.countP (· < (i : Int))) List.countP_le_length
   have hok := best_ok hxr th wr
   cases hbf : Yfq (x.rest i) th wr with
   | mk q g =>
    rw [hbf] at hb hok
    have hf := feet_con hx m th wr (plan := q) ⟨hok.1,fun w hw => ⟨(hok.2 w hw).s,(hok.2 w hw).d⟩⟩
    cases g with
    | false =>
     cases f with
     | false => exact ⟨_,_,_,_,_,_,restA_0_no x m th wr k v i _ _ q,⟨hlt,hbs,hins false,hb,hi64,trivial⟩,rfl⟩
     | true => exact ⟨_,_,_,_,_,_,restB_0_no x m th wr k v i _ _ q,⟨hlt,hbs,hins true,hb,hi64,trivial⟩,rfl⟩
    | true =>
     cases f with
     | false => exact ⟨_,_,_,_,_,_,restA_0_first x m th wr k v i _ _ q _,⟨hlt,hbs,hins false,hb,hf,hi64,trivial⟩,by dsimp only; rw [if_pos (.inl rfl)]; rfl⟩
     | true =>
      by_cases hlt2 : Ycp x q < v
      ·exact ⟨_,_,_,_,_,_,restB_0_better x m th wr k v i _ _ q _,⟨hlt,hbs,hins true,hb,hf,decide_eq_true hlt2,hf,hi64,trivial⟩,by dsimp only; rw [if_pos (.inr hlt2)]; rfl⟩
      ·exact ⟨_,_,_,_,_,_,restB_0_worse x m th wr k v i _ _ q _,⟨hlt,hbs,hins true,hb,hf,decide_eq_false hlt2,hi64,trivial⟩,by dsimp only; rw [if_neg (by simp [hlt2])]; rfl⟩
 ·have hend : decide ((((x.chain.days + 1).toNat : Nat) : Int) < x.chain.days + 1) = false := decide_eq_false (by omega)
  generalize Yft x th wr (x.chain.days + 1).toNat = o
  obtain ⟨k,v,f⟩ := o
  cases f with
  | false => exact ⟨_,_,_,_,_,_,_,restA_0_end x m th wr k v _,⟨hend,trivial⟩,.inl ⟨rfl,rfl⟩,rfl⟩
  | true => exact ⟨_,_,_,_,_,_,_,restB_0_end x m th wr k v _,⟨hend,trivial⟩,.inl ⟨rfl,rfl⟩,rfl⟩
theorem restStep_f {x : FBook} {th : List (List Int)} {wr : List Int} (o : Int × Int × Bool) (d : Nat) (h : o.2.2 = true) : (restStep x th wr o d).2.2 = true := by
 unfold restStep
 split
 ·exact h
 ·split
  ·exact h
  ·split
   ·rfl
   ·exact h
theorem restTo_f {x : FBook} {th : List (List Int)} {wr : List Int} (h : (Yfq x th wr).2 = true) : ∀ d,(Yft x th wr d).2.2 = true
 | 0 => h
 | d + 1 => restStep_f _ _ (restTo_f h d)
theorem fRest_con {x : FBook} (hs : FSmall x) : CF 92 [Yab x] (.tup [.int .i64 (fRestF x).1,.int .i64 (fRestF x).2]) := by
 have ha := Ygr hs 138 [] [] true (fun hV => falways_con x)
 unfold fRestF
 by_cases he : Yc7 x true = 0
 ·obtain ⟨hV,h1,h2,h3⟩ := ferr_ok he
  rw [if_pos he]
  rw [h3,he] at ha
  have hk := know_ok hV h2
  have hb := best_con hV.inn (.work (Ya6 x)) hk
  have hf := feet_con hV.inn (.work (Ya6 x)) (Yax x) (Yaw x) (best_ok hV.inn (Yax x) (Yaw x))
  have hl := rest_loop hV hk (.work (Ya6 x))
  have hd := hV.inn.days
  have hi64 : Yac (x.chain.days + 1) := Yah (by omega) (by omega)
  have hmono := restTo_f (x := x) (th := Yax x) (wr := Yaw x)
  have e0 : Yft x (Yax x) (Yaw x) 0 = (-1,Ycp x (Yfq x (Yax x) (Yaw x)).1,(Yfq x (Yax x) (Yaw x)).2) := rfl
  rw [e0] at hl
  generalize hbf : Yfq x (Yax x) (Yaw x) = bp at hb hf hl hmono
  obtain ⟨p,f⟩ := bp
  have hmono' := fun h => hmono h (x.chain.days + 1).toNat
  clear hmono
  generalize Yft x (Yax x) (Yaw x) (x.chain.days + 1).toNat = o at hl hmono' ⊢
  obtain ⟨k,y,g⟩ := o
  dsimp only at *
  by_cases hk0 : k < 0
  ·rw [if_pos hk0]
   cases f with
   | false =>
    cases g with
    | false => exact Yaa (GF 82) restA_fn (restA_Anone x _ _ _ p _ k y _) ⟨ha,hb,hf,hi64,hl,decide_eq_true hk0,trivial⟩
    | true => exact Yaa (GF 82) restA_fn (restA_Bnone x _ _ _ p _ k y _) ⟨ha,hb,hf,hi64,hl,decide_eq_true hk0,trivial⟩
   | true =>
    obtain rfl : g = true := hmono' rfl
    exact Yaa (GF 82) restB_fn (restB_Bnone x _ _ _ p _ k y _) ⟨ha,hb,hf,hi64,hl,decide_eq_true hk0,trivial⟩
  ·rw [if_neg hk0]
   cases f with
   | false =>
    cases g with
    | false => exact Yaa (GF 82) restA_fn (restA_Asome x _ _ _ p _ k y _) ⟨ha,hb,hf,hi64,hl,decide_eq_false hk0,trivial⟩
    | true => exact Yaa (GF 82) restA_fn (restA_Bsome x _ _ _ p _ k y _) ⟨ha,hb,hf,hi64,hl,decide_eq_false hk0,trivial⟩
   | true =>
    obtain rfl : g = true := hmono' rfl
    exact Yaa (GF 82) restB_fn (restB_Bsome x _ _ _ p _ k y _) ⟨ha,hb,hf,hi64,hl,decide_eq_false hk0,trivial⟩
 ·obtain ⟨h1,h2⟩ := ferr_bad he
  rw [if_neg he]
  rcases h1 with h1 | h1
  ·rw [h1] at ha
   exact Yaa (GF 82) restA_fn (restA_errz x _) ⟨ha,h2,trivial⟩
  ·rw [h1] at ha
   exact Yaa (GF 82) restA_fn (restA_erro x _ _) ⟨ha,h2,trivial⟩
end Go.Di

namespace Go.Di
open Proofs
def linksB (svs : List Sv) : Book := { secs := [⟨⟨40,42⟩,⟨1,2⟩⟩,⟨⟨38,39⟩,⟨0,1⟩⟩],turns := [6],svs := svs,rule := 30,days := 12 }
def Yap (n : Int) : FBook := { chain := linksB [],feet := [9,6],new := 40,opn := [3,5,9],stock := n,make := 1 }
def tornX : FBook := { Yap 12 with chain := linksB [⟨0,6,34,1⟩,⟨0,6,40,1⟩] }
def threeW : List Work := [⟨3,1⟩,⟨5,0⟩,⟨9,1⟩]
end Go.Di

namespace Go.Di
open Proofs
noncomputable abbrev k_136 (p : List Nat) : Code := Code.at p (body Proofs.Tryd.f136)
theorem links_fn : FnOk PRG (MF 13) 153 (body Tryd.f153) [.cell 2 26] := by refine ⟨Tryd.f153,?_,?_,?_,?_,?_⟩ <;> kernel_rfl
theorem fbookB_fn : FnOk PRG (MF 8) 95 (body Tryd.f95) [.cell 2 84] := by refine ⟨Tryd.f95,?_,?_,?_,?_,?_⟩ <;> kernel_rfl
theorem fown_fn : FnOk PRG (MF 2) 94 (body Tryd.f94) [.cell 0 84] := by refine ⟨Tryd.f94,?_,?_,?_,?_,?_⟩ <;> kernel_rfl
theorem fpoor_fn : FnOk PRG (MF 2) 100 (body Tryd.f100) [.cell 0 84] := by refine ⟨Tryd.f100,?_,?_,?_,?_,?_⟩ <;> kernel_rfl
theorem fwork_fn : FnOk PRG (MF 8) 97 (body Tryd.f97) [.cell 4 108] := by refine ⟨Tryd.f97,?_,?_,?_,?_,?_⟩ <;> kernel_rfl
theorem fthree_fn : FnOk PRG (MF 5) 96 (body Tryd.f96) [.tmp 0] := by refine ⟨Tryd.f96,?_,?_,?_,?_,?_⟩ <;> kernel_rfl
theorem ftorn_fn : FnOk PRG (MF 9) 99 (body Tryd.f99) [.cell 0 84] := by refine ⟨Tryd.f99,?_,?_,?_,?_,?_⟩ <;> kernel_rfl
theorem same_fn : FnOk PRG (MF 26) 136 (body Tryd.f136) [.tmp 4] := by refine ⟨Tryd.f136,?_,?_,?_,?_,?_⟩ <;> kernel_rfl
theorem riv_fn : FnOk PRG (MF 136) 73 (body Tryd.f73) [.tmp 0] := by refine ⟨Tryd.f73,?_,?_,?_,?_,?_⟩ <;> kernel_rfl
def Yd3 (p q : List Work) (i : Nat) : List (Key × Val) :=
 [(.tmp 0,.d (D.sl false E.work p)),
  (.tmp 1,.d (D.sl false E.work q)),
  (.tmp 5,.d (.I i))]
def same_K0 : List Key := [.tmp 0,.tmp 1,.tmp 5]
def same_T0_diff (p q : List Work) (i : Nat)  : List (Key × Val) :=
 [(.tmp 0,.d (D.sl false E.work p)),(.tmp 1,.d (D.sl false E.work q)),(.tmp 5,.d (D.I (i : Int))),(.tmp 4,.d (D.bool false))]
theorem same_0_on (p q : List Work) (i : Nat) :
  runK (MF 26) [(14,true),(25,false)] [] [] (k_136 [1,1,0,1,0,0]) (Yd3 p q i) same_K0 =
   some ([decide ((i : Int) < (p.length : Int)) = true,(0 : Int) ≤ (i : Int) ∧ (i : Int) < (p.length : Int),0 + 2 ≤ 2,(0 : Int) ≤ (i : Int) ∧ (i : Int) < (q.length : Int),0 + 2 ≤ 2,(!eqI [Work.d (List.getD p (i) work0),Work.s (List.getD p (i) work0)] [Work.d (List.getD q (i) work0),Work.s (List.getD q (i) work0)]) = false,Yac ((i : Int) + (1 : Int))],Ex.normal,Yd3 p q (i + 1)) := by kernel_rfl
theorem same_0_diff (p q : List Work) (i : Nat) :
  runK (MF 26) [(14,true),(25,true)] [] [] (k_136 [1,1,0,1,0,0]) (Yd3 p q i) [.tmp 0,.tmp 1,.tmp 5,.tmp 4] =
   some ([decide ((i : Int) < (p.length : Int)) = true,(0 : Int) ≤ (i : Int) ∧ (i : Int) < (p.length : Int),0 + 2 ≤ 2,(0 : Int) ≤ (i : Int) ∧ (i : Int) < (q.length : Int),0 + 2 ≤ 2,(!eqI [Work.d (List.getD p (i) work0),Work.s (List.getD p (i) work0)] [Work.d (List.getD q (i) work0),Work.s (List.getD q (i) work0)]) = true],Ex.ret,same_T0_diff p q i ) := by kernel_rfl
theorem same_0_end (p q : List Work) (i : Nat) :
  runK (MF 26) [(14,false)] [] [] (k_136 [1,1,0,1,0,0]) (Yd3 p q i) same_K0 =
   some ([decide ((i : Int) < (p.length : Int)) = false],Ex.exit 0,Yd3 p q i) := by kernel_rfl
theorem links_all (svs : List Sv) :
  Yag (MF 13) [] [(3,spD ⟨40,42⟩),(4,spD ⟨1,2⟩),(6,spD ⟨38,39⟩),(7,spD ⟨0,1⟩)] [] (body Tryd.f153) [.cell 2 26] [.sl false .sv svs] =
   let Z0 := Span.mk (40 : Int) (42 : Int); let Z1 := Span.mk (38 : Int) (39 : Int); let Z2 := Span.mk (1 : Int) (2 : Int); let Z3 := Span.mk (0 : Int) (1 : Int); some ([CF 61 [D.I 40,D.I 42] (D.agg [D.I (Span.lo Z0),D.I (Span.hi Z0)]),CF 61 [D.I 1,D.I 2] (D.agg [D.I (Span.lo Z2),D.I (Span.hi Z2)]),CF 61 [D.I 38,D.I 39] (D.agg [D.I (Span.lo Z1),D.I (Span.hi Z1)]),CF 61 [D.I 0,D.I 1] (D.agg [D.I (Span.lo Z3),D.I (Span.hi Z3)])],D.agg [D.sl true E.sec [Sec.mk (Span.mk (Span.lo Z0) (Span.hi Z0)) (Span.mk (Span.lo Z2) (Span.hi Z2)),Sec.mk (Span.mk (Span.lo Z1) (Span.hi Z1)) (Span.mk (Span.lo Z3) (Span.hi Z3))],D.sl true E.int [(6 : Int)],D.sl false E.sv svs,D.I 30,D.I 12]) := by kernel_rfl
theorem fbookB_all (n : Int) :
  Yag (MF 8) [] [(3,Ybc (linksB []))] [] (body Tryd.f95) [.cell 2 84] [.I n] =
   some ([CF 153 [D.sl false E.sv []] (D.agg (Yai (linksB [])))],D.agg [D.sl false E.sec (Book.secs (linksB [])),D.sl false E.int (Book.turns (linksB [])),D.sl false E.sv (Book.svs (linksB [])),D.I (Book.rule (linksB [])),D.I (Book.days (linksB [])),D.sl true E.int [(9 : Int),(6 : Int)],D.I 40,D.sl true E.int [(3 : Int),(5 : Int),(9 : Int)],D.I n,D.I 1]) := by kernel_rfl
theorem fown_all  :
  Yag (MF 2) [] [(1,Yab (Yap 12))] [] (body Tryd.f94) [.cell 0 84] [] =
   let Z0 := FBook.chain (Yap (12 : Int)); let Z1 := FBook.stock (Yap (12 : Int)); let Z2 := FBook.feet (Yap (12 : Int)); let Z3 := FBook.make (Yap (12 : Int)); let Z4 := FBook.new (Yap (12 : Int)); let Z5 := FBook.opn (Yap (12 : Int)); some ([CF 95 [D.I 12] (D.agg [D.sl false E.sec (Book.secs Z0),D.sl false E.int (Book.turns Z0),D.sl false E.sv (Book.svs Z0),D.I (Book.rule Z0),D.I (Book.days Z0),D.sl false E.int Z2,D.I Z4,D.sl false E.int Z5,D.I Z1,D.I Z3])],D.agg [D.sl false E.sec (Book.secs Z0),D.sl false E.int (Book.turns Z0),D.sl false E.sv (Book.svs Z0),D.I (Book.rule Z0),D.I (Book.days Z0),D.sl false E.int Z2,D.I Z4,D.sl false E.int Z5,D.I Z1,D.I Z3]) := by kernel_rfl
theorem fpoor_all  :
  Yag (MF 2) [] [(1,Yab (Yap 11))] [] (body Tryd.f100) [.cell 0 84] [] =
   let Z0 := FBook.chain (Yap (11 : Int)); let Z1 := FBook.stock (Yap (11 : Int)); let Z2 := FBook.feet (Yap (11 : Int)); let Z3 := FBook.make (Yap (11 : Int)); let Z4 := FBook.new (Yap (11 : Int)); let Z5 := FBook.opn (Yap (11 : Int)); some ([CF 95 [D.I 11] (D.agg [D.sl false E.sec (Book.secs Z0),D.sl false E.int (Book.turns Z0),D.sl false E.sv (Book.svs Z0),D.I (Book.rule Z0),D.I (Book.days Z0),D.sl false E.int Z2,D.I Z4,D.sl false E.int Z5,D.I Z1,D.I Z3])],D.agg [D.sl false E.sec (Book.secs Z0),D.sl false E.int (Book.turns Z0),D.sl false E.sv (Book.svs Z0),D.I (Book.rule Z0),D.I (Book.days Z0),D.sl false E.int Z2,D.I Z4,D.sl false E.int Z5,D.I Z1,D.I Z3]) := by kernel_rfl
theorem fwork_all (d s : Int) :
  Yag (MF 8) [] [] [] (body Tryd.f97) [.cell 4 108] [.I d,.I s] =
   some ([0 + 2 ≤ 2],D.agg [D.I d,D.I s]) := by kernel_rfl
theorem fthree_all  :
  Yag (MF 5) [] [(1,wkD ⟨3,1⟩),(2,wkD ⟨5,0⟩),(3,wkD ⟨9,1⟩)] [] (body Tryd.f96) [.tmp 0] [] =
   let Z0 := Work.mk (3 : Int) (1 : Int); let Z1 := Work.mk (5 : Int) (0 : Int); let Z2 := Work.mk (9 : Int) (1 : Int); some ([CF 97 [D.I 3,D.I 1] (D.agg [D.I (Work.d Z0),D.I (Work.s Z0)]),CF 97 [D.I 5,D.I 0] (D.agg [D.I (Work.d Z1),D.I (Work.s Z1)]),CF 97 [D.I 9,D.I 1] (D.agg [D.I (Work.d Z2),D.I (Work.s Z2)])],D.sl true E.work [Work.mk (Work.d Z0) (Work.s Z0),Work.mk (Work.d Z1) (Work.s Z1),Work.mk (Work.d Z2) (Work.s Z2)]) := by kernel_rfl
theorem ftorn_all  :
  Yag (MF 9) [] [(2,Yab (Yap 12)),(6,Ybc (linksB [⟨0,6,34,1⟩,⟨0,6,40,1⟩]))] [] (body Tryd.f99) [.cell 0 84] [] =
   let Z0 := FBook.chain (Yap (12 : Int)); let Z1 := FBook.stock (Yap (12 : Int)); let Z2 := FBook.feet (Yap (12 : Int)); let Z3 := FBook.make (Yap (12 : Int)); let Z4 := FBook.new (Yap (12 : Int)); let Z5 := FBook.opn (Yap (12 : Int)); some ([CF 94 [] (D.agg [D.sl false E.sec (Book.secs Z0),D.sl false E.int (Book.turns Z0),D.sl false E.sv (Book.svs Z0),D.I (Book.rule Z0),D.I (Book.days Z0),D.sl false E.int Z2,D.I Z4,D.sl false E.int Z5,D.I Z1,D.I Z3]),CF 153 [D.sl false E.sv [Sv.mk (0 : Int) (6 : Int) (34 : Int) (1 : Int),Sv.mk (0 : Int) (6 : Int) (40 : Int) (1 : Int)]] (D.agg (Yai (linksB [Sv.mk (0 : Int) (6 : Int) (34 : Int) (1 : Int),Sv.mk (0 : Int) (6 : Int) (40 : Int) (1 : Int)])))],D.agg [D.sl false E.sec (Book.secs (linksB [Sv.mk (0 : Int) (6 : Int) (34 : Int) (1 : Int),Sv.mk (0 : Int) (6 : Int) (40 : Int) (1 : Int)])),D.sl false E.int (Book.turns (linksB [Sv.mk (0 : Int) (6 : Int) (34 : Int) (1 : Int),Sv.mk (0 : Int) (6 : Int) (40 : Int) (1 : Int)])),D.sl false E.sv (Book.svs (linksB [Sv.mk (0 : Int) (6 : Int) (34 : Int) (1 : Int),Sv.mk (0 : Int) (6 : Int) (40 : Int) (1 : Int)])),D.I (Book.rule (linksB [Sv.mk (0 : Int) (6 : Int) (34 : Int) (1 : Int),Sv.mk (0 : Int) (6 : Int) (40 : Int) (1 : Int)])),D.I (Book.days (linksB [Sv.mk (0 : Int) (6 : Int) (34 : Int) (1 : Int),Sv.mk (0 : Int) (6 : Int) (40 : Int) (1 : Int)])),D.sl false E.int Z2,D.I Z4,D.sl false E.int Z5,D.I Z1,D.I Z3]) := by kernel_rfl
theorem same_len (p q : List Work) :
  Yag (MF 26) [(10,true)] [] [] (body Tryd.f136) [.tmp 4] [.sl false .work p,.sl false .work q] =
   some ([((p.length : Int) != (q.length : Int)) = true],D.bool false) := by kernel_rfl
theorem same_diff (p q : List Work) (i : Nat) :
  Yag (MF 26) [(10,false)] [] [(0,(same_K0,(.ret,same_T0_diff p q i)))] (body Tryd.f136) [.tmp 4] [.sl false .work p,.sl false .work q] =
   some ([((p.length : Int) != (q.length : Int)) = false,LF 26 (k_136 [1,1,0,1]) (Yd3 p q 0) Ex.ret (same_T0_diff p q i)],D.bool false) := by kernel_rfl
theorem same_all (p q : List Work) (i : Nat) :
  Yag (MF 26) [(10,false)] [] [(0,(same_K0,(.normal,Yd3 p q i)))] (body Tryd.f136) [.tmp 4] [.sl false .work p,.sl false .work q] =
   some ([((p.length : Int) != (q.length : Int)) = false,LF 26 (k_136 [1,1,0,1]) (Yd3 p q 0) Ex.normal (Yd3 p q i)],D.bool true) := by kernel_rfl
theorem riv_all  :
  Yag (MF 136) [] [(16,Yab (Yap 12)),(17,.sl false .work threeW),(18,.tup [.I 32,.I 0]),(22,Yab (Yap 12)),(23,.sl false .work threeW),(24,.tup [.bool true,.I 0]),(28,Yab (Yap 12)),(29,wkD ⟨5,0⟩),(31,.tup [.I 8,.I 1,.I 0]),(36,Yab tornX),(37,.sl false .work threeW),(38,.tup [.I 21,.I 0]),(42,Yab (Yap 11)),(43,.sl false .work threeW),(44,.tup [.I 2,.I 0]),(90,Yab (Yap 12)),(91,.tup [.sl false .work threeW,.I 0]),(95,Yab (Yap 11)),(96,.tup [.I 12,.I 0]),(100,Yab (Yap 12)),(101,.tup [.I 7,.I 0]),(105,Yab tornX),(106,.tup [.sl false .work ([] : List Work),.I 72]),(125,.sl false .work threeW),(126,.bool true)] [] (body Tryd.f73) [.tmp 0] [] =
   let Z0 : Prop := CF 94 [] (D.agg [D.sl false E.sec (Book.secs (FBook.chain (Yap (12 : Int)))),D.sl false E.int (Book.turns (FBook.chain (Yap (12 : Int)))),D.sl false E.sv (Book.svs (FBook.chain (Yap (12 : Int)))),D.I (Book.rule (FBook.chain (Yap (12 : Int)))),D.I (Book.days (FBook.chain (Yap (12 : Int)))),D.sl false E.int (FBook.feet (Yap (12 : Int))),D.I (FBook.new (Yap (12 : Int))),D.sl false E.int (FBook.opn (Yap (12 : Int))),D.I (FBook.stock (Yap (12 : Int))),D.I (FBook.make (Yap (12 : Int)))]); let Z1 := FBook.chain (Yap (12 : Int)); let Z2 := FBook.chain (Yap (11 : Int)); let Z3 : Prop := CF 100 [] (D.agg [D.sl false E.sec (Book.secs Z2),D.sl false E.int (Book.turns Z2),D.sl false E.sv (Book.svs Z2),D.I (Book.rule Z2),D.I (Book.days Z2),D.sl false E.int (FBook.feet (Yap (11 : Int))),D.I (FBook.new (Yap (11 : Int))),D.sl false E.int (FBook.opn (Yap (11 : Int))),D.I (FBook.stock (Yap (11 : Int))),D.I (FBook.make (Yap (11 : Int)))]); let Z4 : Prop := CF 96 [] (D.sl false E.work threeW); let Z5 := FBook.stock (Yap (12 : Int)); let Z6 := FBook.feet (Yap (12 : Int)); let Z7 := FBook.make (Yap (12 : Int)); let Z8 := FBook.new (Yap (12 : Int)); let Z9 := FBook.opn (Yap (12 : Int)); let Z10 := Work.mk (5 : Int) (0 : Int); let Z11 := FBook.stock (Yap (11 : Int)); let Z12 := FBook.feet (Yap (11 : Int)); let Z13 := FBook.make (Yap (11 : Int)); let Z14 := FBook.new (Yap (11 : Int)); let Z15 := FBook.opn (Yap (11 : Int)); some ([Z0,Z4,CF 81 [D.agg [D.sl false E.sec (Book.secs Z1),D.sl false E.int (Book.turns Z1),D.sl false E.sv (Book.svs Z1),D.I (Book.rule Z1),D.I (Book.days Z1),D.sl false E.int Z6,D.I Z8,D.sl false E.int Z9,D.I Z5,D.I Z7],D.sl false E.work threeW,D.I 0,D.I 12] (D.tup [D.I 32,D.I 0]),Z0,Z4,CF 78 [D.agg [D.sl false E.sec (Book.secs Z1),D.sl false E.int (Book.turns Z1),D.sl false E.sv (Book.svs Z1),D.I (Book.rule Z1),D.I (Book.days Z1),D.sl false E.int Z6,D.I Z8,D.sl false E.int Z9,D.I Z5,D.I Z7],D.sl false E.work threeW] (D.tup [D.bool true,D.I 0]),Z0,CF 97 [D.I 5,D.I 0] (D.agg [D.I (Work.d Z10),D.I (Work.s Z10)]),CF 83 [D.agg [D.sl false E.sec (Book.secs Z1),D.sl false E.int (Book.turns Z1),D.sl false E.sv (Book.svs Z1),D.I (Book.rule Z1),D.I (Book.days Z1),D.sl false E.int Z6,D.I Z8,D.sl false E.int Z9,D.I Z5,D.I Z7],D.sl false E.work [Work.mk (Work.d Z10) (Work.s Z10)]] (D.tup [D.I 8,D.I 1,D.I 0]),CF 99 [] (Yab tornX),Z4,CF 84 [Yab tornX,D.sl false E.work threeW] (D.tup [D.I 21,D.I 0]),Z3,Z4,CF 85 [D.agg [D.sl false E.sec (Book.secs Z2),D.sl false E.int (Book.turns Z2),D.sl false E.sv (Book.svs Z2),D.I (Book.rule Z2),D.I (Book.days Z2),D.sl false E.int Z12,D.I Z14,D.sl false E.int Z15,D.I Z11,D.I Z13],D.sl false E.work threeW] (D.tup [D.I 2,D.I 0]),Z0,CF 77 [D.agg [D.sl false E.sec (Book.secs Z1),D.sl false E.int (Book.turns Z1),D.sl false E.sv (Book.svs Z1),D.I (Book.rule Z1),D.I (Book.days Z1),D.sl false E.int Z6,D.I Z8,D.sl false E.int Z9,D.I Z5,D.I Z7]] (D.tup [D.sl false E.work threeW,D.I 0]),Z3,CF 89 [D.agg [D.sl false E.sec (Book.secs Z2),D.sl false E.int (Book.turns Z2),D.sl false E.sv (Book.svs Z2),D.I (Book.rule Z2),D.I (Book.days Z2),D.sl false E.int Z12,D.I Z14,D.sl false E.int Z15,D.I Z11,D.I Z13]] (D.tup [D.I 12,D.I 0]),Z0,CF 92 [D.agg [D.sl false E.sec (Book.secs Z1),D.sl false E.int (Book.turns Z1),D.sl false E.sv (Book.svs Z1),D.I (Book.rule Z1),D.I (Book.days Z1),D.sl false E.int Z6,D.I Z8,D.sl false E.int Z9,D.I Z5,D.I Z7]] (D.tup [D.I 7,D.I 0]),CF 99 [] (Yab tornX),CF 77 [Yab tornX] (D.tup [D.sl false E.work [],D.I 72]),Z4,CF 136 [D.sl false E.work threeW,D.sl false E.work threeW] (D.bool true)],D.bool true) := by kernel_rfl
end Go.Di

namespace Go.Di
open Proofs
theorem own_th : Yax (Yap 12) = [[40,38,36,34,32,30,28,27,26,25,24,23,22],[38,37,36,35,34,33,32,30,28,26,24,22,20]] := by kernel_rfl
theorem own_wr : Yaw (Yap 12) = [2,1] := by kernel_rfl
theorem poor_th : Yax (Yap 11) = Yax (Yap 12) := rfl
theorem poor_wr : Yaw (Yap 11) = Yaw (Yap 12) := rfl
theorem own_err : Yc7 (Yap 12) true = 0 := by kernel_rfl
theorem poor_err : Yc7 (Yap 11) true = 0 := by kernel_rfl
theorem ev_least : fLeastF (Yap 12) threeW 0 12 = (32,0) := by kernel_rfl
theorem ev_first3 : Yc8 (Yap 12) threeW = (0,0,4) := by
 have h : Yc7 (Yap 12) (Ygj (Yap 12) threeW) = 0 := by kernel_rfl
 have e : Ycc (Yap 12) (Yax (Yap 12)) (Yaw (Yap 12)) threeW = none := by rw [own_th,own_wr]; kernel_rfl
 unfold Yc8
 rw [if_pos h,e]
theorem ev_safe : fSafeF (Yap 12) threeW = (true,0) := by unfold fSafeF; rw [ev_first3]; rfl
theorem ev_first : Yc8 (Yap 12) [⟨5,0⟩] = (8,1,0) := by
 have h : Yc7 (Yap 12) (Ygj (Yap 12) [⟨5,0⟩]) = 0 := by kernel_rfl
 have e : Ycc (Yap 12) (Yax (Yap 12)) (Yaw (Yap 12)) [⟨5,0⟩] = some (8,1) := by rw [own_th,own_wr]; kernel_rfl
 unfold Yc8
 rw [if_pos h,e]
 rfl
theorem ev_feet : fFeetF tornX threeW = (21,0) := by kernel_rfl
theorem ev_short : fShortF (Yap 11) threeW = (2,0) := by kernel_rfl
theorem ev_best : Yfq (Yap 12) (Yax (Yap 12)) (Yaw (Yap 12)) = (threeW,true) := by rw [own_th,own_wr]; kernel_rfl
theorem ev_plan : fPlanF (Yap 12) = (threeW,0) := by unfold fPlanF; rw [if_pos own_err,ev_best]
theorem ev_stock0 : stockF (Yap 11) (Yax (Yap 11)) (Yaw (Yap 11)) = 12 := by rw [poor_th,poor_wr,own_th,own_wr]; kernel_rfl
theorem ev_stock : fStockF (Yap 11) = (12,0) := by unfold fStockF; rw [if_pos poor_err,ev_stock0]; rfl
theorem ev_rest0 : (Yft (Yap 12) (Yax (Yap 12)) (Yaw (Yap 12)) ((Yap 12).chain.days + 1).toNat).1 = 7 := by rw [own_th,own_wr]; kernel_rfl
theorem ev_rest : fRestF (Yap 12) = (7,0) := by unfold fRestF; rw [if_pos own_err,ev_rest0]; rfl
theorem ev_torn : fPlanF tornX = ([],72) := by
 have h : Yc7 tornX true = 72 := by kernel_rfl
 unfold fPlanF
 rw [h]
 rfl
theorem links_con (svs : List Sv) : CF 153 [.sl false .sv svs] (Ybc (linksB svs)) := by
 have := Yaa (GF 13) links_fn (links_all svs) ⟨(rangeB_con 40 42).up,(rangeB_con 1 2).up,(rangeB_con 38 39).up,(rangeB_con 0 1).up,trivial⟩
 exact this.toWeak
theorem fbookB_con (n : Int) : CF 95 [.int .i64 n] (Yab (Yap n)) := (Yaa (GF 8) fbookB_fn (fbookB_all n) ⟨links_con [],trivial⟩).toWeak
theorem fown_con : CF 94 [] (Yab (Yap 12)) := Yaa (GF 2) fown_fn fown_all ⟨fbookB_con 12,trivial⟩
theorem fpoor_con : CF 100 [] (Yab (Yap 11)) := Yaa (GF 2) fpoor_fn fpoor_all ⟨fbookB_con 11,trivial⟩
theorem fwork_con (d s : Int) : CF 97 [.int .i64 d,.int .i64 s] (wkD ⟨d,s⟩) := Yaa (GF 8) fwork_fn (fwork_all d s) ⟨by omega,trivial⟩
theorem fthree_con : CF 96 [] (.sl false .work threeW) := (Yaa (GF 5) fthree_fn fthree_all ⟨fwork_con 3 1,fwork_con 5 0,fwork_con 9 1,trivial⟩).toRes fun R w v h => sl_weak h
theorem ftorn_con : CF 99 [] (Yab tornX) := Yaa (GF 9) ftorn_fn ftorn_all ⟨fown_con,links_con _,trivial⟩
instance workEq : DecidableEq Work := fun x y => if h : x.d = y.d ∧ x.s = y.s then isTrue (by obtain ⟨a,b⟩ := x; obtain ⟨c,d⟩ := y; obtain ⟨rfl,rfl⟩ := h; rfl) else isFalse fun e => h (by rw [e]; exact ⟨rfl,rfl⟩)
theorem eq_work {x y : Work} : eqI [x.d,x.s] [y.d,y.s] = decide (x = y) := by
 obtain ⟨a,b⟩ := x
 obtain ⟨c,d⟩ := y
 by_cases h : (⟨a,b⟩ : Work) = ⟨c,d⟩
 ·rw [decide_eq_true h]
  cases h
  simp [eqI]
 ·rw [decide_eq_false h]
  simp only [Work.mk.injEq,not_and] at h
  simp only [eqI]
  by_cases h1 : a = c
  ·have := h h1
   simp [this]
  ·simp [h1]
theorem ext_work {xs ys : List Work} (hl : xs.length = ys.length) (h : ∀ i < xs.length,xs.getD i work0 = ys.getD i work0) : xs = ys := by
 refine List.ext_getElem hl fun i h1 h2 => ?_
 have := h i h1
 rwa [List.getD_eq_getElem?_getD,List.getD_eq_getElem?_getD,List.getElem?_eq_getElem h1,List.getElem?_eq_getElem h2] at this
theorem same_con (p q : List Work) (hl : p.length ≤ 1000000) : CF 136 [.sl false .work p,.sl false .work q] (.bool (decide (p = q))) := by
 have hb : k_136 [1,1,0,1] = .block 0 (.loop (k_136 [1,1,0,1,0,0])) := by kernel_rfl
 by_cases hlen : p.length = q.length
 ·have hne : ((p.length : Int) != (q.length : Int)) = false := by rw [hlen]; simp
  have hon : ∀ k,k ≤ p.length → (∀ i < k,(!eqI [(p.getD i work0).d,(p.getD i work0).s] [(q.getD i work0).d,(q.getD i work0).s]) = false) → ∀ i,i < k → ∃ dec orc lorc ks ps L1,runK (MF 26) dec orc lorc (k_136 [1,1,0,1,0,0]) (Yd3 p q i) ks = some (ps,.normal,L1) ∧ allP ps ∧ L1 = Yd3 p q (i + 1) := fun k hk h i hi =>
   ⟨_,_,_,_,_,_,same_0_on p q i,⟨Yak (by omega),⟨by omega,by omega⟩,by omega,⟨by omega,by omega⟩,by omega,h i hi,Yah (by omega) (by omega),trivial⟩,rfl⟩
  rcases Ye8 (fun i => !eqI [(p.getD i work0).d,(p.getD i work0).s] [(q.getD i work0).d,(q.getD i work0).s]) p.length with ⟨k,h1,h2,h3⟩ | h
  ·have : decide (p = q) = false := decide_eq_false fun e => by subst e; rw [eq_work] at h2; simp at h2
   rw [this]
   exact Yaa (GF 26) same_fn (same_diff p q k) ⟨hne,LF.each hb k (Yd3 p q) (hon k (by omega) h3) ⟨_,_,_,_,_,_,_,same_0_diff p q k,⟨Yak h1,⟨by omega,by omega⟩,by omega,⟨by omega,by omega⟩,by omega,h2,trivial⟩,.inr ⟨rfl,rfl⟩,rfl⟩,trivial⟩
  ·have : decide (p = q) = true := decide_eq_true (ext_work hlen fun i hi => by have := h i hi; rw [eq_work] at this; simpa using this)
   rw [this]
   exact Yaa (GF 26) same_fn (same_all p q p.length) ⟨hne,LF.each hb p.length (Yd3 p q) (hon _ (Nat.le_refl _) h) ⟨_,_,_,_,_,_,_,same_0_end p q _,⟨Yas,trivial⟩,.inl ⟨rfl,rfl⟩,rfl⟩,trivial⟩
 ·have : decide (p = q) = false := decide_eq_false fun e => hlen (by rw [e])
  rw [this]
  exact Yaa (GF 26) same_fn (same_len p q) ⟨by simp; omega,trivial⟩
theorem Ydm (n : Int) : FSmall (Yap n) := ⟨⟨by simp [Yap,linksB],by simp [Yap,linksB],by simp [Yap,linksB]⟩,by simp [Yap],by simp [Yap]⟩
theorem small_torn : FSmall tornX := ⟨⟨by simp [tornX,Yap,linksB],by simp [tornX,Yap,linksB],by simp [tornX,Yap,linksB]⟩,by simp [tornX,Yap],by simp [tornX,Yap]⟩
theorem riv_con : CF 73 [] (.bool true) := by
 have w3 : threeW.length ≤ 9223372036854775807 := by decide
 have c1 := fLeast_con (Ydm 12) w3 0 12
 have c2 := fSafe_con (Ydm 12) w3
 have c3 := fFirst_con (Ydm 12) (plan := [⟨5,0⟩]) (by decide)
 have c4 := fFeet_con small_torn w3
 have c5 := fShort_con (Ydm 11) w3
 have c6 := fPlan_con (Ydm 12)
 have c7 := fStock_con (Ydm 11)
 have c8 := fRest_con (Ydm 12)
 have c9 := fPlan_con small_torn
 rw [ev_least] at c1
 rw [ev_safe] at c2
 rw [ev_first] at c3
 rw [ev_feet] at c4
 rw [ev_short] at c5
 rw [ev_plan] at c6
 rw [ev_stock] at c7
 rw [ev_rest] at c8
 rw [ev_torn] at c9
 have c10 := same_con threeW threeW (by decide)
 rw [decide_eq_true rfl] at c10
 exact Yaa (GF 136) riv_fn riv_all (by
  repeat (first | exact trivial | refine ⟨by first | exact fown_con | exact fthree_con | exact fpoor_con | exact ftorn_con | exact fwork_con 5 0 | exact c1 | exact c2 | exact c3 | exact c4 | exact c5 | exact c6 | exact c7 | exact c8 | exact c9 | exact c10 | exact c3.toArgs (fun R w vs h => by obtain ⟨v,l,rfl,h1,h⟩ := Yal h; obtain ⟨v2,l,rfl,h2,h⟩ := Yal h; exact ⟨h1,sl_weak h2,h⟩) | rfl | decide,?_⟩))
end Go.Di

namespace Go.Di
open Proofs
noncomputable abbrev k_72 (p : List Nat) : Code := Code.at p (body Proofs.Tryd.f72)
noncomputable abbrev k_76 (p : List Nat) : Code := Code.at p (body Proofs.Tryd.f76)
theorem fsoundN_fn : FnOk PRG (MF 108) 72 (body Tryd.f72) [.tmp 2] := by refine ⟨Tryd.f72,?_,?_,?_,?_,?_⟩ <;> kernel_rfl
theorem fsoundY_fn : FnOk PRG (MF 108) 72 (body Tryd.f72) [.tmp 2] := by refine ⟨Tryd.f72,?_,?_,?_,?_,?_⟩ <;> kernel_rfl
theorem member_fn : FnOk PRG (MF 10) 131 (body Tryd.f131) [.tmp 4] := by refine ⟨Tryd.f131,?_,?_,?_,?_,?_⟩ <;> kernel_rfl
theorem drawnA_fn : FnOk PRG (MF 53) 76 (body Tryd.f76) [.tmp 4] := by refine ⟨Tryd.f76,?_,?_,?_,?_,?_⟩ <;> kernel_rfl
def Ydr (x : FBook)  : List (Key × Val) :=
 [(.tmp 1,.d (D.ptr 1 0)),
  (.tmp 3,.d (D.bool false)),
  (.tmp 4,.d (D.I 0)),
  (.box 1,.bx (some (Box.mk false (cellsOf (Yab x)))))]
def fsoundN_K0 : List Key := [.tmp 1,.tmp 3,.tmp 4,.box 1]
def Ycx (x : FBook) (i : Nat) : List (Key × Val) :=
 [(.tmp 1,.d (D.ptr 1 0)),
  (.tmp 3,.d (.bool true)),
  (.tmp 4,.d (.I i)),
  (.box 1,.bx (some (Box.mk false (cellsOf (Yab x)))))]
def fsoundY_K0 : List Key := [.tmp 1,.tmp 3,.tmp 4,.box 1]
def Ycu (x : FBook) (n : Int) (z : Int) (k s : Nat) (y : Work) (r : List Work) : List (Key × Val) :=
 [(.tmp 2,.d (D.ptr 2 0)),
  (.tmp 5,.d (.own 51 (y :: r).length)),
  (.tmp 6,.d (.I z)),
  (.tmp 7,.d (.I k)),
  (.tmp 8,.d (.I s)),
  (.box 2,.bx (some (Box.mk false (cellsOf (Yab x))))),
  (.obj 51,.ob (some ⟨.work,y :: r⟩))]
def drawnB_K2 : List Key := [.tmp 2,.tmp 5,.tmp 6,.tmp 7,.tmp 8,.box 2,.obj 51]
def Yet (x : FBook) (n : Int) (z : Int) (k : Nat) (y : Work) (r : List Work) : List (Key × Val) :=
 [(.tmp 2,.d (D.ptr 2 0)),
  (.tmp 5,.d (.own 51 (y :: r).length)),
  (.tmp 6,.d (.I z)),
  (.tmp 7,.d (.I k)),
  (.box 2,.bx (some (Box.mk false (cellsOf (Yab x))))),
  (.obj 51,.ob (some ⟨.work,y :: r⟩))]
def drawnB_K0 : List Key := [.tmp 2,.tmp 5,.tmp 6,.tmp 7,.box 2,.obj 51]
def Ydb (x : FBook) (n : Int) (z : Int) (k s : Nat) : List (Key × Val) :=
 [(.tmp 2,.d (D.ptr 2 0)),
  (.tmp 5,.d (.sl true .work [])),
  (.tmp 6,.d (.I z)),
  (.tmp 7,.d (.I k)),
  (.tmp 8,.d (.I s)),
  (.box 2,.bx (some (Box.mk false (cellsOf (Yab x))))),
  (.obj 51,.ob none)]
def drawnA_K2 : List Key := [.tmp 2,.tmp 5,.tmp 6,.tmp 7,.tmp 8,.box 2,.obj 51]
def Ydc (x : FBook) (n : Int) (z : Int) (k : Nat) : List (Key × Val) :=
 [(.tmp 2,.d (D.ptr 2 0)),
  (.tmp 5,.d (.sl true .work [])),
  (.tmp 6,.d (.I z)),
  (.tmp 7,.d (.I k)),
  (.box 2,.bx (some (Box.mk false (cellsOf (Yab x))))),
  (.obj 51,.ob none)]
def drawnA_K0 : List Key := [.tmp 2,.tmp 5,.tmp 6,.tmp 7,.box 2,.obj 51]
theorem fsoundN_0_end (x : FBook) :
  runK (MF 108) [] [] [] (k_72 [1,1,0,1,0,0]) (Ydr x ) fsoundN_K0 =
   some ([],Ex.exit 0,Ydr x) := by kernel_rfl
theorem fsoundY_0_on (x : FBook) (i : Nat) :
  runK (MF 108) [(82,true)] [(96,.bool true),(100,.bool true),(105,.bool true)] [] (k_72 [1,1,0,1,0,0]) (Ycx x i) fsoundY_K0 =
   let Z0 := List.getD x.chain.secs (i) (E.z E.sec); some ([decide ((i : Int) < (x.feet.length : Int)) = true,(0 : Int) ≤ (i : Int) ∧ (i : Int) < (x.chain.secs.length : Int),0 + 4 ≤ 4,(0 : Int) ≤ (i : Int) ∧ (i : Int) < (x.feet.length : Int),0 + 1 ≤ 1,CF 50 [D.I (List.getD x.feet (i) (0 : Int)),D.I 1,D.I 30] (D.bool true),0 + 0 + 2 ≤ 4,CF 117 [D.agg [D.I (Span.lo (Sec.t Z0)),D.I (Span.hi (Sec.t Z0))],D.I 0,D.I 200] (D.bool true),0 + 2 + 2 ≤ 4,CF 117 [D.agg [D.I (Span.lo (Sec.w Z0)),D.I (Span.hi (Sec.w Z0))],D.I 0,D.I 3] (D.bool true),Yac ((i : Int) + (1 : Int))],Ex.normal,Ycx x (i + 1)) := by kernel_rfl
theorem fsoundY_0_end (x : FBook) (i : Nat) :
  runK (MF 108) [(82,false)] [] [] (k_72 [1,1,0,1,0,0]) (Ycx x i) fsoundY_K0 =
   some ([decide ((i : Int) < (x.feet.length : Int)) = false],Ex.exit 0,Ycx x i) := by kernel_rfl
theorem drawnB_2_yes (x : FBook) (n : Int) (z : Int) (k s : Nat) (y : Work) (r : List Work) :
  runK (MF 53) [(30,true)] [(41,.bool true),(49,wkD ⟨x.opn.getD k 0,(s : Int)⟩)] [] (k_76 [1,1,1,0,1,0,0,1,0,0,1,0,0]) (Ycu x n z k s y r) drawnB_K2 =
   let Z0 := Work.mk (List.getD x.opn k (0 : Int)) ((s : Int)); some ([decide ((s : Int) < (x.feet.length : Int)) = true,Yac ((k : Int) * (x.feet.length : Int)),Yac ((k : Int) * (x.feet.length : Int) + (s : Int)),CF 131 [D.I z,D.I ((k : Int) * (x.feet.length : Int) + (s : Int))] (D.bool true),(0 : Int) ≤ (k : Int) ∧ (k : Int) < (x.opn.length : Int),0 + 1 ≤ 1,CF 97 [D.I (List.getD x.opn (k) (0 : Int)),D.I (s : Int)] (D.agg [D.I (Work.d Z0),D.I (Work.s Z0)]),(y :: r).length = List.length ((y :: r)),List.length ((y :: r) ++ [Work.mk (Work.d Z0) (Work.s Z0)]) * (16 + 1) ≤ 140737488355328,Yac ((s : Int) + (1 : Int))],Ex.normal,Ycu x n z k (s + 1) y (r ++ [⟨x.opn.getD k 0,(s : Int)⟩])) := by kernel_rfl
theorem drawnB_2_no (x : FBook) (n : Int) (z : Int) (k s : Nat) (y : Work) (r : List Work) :
  runK (MF 53) [(30,true)] [(41,.bool false)] [] (k_76 [1,1,1,0,1,0,0,1,0,0,1,0,0]) (Ycu x n z k s y r) drawnB_K2 =
   some ([decide ((s : Int) < (x.feet.length : Int)) = true,Yac ((k : Int) * (x.feet.length : Int)),Yac ((k : Int) * (x.feet.length : Int) + (s : Int)),CF 131 [D.I z,D.I ((k : Int) * (x.feet.length : Int) + (s : Int))] (D.bool false),Yac ((s : Int) + (1 : Int))],Ex.normal,Ycu x n z k (s + 1) y r) := by kernel_rfl
theorem drawnB_2_end (x : FBook) (n : Int) (z : Int) (k s : Nat) (y : Work) (r : List Work) :
  runK (MF 53) [(30,false)] [] [] (k_76 [1,1,1,0,1,0,0,1,0,0,1,0,0]) (Ycu x n z k s y r) drawnB_K2 =
   some ([decide ((s : Int) < (x.feet.length : Int)) = false],Ex.exit 2,Ycu x n z k s y r) := by kernel_rfl
theorem drawnB_0_on (x : FBook) (n : Int) (z : Int) (k : Nat) (y : Work) (r : List Work) (s : Nat) (w : Work) (q : List Work) :
  runK (MF 53) [(23,true)] [] [(2,(drawnB_K2,(.normal,Ycu x n z k s w q)))] (k_76 [1,1,1,0,1,0,0]) (Yet x n z k y r) drawnB_K0 =
   some ([decide ((k : Int) < (x.opn.length : Int)) = true,LF 53 (k_76 [1,1,1,0,1,0,0,1,0,0,1]) [(.tmp 2,.d (D.ptr 2 0)),(.tmp 5,.d (D.own 51 ((y :: r).length))),(.tmp 6,.d (D.I z)),(.tmp 7,.d (D.I (k : Int))),(.tmp 8,.d (D.I 0)),(.box 2,.bx (some (Box.mk false (cellsOf (Yab x))))),(.obj 51,.ob (some (Ob.mk E.work (y :: r))))] Ex.normal (Ycu x n z k s w q),Yac ((k : Int) + (1 : Int))],Ex.normal,Yet x n z (k + 1) w q) := by kernel_rfl
theorem drawnB_0_end (x : FBook) (n : Int) (z : Int) (k : Nat) (y : Work) (r : List Work) :
  runK (MF 53) [(23,false)] [] [] (k_76 [1,1,1,0,1,0,0]) (Yet x n z k y r) drawnB_K0 =
   some ([decide ((k : Int) < (x.opn.length : Int)) = false],Ex.exit 0,Yet x n z k y r) := by kernel_rfl
theorem drawnA_2_yes (x : FBook) (n : Int) (z : Int) (k s : Nat) :
  runK (MF 53) [(30,true)] [(41,.bool true),(49,wkD ⟨x.opn.getD k 0,(s : Int)⟩)] [] (k_76 [1,1,1,0,1,0,0,1,0,0,1,0,0]) (Ydb x n z k s) drawnB_K2 =
   let Z0 := Work.mk (List.getD x.opn k (0 : Int)) ((s : Int)); some ([decide ((s : Int) < (x.feet.length : Int)) = true,Yac ((k : Int) * (x.feet.length : Int)),Yac ((k : Int) * (x.feet.length : Int) + (s : Int)),CF 131 [D.I z,D.I ((k : Int) * (x.feet.length : Int) + (s : Int))] (D.bool true),(0 : Int) ≤ (k : Int) ∧ (k : Int) < (x.opn.length : Int),0 + 1 ≤ 1,CF 97 [D.I (List.getD x.opn (k) (0 : Int)),D.I (s : Int)] (D.agg [D.I (Work.d Z0),D.I (Work.s Z0)]),1 * (16 + 1) ≤ 140737488355328,Yac ((s : Int) + (1 : Int))],Ex.normal,Ycu x n z k (s + 1) ⟨x.opn.getD k 0,(s : Int)⟩ []) := by kernel_rfl
theorem drawnA_2_no (x : FBook) (n : Int) (z : Int) (k s : Nat) :
  runK (MF 53) [(30,true)] [(41,.bool false)] [] (k_76 [1,1,1,0,1,0,0,1,0,0,1,0,0]) (Ydb x n z k s) drawnA_K2 =
   some ([decide ((s : Int) < (x.feet.length : Int)) = true,Yac ((k : Int) * (x.feet.length : Int)),Yac ((k : Int) * (x.feet.length : Int) + (s : Int)),CF 131 [D.I z,D.I ((k : Int) * (x.feet.length : Int) + (s : Int))] (D.bool false),Yac ((s : Int) + (1 : Int))],Ex.normal,Ydb x n z k (s + 1)) := by kernel_rfl
theorem drawnA_2_end (x : FBook) (n : Int) (z : Int) (k s : Nat) :
  runK (MF 53) [(30,false)] [] [] (k_76 [1,1,1,0,1,0,0,1,0,0,1,0,0]) (Ydb x n z k s) drawnA_K2 =
   some ([decide ((s : Int) < (x.feet.length : Int)) = false],Ex.exit 2,Ydb x n z k s) := by kernel_rfl
theorem drawnA_0_on (x : FBook) (n : Int) (z : Int) (k : Nat) (s : Nat) :
  runK (MF 53) [(23,true)] [] [(2,(drawnA_K2,(.normal,Ydb x n z k s)))] (k_76 [1,1,1,0,1,0,0]) (Ydc x n z k) drawnA_K0 =
   some ([decide ((k : Int) < (x.opn.length : Int)) = true,LF 53 (k_76 [1,1,1,0,1,0,0,1,0,0,1]) (Ydb x n z k 0) Ex.normal (Ydb x n z k s),Yac ((k : Int) + (1 : Int))],Ex.normal,Ydc x n z (k + 1)) := by kernel_rfl
theorem drawnA_0_end (x : FBook) (n : Int) (z : Int) (k : Nat) :
  runK (MF 53) [(23,false)] [] [] (k_76 [1,1,1,0,1,0,0]) (Ydc x n z k) drawnA_K0 =
   some ([decide ((k : Int) < (x.opn.length : Int)) = false],Ex.exit 0,Ydc x n z k) := by kernel_rfl
theorem drawnA_0_new (x : FBook) (n : Int) (z : Int) (k : Nat) (s : Nat) (y : Work) (r : List Work) :
  runK (MF 53) [(23,true)] [] [(2,(drawnA_K2,(.normal,Ycu x n z k s y r)))] (k_76 [1,1,1,0,1,0,0]) (Ydc x n z k) drawnB_K0 =
   some ([decide ((k : Int) < (x.opn.length : Int)) = true,LF 53 (k_76 [1,1,1,0,1,0,0,1,0,0,1]) (Ydb x n z k 0) Ex.normal (Ycu x n z k s y r),Yac ((k : Int) + (1 : Int))],Ex.normal,Yet x n z (k + 1) y r) := by kernel_rfl
theorem fsoundN_all (x : FBook) :
  Yag (MF 108) [] [(7,.I 70)] [(0,(fsoundN_K0,(.normal,Ydr x)))] (body Tryd.f72) [.tmp 2] [Yab x] =
   some ([CF 98 [Yab x] (D.I 70),LF 108 (k_72 [1,1,0,1]) (Ydr x) Ex.normal (Ydr x)],D.bool false) := by kernel_rfl
theorem fsoundY_all (x : FBook) (i : Nat) :
  Yag (MF 108) [(32,true),(45,true),(51,true)] [(7,.I 0),(12,.I 0),(20,.bool true),(36,.bool true),(58,.bool true),(63,.bool true),(68,.bool true),(73,.bool true)] [(0,(fsoundY_K0,(.normal,Ycx x i)))] (body Tryd.f72) [.tmp 2] [Yab x] =
   let Z0 : Prop := decide ((x.opn.length : Int) ≤ (4 : Int)) = true; let Z1 : Prop := decide ((x.chain.turns.length : Int) ≤ (4 : Int)) = true; some ([CF 98 [Yab x] (D.I 0),CF 64 [Ybc x.chain] (D.I 0),CF 50 [D.I ((x.chain.secs.length : Int)),D.I 1,D.I 4] (D.bool true),((x.feet.length : Int) == (x.chain.secs.length : Int)) = true,((x.feet.length : Int) == (x.chain.secs.length : Int)) = true,((x.feet.length : Int) == (x.chain.secs.length : Int)) = true,((x.feet.length : Int) == (x.chain.secs.length : Int)) = true,CF 50 [D.I x.chain.days,D.I 1,D.I 30] (D.bool true),((x.feet.length : Int) == (x.chain.secs.length : Int)) = true,Z1,Z1,Z1,Z1,Z1,Z0,Z0,Z0,Z0,Z0,Z0,Yac (x.chain.days + (1 : Int)),Z0,CF 52 [D.sl false E.int x.opn,D.I (x.chain.days + (1 : Int))] (D.bool true),Z0,CF 50 [D.I x.new,D.I 0,D.I 200] (D.bool true),CF 50 [D.I x.stock,D.I 0,D.I 200] (D.bool true),CF 50 [D.I x.make,D.I 0,D.I 9] (D.bool true),LF 108 (k_72 [1,1,0,1]) (Ycx x 0) Ex.normal (Ycx x i)],D.bool true) := by kernel_rfl
theorem member_all (s : Int) (k : Int) :
  Yag (MF 10) [] [] [] (body Tryd.f131) [.tmp 4] [.I s,.I k] =
   some ([(0 : Int) ≤ k],D.bool (IntKind.wrap .i64 ((Nat.cast : Nat → Int) (BitVec.toNat (BitVec.ofInt 64 (Int.fdiv s ((2 : Int) ^ Min.min (Int.toNat k) 64)) &&& BitVec.ofInt 64 (1 : Int)))) == (1 : Int))) := by kernel_rfl
theorem drawnA_none (x : FBook) (n : Int) (z : Int) (k : Nat) :
  Yag (MF 53) [] [(18,.I z)] [(0,(drawnA_K0,(.normal,Ydc x n z k)))] (body Tryd.f76) [.tmp 4] [Yab x,.I n] =
   let Z0 := Int.toNat ((x.opn.length : Int) * (x.feet.length : Int)); some ([Yac ((x.opn.length : Int) * (x.feet.length : Int)),(0 : Int) ≤ (x.opn.length : Int) * (x.feet.length : Int) ∧ Yac ((1 : Int) * (2 : Int) ^ Min.min Z0 64),CF 39 [D.I n,D.I ((1 : Int) * (2 : Int) ^ Min.min Z0 64)] (D.I z),LF 53 (k_76 [1,1,1,0,1]) (Ydc x n z 0) Ex.normal (Ydc x n z k)],D.sl true E.work []) := by kernel_rfl
theorem drawnA_some (x : FBook) (n : Int) (z : Int) (k : Nat) (y : Work) (r : List Work) :
  Yag (MF 53) [] [(18,.I z)] [(0,(drawnA_K0,(.normal,Yet x n z k y r)))] (body Tryd.f76) [.tmp 4] [Yab x,.I n] =
   let Z0 := Int.toNat ((x.opn.length : Int) * (x.feet.length : Int)); some ([Yac ((x.opn.length : Int) * (x.feet.length : Int)),(0 : Int) ≤ (x.opn.length : Int) * (x.feet.length : Int) ∧ Yac ((1 : Int) * (2 : Int) ^ Min.min Z0 64),CF 39 [D.I n,D.I ((1 : Int) * (2 : Int) ^ Min.min Z0 64)] (D.I z),LF 53 (k_76 [1,1,1,0,1]) (Ydc x n z 0) Ex.normal (Yet x n z k y r),(y :: r).length = List.length ((y :: r))],D.sl false E.work ((y :: r))) := by kernel_rfl
end Go.Di

