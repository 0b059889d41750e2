/- Part 29: an interpreter over plain data for this code, with the proof that it says what the model does, and the contracts of the functions. No condition. -/
import Derived.Test.YtfkmodcjddfeiaaDoorDi28
set_option linter.unusedVariables false
set_option linter.unusedSimpArgs false
/-
 ForgeKnown returns true.
-/
namespace Go.Di
open Proofs
theorem fbook_live (n : Int) : ContractL PRG globF 95 [.int .i64 n] (fliveCs n) nine6 := contractL_of_path (GKF 8) fbookL_fn (fbookL_live n) ⟨links_con [],trivial⟩
theorem fown_live : ContractL PRG globF 94 [] (fliveCs 12) nine6 := contractL_of_path (GKF 2) fownL_fn fownL_live ⟨fbook_live 12,trivial⟩

/-! ### What is told of a book -/
section
variable {x : FBook} (hs : FSmall x)
include hs
theorem fleast_is (plan : List Work) (hl : plan.length ≤ 9223372036854775807) (s d n e : Int) (h : fLeastF x plan s d = (n,e)) : CF 81 [fbookD x,.sl false .work plan,.int .i64 s,.int .i64 d] (.tup [.int .i64 n,.int .i64 e]) := by
 have c := fLeast_con hs hl s d
 rw [h] at c
 exact c
theorem ffirst_is (plan : List Work) (hl : plan.length ≤ 9223372036854775807) (d s e : Int) (h : fFirstF x plan = (d,s,e)) : CF 83 [fbookD x,.sl false .work plan] (.tup [.int .i64 d,.int .i64 s,.int .i64 e]) := by
 have c := fFirst_con hs hl
 rw [h] at c
 exact c
theorem fsafe_is (plan : List Work) (hl : plan.length ≤ 9223372036854775807) (t : Bool) (e : Int) (h : fSafeF x plan = (t,e)) : CF 78 [fbookD x,.sl false .work plan] (.tup [.bool t,.int .i64 e]) := by
 have c := fSafe_con hs hl
 rw [h] at c
 exact c
theorem ffeet_is (plan : List Work) (hl : plan.length ≤ 9223372036854775807) (n e : Int) (h : fFeetF x plan = (n,e)) : CF 84 [fbookD x,.sl false .work plan] (.tup [.int .i64 n,.int .i64 e]) := by
 have c := fFeet_con hs hl
 rw [h] at c
 exact c
theorem fshort_is (plan : List Work) (hl : plan.length ≤ 9223372036854775807) (n e : Int) (h : fShortF x plan = (n,e)) : CF 85 [fbookD x,.sl false .work plan] (.tup [.int .i64 n,.int .i64 e]) := by
 have c := fShort_con hs hl
 rw [h] at c
 exact c
theorem fplan_is (p : List Work) (e : Int) (h : fPlanF x = (p,e)) : CF 77 [fbookD x] (.tup [.sl false .work p,.int .i64 e]) := by
 have c := fPlan_con hs
 rw [h] at c
 exact c
theorem fstock_is (n e : Int) (h : fStockF x = (n,e)) : CF 89 [fbookD x] (.tup [.int .i64 n,.int .i64 e]) := by
 have c := fStock_con hs
 rw [h] at c
 exact c
theorem frest_is (n e : Int) (h : fRestF x = (n,e)) : CF 92 [fbookD x] (.tup [.int .i64 n,.int .i64 e]) := by
 have c := fRest_con hs
 rw [h] at c
 exact c
end
theorem ferr_wrong {x : FBook} (h : fvalidF x = false) (is : Bool) : ferrF x is = 70 := by simp [ferrF,h]

theorem kg_mem {α : Type} (l : List α) (i : Nat) (z : α) (h : i < l.length) : l.getD i z ∈ l := by
 rw [List.getD_eq_getElem?_getD,List.getElem?_eq_getElem h]
 exact List.getElem_mem _
theorem fbad_all : fbadL.all (fun x => !(fvalidF x) && decide (x.chain.secs.length ≤ 9) && decide (x.chain.turns.length ≤ 9) && decide (x.chain.svs.length ≤ 9) && decide (x.feet.length ≤ 9) && decide (x.opn.length ≤ 9)) = true := by kernel_rfl
theorem fbad_at {i : Nat} (hi : i < 12) : FSmall (fbadL.getD i E.fbook.z) ∧ fvalidF (fbadL.getD i E.fbook.z) = false := by
 have hm := kg_mem fbadL i (E.fbook.z : FBook) hi
 have := List.all_eq_true.1 fbad_all _ hm
 simp only [Bool.and_eq_true,Bool.not_eq_true',decide_eq_true_eq] at this
 exact ⟨⟨⟨by omega,by omega,by omega⟩,by omega,by omega⟩,this.1.1.1.1.1⟩
theorem fno_all : fnoL.all (fun p => decide (p.length ≤ 9) && decide (fLeastF tornX p 0 0 = (0,71)) && decide (fSafeF tornX p = (false,71)) && decide (fFirstF tornX p = (0,0,71)) && decide (fFeetF tornX p = (0,71)) && decide (fShortF tornX p = (0,71))) = true := by kernel_rfl
theorem fno_at {i : Nat} (hi : i < 6) : (fnoL.getD i (E.list E.work).z).length ≤ 9 ∧ fLeastF tornX (fnoL.getD i (E.list E.work).z) 0 0 = (0,71) ∧ fSafeF tornX (fnoL.getD i (E.list E.work).z) = (false,71) ∧ fFirstF tornX (fnoL.getD i (E.list E.work).z) = (0,0,71) ∧
  fFeetF tornX (fnoL.getD i (E.list E.work).z) = (0,71) ∧ fShortF tornX (fnoL.getD i (E.list E.work).z) = (0,71) := by
 have hm := kg_mem fnoL i ((E.list E.work).z : List Work) hi
 have := List.all_eq_true.1 fno_all _ hm
 simp only [Bool.and_eq_true,decide_eq_true_eq] at this
 exact ⟨this.1.1.1.1.1,this.1.1.1.1.2,this.1.1.1.2,this.1.1.2,this.1.2,this.2⟩

theorem kf_loop : LoopT PRG globF 576 (Code.at [1,1,1,1,1,1,1,1,1,1,1,0,1] (body Tryd.f23)) kf_S0 .normal (kfS 12) := by
 refine LoopT.shuts (L' := kfS 0) kf_shut ?_
 refine LoopT.count (tt := lookN typesKF) (id := 0) (c := Code.at [1,1,1,1,1,1,1,1,1,1,1,0,1,0,0] (body Tryd.f23)) (by kernel_rfl) 12 kfS (fun i hi => ?_) ?_
 ·obtain ⟨hs,hv⟩ := fbad_at hi
  have e := ferr_wrong hv
  have hn : ([] : List Work).length ≤ 9223372036854775807 := by decide
  have h3 : threeW.length ≤ 9223372036854775807 := by decide
  have h1 : ([⟨-1,-1⟩] : List Work).length ≤ 9223372036854775807 := by decide
  have hf : ∀ p,fFirstF (fbadL.getD i E.fbook.z) p = (0,0,70) := fun p => by rw [fFirstF,e]; rfl
  have hp : ∀ p,fplanE (fbadL.getD i E.fbook.z) p = 70 := fun p => by simp [fplanE,hv]
  have c1 := fleast_is hs [] hn (-1) 0 0 70 (by rw [fLeastF,e]; rfl)
  have c2 := fsafe_is hs threeW h3 false 70 (by rw [fSafeF,hf]; rfl)
  have c3 := ffirst_is hs [] hn 0 0 70 (hf _)
  have c4 := ffeet_is hs [⟨-1,-1⟩] h1 0 70 (by rw [fFeetF,hp]; rfl)
  have c5 := fshort_is hs [] hn 0 70 (by rw [fShortF,hp]; rfl)
  have c6 := fplan_is hs [] 70 (by rw [fPlanF,e]; rfl)
  have c7 := fstock_is hs 0 70 (by rw [fStockF,e]; rfl)
  have c8 := frest_is hs 0 70 (by rw [fRestF,e]; rfl)
  have c9 := fcheck_con hs
  rw [fcheckF,hv] at c9
  have hbd : 0 ≤ (i : Int) ∧ (i : Int) < ((12 : Nat) : Int) := by omega
  refine WpL.path (GKF 576) (kf_0_on i) ?_ ⟨rfl,rfl⟩
  exact ⟨decide_eq_true (by omega),hbd,c1,hbd,fthree_con,c2,hbd,c3,hbd,fwork_con (-1) (-1),c4,hbd,c5,hbd,c6,hbd,c7,hbd,c8,hbd,c9,by simp only [inI64]; omega,trivial⟩
 ·exact WpL.path (GKF 576) (kf_0_end 12) ⟨rfl,trivial⟩ ⟨.inl ⟨rfl,rfl⟩,rfl⟩

theorem kf_loop2 : LoopT PRG globF 576 (Code.at [1,1,1,1,1,1,1,1,1,1,1,1,1,0,1] (body Tryd.f23)) (kfN 0) .normal (kfN 6) := by
 refine LoopT.count (tt := lookN typesKF) (id := 2) (c := Code.at [1,1,1,1,1,1,1,1,1,1,1,1,1,0,1,0,0] (body Tryd.f23)) (by kernel_rfl) 6 kfN (fun i hi => ?_) ?_
 ·obtain ⟨hl,h1,h2,h3,h4,h5⟩ := fno_at hi
  have hl' : (fnoL.getD i (E.list E.work).z).length ≤ 9223372036854775807 := by omega
  have hbd : 0 ≤ (i : Int) ∧ (i : Int) < ((6 : Nat) : Int) := by omega
  refine WpL.path (GKF 576) (kf_2_on i) ?_ ⟨rfl,rfl⟩
  exact ⟨decide_eq_true (by omega),ftorn_con,hbd,fleast_is small_torn _ hl' 0 0 0 71 h1,ftorn_con,hbd,fsafe_is small_torn _ hl' false 71 h2,ftorn_con,hbd,ffirst_is small_torn _ hl' 0 0 71 h3,ftorn_con,hbd,ffeet_is small_torn _ hl' 0 71 h4,ftorn_con,hbd,fshort_is small_torn _ hl' 0 71 h5,
   by simp only [inI64]; omega,trivial⟩
 ·exact WpL.path (GKF 576) (kf_2_end 6) ⟨rfl,trivial⟩ ⟨.inl ⟨rfl,rfl⟩,rfl⟩

theorem kf_loop4 : LoopT PRG globF 576 (Code.at [1,1,1,1,1,1,1,1,1,1,1,1,1,1,1,1,1,1,1,1,1,1,1,1,1,0,1] (body Tryd.f23)) (kfM 0) .normal (kfM 2) := by
 have hn : ([] : List Work).length ≤ 9223372036854775807 := by decide
 have c0 := fleast_is (small_bookX 12) [] hn 0 6 28 0 (by kernel_rfl)
 have c1 := fleast_is (small_bookX 12) [] hn 1 8 28 0 (by kernel_rfl)
 refine LoopT.count (tt := lookN typesKF) (id := 4) (c := Code.at [1,1,1,1,1,1,1,1,1,1,1,1,1,1,1,1,1,1,1,1,1,1,1,1,1,0,1,0,0] (body Tryd.f23)) (by kernel_rfl) 2 kfM (fun i hi => ?_) ?_
 ·have hbd : 0 ≤ (i : Int) ∧ (i : Int) < ((2 : Nat) : Int) := by omega
  have hi2 : i = 0 ∨ i = 1 := by omega
  refine WpL.path (GKF 576) (kf_4_on i 28) ?_ ⟨rfl,rfl⟩
  rcases hi2 with rfl | rfl
  ·exact ⟨rfl,fown_con,hbd,by decide,by decide,hbd,by decide,by decide,c0,hbd,by decide,by decide,rfl,by simp only [inI64]; omega,trivial⟩
  ·exact ⟨rfl,fown_con,hbd,by decide,by decide,hbd,by decide,by decide,c1,hbd,by decide,by decide,rfl,by simp only [inI64]; omega,trivial⟩
 ·exact WpL.path (GKF 576) (kf_4_end 2) ⟨rfl,trivial⟩ ⟨.inl ⟨rfl,rfl⟩,rfl⟩

theorem fknown_con : CF 23 [] (.bool true) := by
 have hn : ([] : List Work).length ≤ 9223372036854775807 := by decide
 have h3 : threeW.length ≤ 9223372036854775807 := by decide
 have h5 : ([⟨5,0⟩] : List Work).length ≤ 9223372036854775807 := by decide
 have h31 : ([⟨3,1⟩] : List Work).length ≤ 9223372036854775807 := by decide
 have h52 : ([⟨5,0⟩,⟨5,1⟩] : List Work).length ≤ 9223372036854775807 := by decide
 have so := small_bookX 12
 have sp := small_bookX 11
 have st := small_torn
 refine contract_of_path (GKF 576) kf_fn kf_all ?_
 exact ⟨fown_con,fown_con,fown_live,fown_live,fown_con,fown_con,fown_con,fbookB_con 201,fbookB_con (-1),fown_con,fown_con,by omega,by omega,by omega,by omega,by omega,by omega,by omega,by omega,by omega,by omega,by omega,kf_loop,
  fwork_con 4 0,fwork_con 3 2,fwork_con 3 (-1),fwork_con 5 0,fwork_con 3 0,fwork_con 5 1,fwork_con 5 0,fwork_con 5 0,fwork_con 5 0,kf_loop2,
  ftorn_con,fleast_is st [] hn 2 0 0 71 (by kernel_rfl),ftorn_con,fleast_is st [] hn 0 13 0 71 (by kernel_rfl),ftorn_con,fleast_is st [] hn 0 0 0 72 (by kernel_rfl),ftorn_con,fsafe_is st [] hn false 72 (by kernel_rfl),ftorn_con,fstock_is st 0 72 (by kernel_rfl),ftorn_con,frest_is st 0 72 (by kernel_rfl),
  fpoor_con,fplan_is sp [] 4 (by kernel_rfl),fown_con,fthree_con,ffirst_is so threeW h3 0 0 4 (by kernel_rfl),fown_con,fthree_con,fshort_is so threeW h3 0 4 (by kernel_rfl),kf_loop4,
  fwork_con 5 0,fown_con,fleast_is so [⟨5,0⟩] h5 0 5 40 0 (by kernel_rfl),fown_con,fleast_is so [⟨5,0⟩] h5 0 6 38 0 (by kernel_rfl),fown_con,fwork_con 3 1,fleast_is so [⟨3,1⟩] h31 1 8 33 0 (by kernel_rfl),fown_con,fthree_con,fleast_is so threeW h3 1 12 34 0 (by kernel_rfl),
  fown_con,fsafe_is so [⟨5,0⟩] h5 false 0 (by kernel_rfl),fown_con,ffirst_is so [] hn 6 0 0 (by kernel_rfl),fown_con,fwork_con 5 0,fwork_con 5 1,ffirst_is so [⟨5,0⟩,⟨5,1⟩] h52 11 1 0 (by kernel_rfl),fown_con,fstock_is so 12 0 (by kernel_rfl),fpoor_con,frest_is sp 7 0 (by kernel_rfl),riv_con,trivial⟩
end Go.Di

