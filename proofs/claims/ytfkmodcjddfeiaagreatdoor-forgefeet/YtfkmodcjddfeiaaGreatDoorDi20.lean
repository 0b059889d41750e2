/- Part 20: an interpreter over plain data for this code, with the proof that it says what the model does, and the contracts of the functions. No condition. -/
import Derived.Test.YtfkmodcjddfeiaaGreatDoorDi19
set_option linter.unusedVariables false
set_option linter.unusedSimpArgs false
namespace Go.Di
open Proofs

theorem joinF {n : Nat} {dec : List (Nat × Bool)} {orc : List (Nat × D)} {lorc : Lorc} {c : Code} {L L' L2 : List (Key × Val)} {ks : List Key} {ps : List Prop}
  (h : Di.runK (MF n) dec orc lorc c L ks = some (ps,.normal,L')) (hp : allP ps) (he : L' = L2) : LF n c L .normal L2 :=
 LoopT.of (tt := lookN typesF) (WpL.path (GF n) h hp ⟨rfl,he⟩)

/-! ### Check -/
structure FSmall (x : FBook) : Prop where
 chain : Small x.chain
 feet : x.feet.length ≤ 9223372036854775807
 opn : x.opn.length ≤ 9223372036854775807
theorem fcheck_join (x : FBook) (hs : FSmall x) : LF 78 (Code.at [1,0] (body Tryz.f18)) (fcheck_R1 x) .normal (fcheck_RS1 x (fok0F x)) := by
 have c0 := (check_small hs.chain).up
 have c1 := fwithin_con x.new 0 200
 have c2 := fwithin_con x.stock 0 200
 have c3 := fwithin_con x.make 0 9
 unfold fok0F
 cases h1 : (checkF x.chain == 0) with
 | false =>
  refine joinF (fcheck_R1_a x) ?_ rfl
  repeat (first | exact trivial | refine ⟨by first | exact h1 | exact c0,?_⟩)
 | true =>
  by_cases h2 : (x.feet.length : Int) = x.chain.secs.length
  ·have h2' : ((x.feet.length : Int) == (x.chain.secs.length : Int)) = true := beq_iff_eq.2 h2
   rw [decide_eq_true h2]
   cases h3 : withinF x.new 0 200 with
   | false =>
    refine joinF (fcheck_R1_c x) ?_ rfl
    repeat (first | exact trivial | refine ⟨by first | exact h1 | exact h2' | exact h3 | exact c0 | exact c1,?_⟩)
   | true =>
    by_cases h4 : x.opn.length ≤ 4
    ·have h4' : decide ((x.opn.length : Int) ≤ 4) = true := decide_eq_true (by omega)
     rw [decide_eq_true h4]
     cases h5 : withinF x.stock 0 200 with
     | false =>
      refine joinF (fcheck_R1_e x) ?_ rfl
      repeat (first | exact trivial | refine ⟨by first | exact h1 | exact h2' | exact h3 | exact h4' | exact h5 | exact c0 | exact c1 | exact c2,?_⟩)
     | true =>
      refine joinF (fcheck_R1_f x) ?_ rfl
      repeat (first | exact trivial | refine ⟨by first | exact h1 | exact h2' | exact h3 | exact h4' | exact h5 | exact c0 | exact c1 | exact c2 | exact c3,?_⟩)
    ·have h4' : decide ((x.opn.length : Int) ≤ 4) = false := decide_eq_false (by omega)
     rw [decide_eq_false h4]
     refine joinF (fcheck_R1_d x) ?_ rfl
     repeat (first | exact trivial | refine ⟨by first | exact h1 | exact h2' | exact h3 | exact h4' | exact c0 | exact c1,?_⟩)
  ·have h2' : ((x.feet.length : Int) == (x.chain.secs.length : Int)) = false := beq_eq_false_iff_ne.2 h2
   rw [decide_eq_false h2]
   refine joinF (fcheck_R1_b x) ?_ rfl
   repeat (first | exact trivial | refine ⟨by first | exact h1 | exact h2' | exact c0,?_⟩)
theorem fcheck_loop0 (x : FBook) (hs : FSmall x) : LF 78 (Code.at [1,1,0,1] (body Tryz.f18)) (fcheck_S0 x (fok0F x) 0) .normal (fcheck_S0 x (fok1F x x.feet) x.feet.length) := by
 have hl := hs.feet
 refine LF.each (id := 0) (c := Code.at [1,1,0,1,0,0] (body Tryz.f18)) (by kernel_rfl) x.feet.length (fun i => fcheck_S0 x (fok1F x (x.feet.take i)) i) (fun i hi => ?_) ⟨_,_,_,_,_,_,_,fcheck_0_end x _ _,⟨lt_false,trivial⟩,.inl ⟨rfl,rfl⟩,by rw [List.take_length]⟩
 have hf := take_foldl (fun (ok : Bool) n => ok && withinF n 1 30) x.feet (fok0F x) i 0 hi
 have hi64 : inI64 ((i : Int) + 1) := by simp only [inI64]; omega
 have he : fok1F x (x.feet.take (i + 1)) = (fok1F x (x.feet.take i) && withinF (x.feet.getD i 0) 1 30) := hf
 cases hok : fok1F x (x.feet.take i) with
 | false =>
  exact ⟨_,_,_,_,_,_,fcheck_0_no x false i,by repeat (first | exact trivial | refine ⟨by first | rfl | exact lt_true hi | exact hi64 | omega,?_⟩),by rw [he,hok]; rfl⟩
 | true =>
  have c := fwithin_con (x.feet.getD i 0) 1 30
  exact ⟨_,_,_,_,_,_,fcheck_0_yes x true i (withinF (x.feet.getD i 0) 1 30),by repeat (first | exact trivial | refine ⟨by first | rfl | exact c | exact lt_true hi | exact hi64 | omega,?_⟩),by rw [he,hok]; rfl⟩
theorem fturn_in {days : Int} (hd : days ≤ 30) : ∀ (l : List Int) (p : Bool × Int),(p.1 = true → -1 ≤ p.2 ∧ p.2 ≤ 30) → (l.foldl (turnF days) p).1 = true → -1 ≤ (l.foldl (turnF days) p).2 ∧ (l.foldl (turnF days) p).2 ≤ 30
 | [],p,h,h1 => h h1
 | t :: l,p,h,h1 => by
  refine fturn_in hd l (turnF days p t) (fun h2 => ?_) h1
  simp only [turnF,Bool.and_eq_true,within_iff] at h2
  have := h h2.1
  simp only [turnF]
  omega
theorem check_zero {b : Book} : (checkF b == 0) = validF b := by
 unfold checkF
 cases validF b <;> rfl
theorem fok0_chain {x : FBook} (h : fok0F x = true) : Valid x.chain := by
 unfold fok0F at h
 simp only [Bool.and_eq_true] at h
 rw [check_zero] at h
 exact valid_iff.1 h.1.1.1.1.1
theorem fok1_eq (x : FBook) (l : List Int) : fok1F x l = (fok0F x && l.all fun n => withinF n 1 30) := foldl_and _ _ _
theorem fok1_ok0 {x : FBook} {l : List Int} (h : fok1F x l = true) : fok0F x = true := by
 rw [fok1_eq,Bool.and_eq_true] at h
 exact h.1
theorem fcheck_loop2 (x : FBook) (hs : FSmall x) : LF 78 (Code.at [1,1,1,1,0,1] (body Tryz.f18)) (fcheck_S2 x (fok1F x x.feet) (-1) 0) .normal (fcheck_S2 x (fok2F x x.opn).1 (fok2F x x.opn).2 x.opn.length) := by
 have hl := hs.opn
 refine LF.each (id := 2) (c := Code.at [1,1,1,1,0,1,0,0] (body Tryz.f18)) (by kernel_rfl) x.opn.length (fun i => fcheck_S2 x (fok2F x (x.opn.take i)).1 (fok2F x (x.opn.take i)).2 i) (fun i hi => ?_) ⟨_,_,_,_,_,_,_,fcheck_2_end x _ _ _,⟨lt_false,trivial⟩,.inl ⟨rfl,rfl⟩,by rw [List.take_length]⟩
 have hf : fok2F x (x.opn.take (i + 1)) = turnF x.chain.days (fok2F x (x.opn.take i)) (x.opn.getD i 0) := take_foldl (turnF x.chain.days) x.opn (fok1F x x.feet,-1) i 0 hi
 have hi64 : inI64 ((i : Int) + 1) := by simp only [inI64]; omega
 cases hok : (fok2F x (x.opn.take i)).1 with
 | false =>
  refine ⟨_,_,_,_,_,_,fcheck_2_no x false _ i,by repeat (first | exact trivial | refine ⟨by first | rfl | exact lt_true hi | exact hi64 | omega,?_⟩),?_⟩
  rw [hf]
  simp only [turnF,hok,Bool.false_and]
 | true =>
  have c := fwithin_con (x.opn.getD i 0) ((fok2F x (x.opn.take i)).2 + 1) x.chain.days
  have h1 : fok1F x x.feet = true := by
   cases h : fok1F x x.feet with
   | true => rfl
   | false =>
    unfold fok2F at hok
    rw [h,turns_and] at hok
    simp at hok
  have hd := (fok0_chain (fok1_ok0 h1)).days
  have hin := fturn_in (days := x.chain.days) (by omega) (x.opn.take i) (fok1F x x.feet,-1) (fun _ => ⟨(by decide : (-1 : Int) ≤ -1),(by decide : (-1 : Int) ≤ 30)⟩) hok
  have hin' : -1 ≤ (fok2F x (x.opn.take i)).2 ∧ (fok2F x (x.opn.take i)).2 ≤ 30 := hin
  have hl64 : inI64 ((fok2F x (x.opn.take i)).2 + 1) := i64_of (by omega) (by omega)
  refine ⟨_,_,_,_,_,_,fcheck_2_yes x true _ i (withinF (x.opn.getD i 0) ((fok2F x (x.opn.take i)).2 + 1) x.chain.days),by repeat (first | exact trivial | refine ⟨by first | rfl | exact c | exact lt_true hi | exact hi64 | exact hl64 | omega,?_⟩),?_⟩
  rw [hf]
  simp only [turnF,hok,Bool.true_and]
theorem fcheck_con {x : FBook} (hs : FSmall x) : CF 18 [fbookD x] (.int .i64 (fcheckF x)) := by
 unfold fcheckF fvalidF
 cases h : (fok2F x x.opn).1 with
 | false => exact contract_of_path (GF 78) fcheck_fn (fcheck_bad x _ _ _ _) ⟨fcheck_join x hs,fcheck_loop0 x hs,fcheck_loop2 x hs,by rw [h]; rfl,trivial⟩
 | true => exact contract_of_path (GF 78) fcheck_fn (fcheck_good x _ _ _ _) ⟨fcheck_join x hs,fcheck_loop0 x hs,fcheck_loop2 x hs,by rw [h]; rfl,trivial⟩
/-! ### What a book is -/
structure FValid (x : FBook) : Prop where
 chain : Valid x.chain
 feet : x.feet.length = x.chain.secs.length
 new : 0 ≤ x.new ∧ x.new ≤ 200
 opnl : x.opn.length ≤ 4
 stock : 0 ≤ x.stock ∧ x.stock ≤ 200
 make : 0 ≤ x.make ∧ x.make ≤ 9
 each : ∀ n ∈ x.feet,1 ≤ n ∧ n ≤ 30
 rises : (x.opn.foldl (turnF x.chain.days) (true,-1)).1 = true
theorem fvalid_iff {x : FBook} : fvalidF x = true ↔ FValid x := by
 unfold fvalidF fok2F
 rw [turns_and,Bool.and_eq_true,fok1_eq,Bool.and_eq_true]
 constructor
 ·rintro ⟨⟨h1,h2⟩,h3⟩
  have hc := fok0_chain h1
  unfold fok0F at h1
  simp only [Bool.and_eq_true,decide_eq_true_eq,within_iff] at h1
  exact ⟨hc,by omega,h1.1.1.1.2,h1.1.1.2,h1.1.2,h1.2,fun n hn => within_iff.1 (List.all_eq_true.1 h2 n hn),h3⟩
 ·intro h
  refine ⟨⟨?_,List.all_eq_true.2 fun n hn => within_iff.2 (h.each n hn)⟩,h.rises⟩
  unfold fok0F
  simp only [Bool.and_eq_true,decide_eq_true_eq,within_iff]
  refine ⟨⟨⟨⟨⟨by rw [check_zero]; exact valid_iff.2 h.chain,by have := h.feet; omega⟩,h.new⟩,h.opnl⟩,h.stock⟩,h.make⟩
theorem rises_mem {days : Int} : ∀ (l : List Int) (n : Int),(l.foldl (turnF days) (true,n)).1 = true → (∀ d ∈ l,n < d ∧ d ≤ days) ∧ l.Pairwise (· < ·)
 | [],n,_ => ⟨fun d hd => (by cases hd),List.Pairwise.nil⟩
 | t :: l,n,h => by
  simp only [List.foldl_cons,turnF,Bool.true_and] at h
  rw [turns_and,Bool.and_eq_true,within_iff] at h
  obtain ⟨h1,h2⟩ := rises_mem l t h.2
  refine ⟨fun d hd => ?_,List.pairwise_cons.2 ⟨fun d hd => (h1 d hd).1,h2⟩⟩
  rcases List.mem_cons.1 hd with rfl | hd
  ·omega
  ·have := h1 d hd
   omega
theorem FValid.opn {x : FBook} (h : FValid x) : (∀ d ∈ x.opn,0 ≤ d ∧ d ≤ x.chain.days) ∧ x.opn.Pairwise (· < ·) := by
 obtain ⟨h1,h2⟩ := rises_mem x.opn (-1) h.rises
 exact ⟨fun d hd => by have := h1 d hd; omega,h2⟩
theorem FValid.inn {x : FBook} (h : FValid x) : FIn x := by
 have hc := h.chain
 have hsec := hc.secs
 have hd := hc.days
 have hf := h.feet
 exact ⟨by omega,by omega,by have := hc.turns; omega,fun n hn => by have := h.each n hn; omega,by have := h.new; omega,by have := h.opnl; omega,fun d hd => by have := h.opn.1 d hd; omega,by have := h.stock; omega,by have := h.make; omega⟩

/-! ### opened -/
theorem nil_fbk {R : Foot} {w : World} {x : FBook} {m : List (K2 × Bool)} {v : Value} (h : Rel R w (fopD x m) v) : Rel R w (fbkD x (.work m) [] []) v := by
 obtain ⟨vs,hv,h⟩ := h
 have hlen : (fbkC x (.map (.work m)) (.sl false (.list .int) []) (.sl false .int [])).length = vs.toList.length := by have := All2.length h; exact this
 refine ⟨vs,hv,All2.of_get hlen fun i d u hd hu => ?_⟩
 have hi : i < 13 := (List.getElem?_eq_some_iff.1 hd).1
 by_cases h1 : i < 11
 ·have hd' : (fbkC x (.map (.work m)) .nil .nil)[i]? = some d := by
   match i,h1,hd with
   | 0,_,hd => exact hd
   | 1,_,hd => exact hd
   | 2,_,hd => exact hd
   | 3,_,hd => exact hd
   | 4,_,hd => exact hd
   | 5,_,hd => exact hd
   | 6,_,hd => exact hd
   | 7,_,hd => exact hd
   | 8,_,hd => exact hd
   | 9,_,hd => exact hd
   | 10,_,hd => exact hd
   | n + 11,h1,_ => omega
  obtain ⟨u',hu',hr⟩ := All2.get h i d hd'
  rw [hu] at hu'
  cases hu'
  exact hr
 ·have h2 : i = 11 ∨ i = 12 := by omega
  rcases h2 with rfl | rfl
  ·cases hd
   obtain ⟨u',hu',hr⟩ := All2.get h 11 .nil rfl
   rw [hu] at hu'
   cases hu'
   have hr : u = .slice none 0 0 := hr
   rw [hr]
   exact sl_nil _ _ _ _ _
  ·cases hd
   obtain ⟨u',hu',hr⟩ := All2.get h 12 .nil rfl
   rw [hu] at hu'
   cases hu'
   have hr : u = .slice none 0 0 := hr
   rw [hr]
   exact sl_nil _ _ _ _ _
theorem Contract.ofOp {f : FuncId} {x : FBook} {m : List (K2 × Bool)} {args : List D} {r : D} (h : CF f (fbkD x (.work m) [] [] :: args) r) : CF f (fopD x m :: args) r :=
 h.toArgs fun R w vs hr => by
  obtain ⟨v,l,rfl,h1,h2⟩ := all2_cons hr
  exact ⟨nil_fbk h1,h2⟩
theorem plain33 : Cfg.plain (MF 33) := ⟨fun _ h => h,fun _ h => h,rfl⟩
theorem opened_con' {x : FBook} (hf : x.feet.length ≤ 1000) (ho : x.opn.length ≤ 1000) : CF 64 [fbookD x] (fopD x (worksF x)) := by
 refine contract_of_wp (C := MF 33) typesF_ok rfl (fun _ h => h) (fun _ h => h) rfl rfl fo_fn ?_
 have hcode : body Tryz.f64 = .seq (Code.at [0] (body Tryz.f64)) (.seq (Code.at [1,0] (body Tryz.f64)) (.seq (.seq (Code.at [1,1,0,0] (body Tryz.f64)) (Code.at [1,1,0,1] (body Tryz.f64))) (.seq (Code.at [1,1,1,0] (body Tryz.f64)) .ret))) := by kernel_rfl
 rw [hcode]
 have hloop : LF 33 (Code.at [1,1,0,1] (body Tryz.f64)) (foS x (worksO x 0) 0) .normal (foS x (worksF x) x.opn.length) := by
  refine LF.each (id := 0) (c := Code.at [1,1,0,1,0,0] (body Tryz.f64)) (by kernel_rfl) x.opn.length (fun i => foS x (worksO x i) i) (fun i hi => ?_) ⟨_,_,_,_,_,_,_,fo_end x _ _,⟨lt_false,trivial⟩,.inl ⟨rfl,rfl⟩,rfl⟩
  refine ⟨_,_,_,_,_,_,fo_on x (worksO x i) i (worksO x (i + 1)),⟨lt_true hi,⟨by omega,by omega⟩,by omega,?_,i64_of (by omega) (by omega),trivial⟩,rfl⟩
  refine LF.each (id := 2) (c := Code.at [1,1,0,1,0,0,1,1,0,0,1,1,0,0] (body Tryz.f64)) (by kernel_rfl) x.feet.length (fun j => foT x (worksS (worksO x i) (x.opn.getD i 0) j) i (x.opn.getD i 0) j) (fun j hj => ?_) ⟨_,_,_,_,_,_,_,fo_out x _ i _ _,⟨lt_false,trivial⟩,.inl ⟨rfl,rfl⟩,rfl⟩
  exact ⟨_,_,_,_,_,_,fo_in x _ i _ j,⟨lt_true hj,plain33,i64_of (by omega) (by omega),trivial⟩,rfl⟩
 refine WpL.seq (WpL.path (GF 33) (fo_0 x) trivial ?_)
 refine WpL.seq (WpL.path (GF 33) (fo_1 x) ⟨plain33,by omega,plain33,trivial⟩ ?_)
 refine WpL.seq (WpL.seq (WpL.path (GF 33) (fo_2 x) trivial ?_))
 have hl2 : WpL PRG (MF 33) (Code.at [1,1,0,1] (body Tryz.f64)) (foS x (worksO x 0) 0) (fun e L' => e = .normal ∧ L' = foS x (worksF x) x.opn.length) := WpL.same (C := mk0 globF 33) (C' := MF 33) rfl rfl rfl rfl rfl rfl rfl rfl (fun _ _ => trivial) (fun _ => rfl) hloop.wp
 refine hl2.mono fun e L' he => ?_
 obtain ⟨rfl,rfl⟩ := he
 show WpL _ _ _ _ _
 refine WpL.seq (WpL.tell (fun _ h => h) (j := 8) (m := .work (worksF x)) rfl (WpL.path (GF 33) (fo_3 x (worksF x) x.opn.length) trivial ?_))
 show WpL _ _ _ _ _
 exact WpL.path (GF 33) (dec := []) (orc := []) (lorc := []) (ks := [.tmp 2,.box 2]) (ps := []) (e := .ret) (L' := foE x (worksF x)) (by kernel_rfl) trivial ⟨fun id h => (by cases h),[],by kernel_rfl,fun p hp => by cases hp⟩
end Go.Di



namespace Go.Di
open Proofs
theorem rbef_fn : FnOk PRG (MF 24) 84 (body Tryz.f84) [.tmp 4] := by refine ⟨Tryz.f84,?_,?_,?_,?_,?_⟩ <;> kernel_rfl
theorem rpl_fn : FnOk PRG (MF 45) 50 (body Tryz.f50) [.tmp 4] := by refine ⟨Tryz.f50,?_,?_,?_,?_,?_⟩ <;> kernel_rfl
theorem rft_fn : FnOk PRG (MF 25) 74 (body Tryz.f74) [.tmp 4] := by refine ⟨Tryz.f74,?_,?_,?_,?_,?_⟩ <;> kernel_rfl
theorem rsh_fn : FnOk PRG (MF 31) 75 (body Tryz.f75) [.tmp 4] := by refine ⟨Tryz.f75,?_,?_,?_,?_,?_⟩ <;> kernel_rfl
theorem rFt_fn : FnOk PRG (MF 19) 37 (body Tryz.f37) [.tmp 4,.tmp 5] := by refine ⟨Tryz.f37,?_,?_,?_,?_,?_⟩ <;> kernel_rfl
theorem rSh_fn : FnOk PRG (MF 24) 38 (body Tryz.f38) [.tmp 4,.tmp 5] := by refine ⟨Tryz.f38,?_,?_,?_,?_,?_⟩ <;> kernel_rfl
theorem rck_fn : FnOk PRG (MF 67) 19 (body Tryz.f19) [.tmp 2] := by refine ⟨Tryz.f19,?_,?_,?_,?_,?_⟩ <;> kernel_rfl
theorem oFor_fn : FnOk PRG (MF 16) 6 (body Tryz.f6) [.cell 2 28] := by refine ⟨Tryz.f6,?_,?_,?_,?_,?_⟩ <;> kernel_rfl
theorem oWk_fn : FnOk PRG (MF 7) 7 (body Tryz.f7) [.tmp 2] := by refine ⟨Tryz.f7,?_,?_,?_,?_,?_⟩ <;> kernel_rfl
theorem kFor_fn : FnOk PRG (MF 45) 9 (body Tryz.f9) [.tmp 4] := by refine ⟨Tryz.f9,?_,?_,?_,?_,?_⟩ <;> kernel_rfl
theorem kWk_fn : FnOk PRG (MF 31) 10 (body Tryz.f10) [.tmp 4] := by refine ⟨Tryz.f10,?_,?_,?_,?_,?_⟩ <;> kernel_rfl
theorem lfe_fn : FnOk PRG (MF 53) 12 (body Tryz.f12) [.tmp 8] := by refine ⟨Tryz.f12,?_,?_,?_,?_,?_⟩ <;> kernel_rfl
theorem lFe_fn : FnOk PRG (MF 29) 4 (body Tryz.f4) [.tmp 4] := by refine ⟨Tryz.f4,?_,?_,?_,?_,?_⟩ <;> kernel_rfl
def rpl_S0 (x : FBook) (plan : List Work) (i : Nat) : List (Key × Val) :=
 [(.tmp 1,.d (D.sl false E.work plan)),
  (.tmp 2,.d (D.ptr 2 0)),
  (.tmp 5,.d (.int .i64 i)),
  (.box 2,.bx (some (Box.mk false (cellsOf (fbookD x)))))]
def rpl_K0 : List Key := [.tmp 1,.tmp 2,.tmp 5,.box 2]
def rft_S0 (x : FBook) (plan : List Work) (n : Int) (i : Nat) : List (Key × Val) :=
 [(.tmp 1,.d (D.sl false E.work plan)),
  (.tmp 2,.d (D.ptr 2 0)),
  (.tmp 5,.d (.int .i64 n)),
  (.tmp 6,.d (.int .i64 i)),
  (.box 2,.bx (some (Box.mk false (cellsOf (fbookD x)))))]
def rft_K0 : List Key := [.tmp 1,.tmp 2,.tmp 5,.tmp 6,.box 2]
def rsh_S0 (x : FBook) (plan : List Work) (i : Nat) : List (Key × Val) :=
 [(.tmp 1,.d (D.sl false E.work plan)),
  (.tmp 2,.d (D.ptr 2 0)),
  (.tmp 5,.d (.int .i64 i)),
  (.box 2,.bx (some (Box.mk false (cellsOf (fbookD x)))))]
def rsh_K0 : List Key := [.tmp 1,.tmp 2,.tmp 5,.box 2]
def rck_R1 (x : FBook)  : List (Key × Val) :=
 [(.tmp 1,.d (D.ptr 1 0)),
  (.box 1,.bx (some (Box.mk false (cellsOf (fbookD x)))))]
def rck_RK1 : List Key := [.tmp 1,.box 1]
def rck_RO1 : List Key := [.tmp 1,.tmp 3,.box 1]
def rck_RS1 (x : FBook)  (ok : Bool) : List (Key × Val) :=
 [(.tmp 1,.d (D.ptr 1 0)),
  (.tmp 3,.d (.bool ok)),
  (.box 1,.bx (some (Box.mk false (cellsOf (fbookD x)))))]
def kWk_S0 (plan : List Work) (ok : Bool) (i : Nat) : List (Key × Val) :=
 [(.tmp 0,.d (D.sl false E.work plan)),
  (.tmp 1,.d (D.sl false E.work plan)),
  (.tmp 5,.d (.bool ok)),
  (.tmp 6,.d (.int .i64 i))]
def kWk_K0 : List Key := [.tmp 0,.tmp 1,.tmp 5,.tmp 6]
def rck_S0 (x : FBook) (ok : Bool) (i : Nat) : List (Key × Val) :=
 [(.tmp 1,.d (D.ptr 1 0)),
  (.tmp 3,.d (.bool ok)),
  (.tmp 4,.d (.int .i64 i)),
  (.box 1,.bx (some (Box.mk false (cellsOf (fbookD x)))))]
def rck_K0 : List Key := [.tmp 1,.tmp 3,.tmp 4,.box 1]
def rpl_T0_at (x : FBook) (plan : List Work) (i : Nat) (a : Int) : List (Key × Val) :=
 [(.tmp 1,.d (D.sl false E.work plan)),(.tmp 2,.d (D.ptr 2 0)),(.tmp 5,.d (D.int .i64 (i : Int))),(.box 2,.bx (some (Box.mk false (cellsOf (fbookD x))))),(.tmp 4,.d (D.bool false))]
def rpl_T0_out (x : FBook) (plan : List Work) (i : Nat) (a : Int) : List (Key × Val) :=
 [(.tmp 1,.d (D.sl false E.work plan)),(.tmp 2,.d (D.ptr 2 0)),(.tmp 5,.d (D.int .i64 (i : Int))),(.box 2,.bx (some (Box.mk false (cellsOf (fbookD x))))),(.tmp 4,.d (D.bool false))]
def rpl_T0_bad (x : FBook) (plan : List Work) (i : Nat) (a : Int) : List (Key × Val) :=
 [(.tmp 1,.d (D.sl false E.work plan)),(.tmp 2,.d (D.ptr 2 0)),(.tmp 5,.d (D.int .i64 (i : Int))),(.box 2,.bx (some (Box.mk false (cellsOf (fbookD x))))),(.tmp 4,.d (D.bool false))]
def rsh_T0_hit (x : FBook) (plan : List Work) (i : Nat) (v : Int) : List (Key × Val) :=
 [(.tmp 1,.d (D.sl false E.work plan)),(.tmp 2,.d (D.ptr 2 0)),(.tmp 5,.d (D.int .i64 (i : Int))),(.box 2,.bx (some (Box.mk false (cellsOf (fbookD x))))),(.tmp 4,.d (D.int .i64 (i : Int)))]
theorem rpl_0_at (x : FBook) (plan : List Work) (i : Nat) (a : Int) :
  runK (MF 45) [(10,true),(23,true)] [(21,.int .i64 a)] [] (Code.at [1,0,1,0,0] (body Tryz.f50)) (rpl_S0 x plan i) [.tmp 1,.tmp 2,.tmp 5,.box 2,.tmp 4] =
   some ([decide ((i : Int) < (List.length plan : Int)) = true,(0 : Int) ≤ (i : Int) ∧ (i : Int) < (List.length plan : Int),0 + 2 ≤ 2,0 + 0 + 1 ≤ 2,CF 78 [D.sl false E.int (FBook.opn x),D.int .i64 (Work.d (List.getD plan (i) work0))] (D.int .i64 a),decide (a < (0 : Int)) = true,decide (a < (0 : Int)) = true,decide (a < (0 : Int)) = true,decide (a < (0 : Int)) = true,decide (a < (0 : Int)) = true,decide (a < (0 : Int)) = true,decide (a < (0 : Int)) = true,decide (a < (0 : Int)) = true,decide (a < (0 : Int)) = true],Ex.ret,rpl_T0_at x plan i a) := by kernel_rfl
theorem rpl_0_out (x : FBook) (plan : List Work) (i : Nat) (a : Int) :
  runK (MF 45) [(10,true),(23,false)] [(21,.int .i64 a),(30,.bool false)] [] (Code.at [1,0,1,0,0] (body Tryz.f50)) (rpl_S0 x plan i) [.tmp 1,.tmp 2,.tmp 5,.box 2,.tmp 4] =
   some ([decide ((i : Int) < (List.length plan : Int)) = true,(0 : Int) ≤ (i : Int) ∧ (i : Int) < (List.length plan : Int),0 + 2 ≤ 2,0 + 0 + 1 ≤ 2,CF 78 [D.sl false E.int (FBook.opn x),D.int .i64 (Work.d (List.getD plan (i) work0))] (D.int .i64 a),decide (a < (0 : Int)) = false,decide (a < (0 : Int)) = false,0 + 1 + 1 ≤ 2,decide (a < (0 : Int)) = false,decide (a < (0 : Int)) = false,decide (a < (0 : Int)) = false,decide (a < (0 : Int)) = false,inI64 ((List.length (FBook.feet x) : Int) - (1 : Int)),decide (a < (0 : Int)) = false,CF 51 [D.int .i64 (Work.s (List.getD plan (i) work0)),D.int .i64 0,D.int .i64 ((List.length (FBook.feet x) : Int) - (1 : Int))] (D.bool false),decide (a < (0 : Int)) = false,decide (a < (0 : Int)) = false],Ex.ret,rpl_T0_out x plan i a) := by kernel_rfl
theorem rpl_0_one (x : FBook) (plan : List Work) (i : Nat) (a : Int) :
  runK (MF 45) [(10,true),(23,false),(35,false)] [(21,.int .i64 a),(30,.bool true)] [] (Code.at [1,0,1,0,0] (body Tryz.f50)) (rpl_S0 x plan i) rpl_K0 =
   some ([decide ((i : Int) < (List.length plan : Int)) = true,(0 : Int) ≤ (i : Int) ∧ (i : Int) < (List.length plan : Int),0 + 2 ≤ 2,0 + 0 + 1 ≤ 2,CF 78 [D.sl false E.int (FBook.opn x),D.int .i64 (Work.d (List.getD plan (i) work0))] (D.int .i64 a),decide (a < (0 : Int)) = false,decide (a < (0 : Int)) = false,0 + 1 + 1 ≤ 2,decide (a < (0 : Int)) = false,decide (a < (0 : Int)) = false,decide (a < (0 : Int)) = false,decide (a < (0 : Int)) = false,inI64 ((List.length (FBook.feet x) : Int) - (1 : Int)),decide (a < (0 : Int)) = false,CF 51 [D.int .i64 (Work.s (List.getD plan (i) work0)),D.int .i64 0,D.int .i64 ((List.length (FBook.feet x) : Int) - (1 : Int))] (D.bool true),decide (a < (0 : Int)) = false,decide (a < (0 : Int)) = false,decide ((i : Int) > (0 : Int)) = false,decide ((i : Int) > (0 : Int)) = false,decide ((i : Int) > (0 : Int)) = false,decide ((i : Int) > (0 : Int)) = false,decide ((i : Int) > (0 : Int)) = false,decide ((i : Int) > (0 : Int)) = false,decide ((i : Int) > (0 : Int)) = false,decide ((i : Int) > (0 : Int)) = false,decide ((i : Int) > (0 : Int)) = false,inI64 ((i : Int) + (1 : Int))],Ex.normal,rpl_S0 x plan (i + 1)) := by kernel_rfl
theorem rpl_0_bad (x : FBook) (plan : List Work) (i : Nat) (a : Int) :
  runK (MF 45) [(10,true),(23,false),(35,true)] [(21,.int .i64 a),(30,.bool true),(42,.bool false)] [] (Code.at [1,0,1,0,0] (body Tryz.f50)) (rpl_S0 x plan i) [.tmp 1,.tmp 2,.tmp 5,.box 2,.tmp 4] =
   some ([decide ((i : Int) < (List.length plan : Int)) = true,(0 : Int) ≤ (i : Int) ∧ (i : Int) < (List.length plan : Int),0 + 2 ≤ 2,0 + 0 + 1 ≤ 2,CF 78 [D.sl false E.int (FBook.opn x),D.int .i64 (Work.d (List.getD plan (i) work0))] (D.int .i64 a),decide (a < (0 : Int)) = false,decide (a < (0 : Int)) = false,0 + 1 + 1 ≤ 2,decide (a < (0 : Int)) = false,decide (a < (0 : Int)) = false,decide (a < (0 : Int)) = false,decide (a < (0 : Int)) = false,inI64 ((List.length (FBook.feet x) : Int) - (1 : Int)),decide (a < (0 : Int)) = false,CF 51 [D.int .i64 (Work.s (List.getD plan (i) work0)),D.int .i64 0,D.int .i64 ((List.length (FBook.feet x) : Int) - (1 : Int))] (D.bool true),decide (a < (0 : Int)) = false,decide (a < (0 : Int)) = false,decide ((i : Int) > (0 : Int)) = true,decide ((i : Int) > (0 : Int)) = true,decide ((i : Int) > (0 : Int)) = true,inI64 ((i : Int) - (1 : Int)),decide ((i : Int) > (0 : Int)) = true,(0 : Int) ≤ (i : Int) - (1 : Int) ∧ (i : Int) - (1 : Int) < (List.length plan : Int),decide ((i : Int) > (0 : Int)) = true,0 + 2 ≤ 2,decide ((i : Int) > (0 : Int)) = true,0 + 2 ≤ 2,decide ((i : Int) > (0 : Int)) = true,CF 84 [D.agg [D.int .i64 (Work.d (List.getD plan (Int.toNat ((i : Int) - (1 : Int))) work0)),D.int .i64 (Work.s (List.getD plan (Int.toNat ((i : Int) - (1 : Int))) work0))],D.agg [D.int .i64 (Work.d (List.getD plan (i) work0)),D.int .i64 (Work.s (List.getD plan (i) work0))]] (D.bool false),decide ((i : Int) > (0 : Int)) = true,decide ((i : Int) > (0 : Int)) = true],Ex.ret,rpl_T0_bad x plan i a) := by kernel_rfl
theorem rpl_0_on (x : FBook) (plan : List Work) (i : Nat) (a : Int) :
  runK (MF 45) [(10,true),(23,false),(35,true)] [(21,.int .i64 a),(30,.bool true),(42,.bool true)] [] (Code.at [1,0,1,0,0] (body Tryz.f50)) (rpl_S0 x plan i) rpl_K0 =
   some ([decide ((i : Int) < (List.length plan : Int)) = true,(0 : Int) ≤ (i : Int) ∧ (i : Int) < (List.length plan : Int),0 + 2 ≤ 2,0 + 0 + 1 ≤ 2,CF 78 [D.sl false E.int (FBook.opn x),D.int .i64 (Work.d (List.getD plan (i) work0))] (D.int .i64 a),decide (a < (0 : Int)) = false,decide (a < (0 : Int)) = false,0 + 1 + 1 ≤ 2,decide (a < (0 : Int)) = false,decide (a < (0 : Int)) = false,decide (a < (0 : Int)) = false,decide (a < (0 : Int)) = false,inI64 ((List.length (FBook.feet x) : Int) - (1 : Int)),decide (a < (0 : Int)) = false,CF 51 [D.int .i64 (Work.s (List.getD plan (i) work0)),D.int .i64 0,D.int .i64 ((List.length (FBook.feet x) : Int) - (1 : Int))] (D.bool true),decide (a < (0 : Int)) = false,decide (a < (0 : Int)) = false,decide ((i : Int) > (0 : Int)) = true,decide ((i : Int) > (0 : Int)) = true,decide ((i : Int) > (0 : Int)) = true,inI64 ((i : Int) - (1 : Int)),decide ((i : Int) > (0 : Int)) = true,(0 : Int) ≤ (i : Int) - (1 : Int) ∧ (i : Int) - (1 : Int) < (List.length plan : Int),decide ((i : Int) > (0 : Int)) = true,0 + 2 ≤ 2,decide ((i : Int) > (0 : Int)) = true,0 + 2 ≤ 2,decide ((i : Int) > (0 : Int)) = true,CF 84 [D.agg [D.int .i64 (Work.d (List.getD plan (Int.toNat ((i : Int) - (1 : Int))) work0)),D.int .i64 (Work.s (List.getD plan (Int.toNat ((i : Int) - (1 : Int))) work0))],D.agg [D.int .i64 (Work.d (List.getD plan (i) work0)),D.int .i64 (Work.s (List.getD plan (i) work0))]] (D.bool true),decide ((i : Int) > (0 : Int)) = true,decide ((i : Int) > (0 : Int)) = true,inI64 ((i : Int) + (1 : Int))],Ex.normal,rpl_S0 x plan (i + 1)) := by kernel_rfl
theorem rpl_0_end (x : FBook) (plan : List Work) (i : Nat) :
  runK (MF 45) [(10,false)] [] [] (Code.at [1,0,1,0,0] (body Tryz.f50)) (rpl_S0 x plan i) rpl_K0 =
   some ([decide ((i : Int) < (List.length plan : Int)) = false],Ex.exit 0,rpl_S0 x plan i) := by kernel_rfl
theorem rft_0_on (x : FBook) (plan : List Work) (n : Int) (i : Nat) :
  runK (MF 25) [(10,true)] [] [] (Code.at [1,1,0,1,0,0] (body Tryz.f74)) (rft_S0 x plan n i) rft_K0 =
   some ([decide ((i : Int) < (List.length plan : Int)) = true,(0 : Int) ≤ (i : Int) ∧ (i : Int) < (List.length plan : Int),0 + 1 + 1 ≤ 2,(0 : Int) ≤ Work.s (List.getD plan (i) work0) ∧ Work.s (List.getD plan (i) work0) < (List.length (FBook.feet x) : Int),0 + 1 ≤ 1,inI64 (n + List.getD (FBook.feet x) (Int.toNat (Work.s (List.getD plan (i) work0))) (0 : Int)),inI64 ((i : Int) + (1 : Int))],Ex.normal,rft_S0 x plan (n + x.feet.getD ((plan.getD i work0).s).toNat 0) (i + 1)) := by kernel_rfl
theorem rft_0_end (x : FBook) (plan : List Work) (n : Int) (i : Nat) :
  runK (MF 25) [(10,false)] [] [] (Code.at [1,1,0,1,0,0] (body Tryz.f74)) (rft_S0 x plan n i) rft_K0 =
   some ([decide ((i : Int) < (List.length plan : Int)) = false],Ex.exit 0,rft_S0 x plan n i) := by kernel_rfl
theorem rsh_0_no (x : FBook) (plan : List Work) (i : Nat) (v : Int) :
  runK (MF 31) [(9,true),(29,false)] [(17,.int .i64 v)] [] (Code.at [1,0,1,0,0] (body Tryz.f75)) (rsh_S0 x plan i) rsh_K0 =
   some ([decide ((i : Int) < (List.length plan : Int)) = true,inI64 ((i : Int) + (1 : Int)),(0 : Int) ≤ (0 : Int) ∧ (0 : Int) ≤ (i : Int) + (1 : Int) ∧ (i : Int) + (1 : Int) ≤ (List.length plan : Int),CF 74 [fbookD x,D.sl false E.work (List.drop 0 (List.take (Int.toNat ((i : Int) + (1 : Int))) plan))] (D.int .i64 v),(0 : Int) ≤ (i : Int) ∧ (i : Int) < (List.length plan : Int),0 + 0 + 1 ≤ 2,inI64 (FBook.make x * Work.d (List.getD plan (i) work0)),inI64 (FBook.stock x + FBook.make x * Work.d (List.getD plan (i) work0)),decide (v > FBook.stock x + FBook.make x * Work.d (List.getD plan (i) work0)) = false,inI64 ((i : Int) + (1 : Int))],Ex.normal,rsh_S0 x plan (i + 1)) := by kernel_rfl
theorem rsh_0_hit (x : FBook) (plan : List Work) (i : Nat) (v : Int) :
  runK (MF 31) [(9,true),(29,true)] [(17,.int .i64 v)] [] (Code.at [1,0,1,0,0] (body Tryz.f75)) (rsh_S0 x plan i) [.tmp 1,.tmp 2,.tmp 5,.box 2,.tmp 4] =
   some ([decide ((i : Int) < (List.length plan : Int)) = true,inI64 ((i : Int) + (1 : Int)),(0 : Int) ≤ (0 : Int) ∧ (0 : Int) ≤ (i : Int) + (1 : Int) ∧ (i : Int) + (1 : Int) ≤ (List.length plan : Int),CF 74 [fbookD x,D.sl false E.work (List.drop 0 (List.take (Int.toNat ((i : Int) + (1 : Int))) plan))] (D.int .i64 v),(0 : Int) ≤ (i : Int) ∧ (i : Int) < (List.length plan : Int),0 + 0 + 1 ≤ 2,inI64 (FBook.make x * Work.d (List.getD plan (i) work0)),inI64 (FBook.stock x + FBook.make x * Work.d (List.getD plan (i) work0)),decide (v > FBook.stock x + FBook.make x * Work.d (List.getD plan (i) work0)) = true],Ex.ret,rsh_T0_hit x plan i v) := by kernel_rfl
theorem rsh_0_end (x : FBook) (plan : List Work) (i : Nat) :
  runK (MF 31) [(9,false)] [] [] (Code.at [1,0,1,0,0] (body Tryz.f75)) (rsh_S0 x plan i) rsh_K0 =
   some ([decide ((i : Int) < (List.length plan : Int)) = false],Ex.exit 0,rsh_S0 x plan i) := by kernel_rfl
theorem rck_R1_a (x : FBook) :
  runK (MF 67) [(9,false)] [(7,.int .i64 (checkF x.chain)),(22,.bool (withinF x.new 0 200)),(37,.bool (climbsF x.opn (x.chain.days + 1))),(42,.bool (withinF x.stock 0 200)),(47,.bool (withinF x.make 0 9))] [] (Code.at [1,0] (body Tryz.f19)) (rck_R1 x ) rck_RO1 =
   some ([CF 56 [bookD x.chain] (D.int .i64 (checkF (FBook.chain x))),(checkF (FBook.chain x) == (0 : Int)) = false,(checkF (FBook.chain x) == (0 : Int)) = false,(checkF (FBook.chain x) == (0 : Int)) = false,(checkF (FBook.chain x) == (0 : Int)) = false,(checkF (FBook.chain x) == (0 : Int)) = false,(checkF (FBook.chain x) == (0 : Int)) = false,(checkF (FBook.chain x) == (0 : Int)) = false,(checkF (FBook.chain x) == (0 : Int)) = false,(checkF (FBook.chain x) == (0 : Int)) = false],Ex.normal,rck_RS1 x false) := by kernel_rfl
theorem rck_R1_b (x : FBook) :
  runK (MF 67) [(9,true),(19,false)] [(7,.int .i64 (checkF x.chain)),(22,.bool (withinF x.new 0 200)),(37,.bool (climbsF x.opn (x.chain.days + 1))),(42,.bool (withinF x.stock 0 200)),(47,.bool (withinF x.make 0 9))] [] (Code.at [1,0] (body Tryz.f19)) (rck_R1 x ) rck_RO1 =
   some ([CF 56 [bookD x.chain] (D.int .i64 (checkF (FBook.chain x))),(checkF (FBook.chain x) == (0 : Int)) = true,(checkF (FBook.chain x) == (0 : Int)) = true,(checkF (FBook.chain x) == (0 : Int)) = true,(checkF (FBook.chain x) == (0 : Int)) = true,(checkF (FBook.chain x) == (0 : Int)) = true,(checkF (FBook.chain x) == (0 : Int)) = true,(checkF (FBook.chain x) == (0 : Int)) = true,(checkF (FBook.chain x) == (0 : Int)) = true,(checkF (FBook.chain x) == (0 : Int)) = true,((List.length (FBook.feet x) : Int) == (List.length (Book.secs (FBook.chain x)) : Int)) = false,((List.length (FBook.feet x) : Int) == (List.length (Book.secs (FBook.chain x)) : Int)) = false,((List.length (FBook.feet x) : Int) == (List.length (Book.secs (FBook.chain x)) : Int)) = false,((List.length (FBook.feet x) : Int) == (List.length (Book.secs (FBook.chain x)) : Int)) = false],Ex.normal,rck_RS1 x false) := by kernel_rfl
theorem rck_R1_c (x : FBook) :
  runK (MF 67) [(9,true),(19,true),(24,false)] [(7,.int .i64 (checkF x.chain)),(22,.bool (withinF x.new 0 200)),(37,.bool (climbsF x.opn (x.chain.days + 1))),(42,.bool (withinF x.stock 0 200)),(47,.bool (withinF x.make 0 9))] [] (Code.at [1,0] (body Tryz.f19)) (rck_R1 x ) rck_RO1 =
   some ([CF 56 [bookD x.chain] (D.int .i64 (checkF (FBook.chain x))),(checkF (FBook.chain x) == (0 : Int)) = true,(checkF (FBook.chain x) == (0 : Int)) = true,(checkF (FBook.chain x) == (0 : Int)) = true,(checkF (FBook.chain x) == (0 : Int)) = true,(checkF (FBook.chain x) == (0 : Int)) = true,(checkF (FBook.chain x) == (0 : Int)) = true,(checkF (FBook.chain x) == (0 : Int)) = true,(checkF (FBook.chain x) == (0 : Int)) = true,(checkF (FBook.chain x) == (0 : Int)) = true,((List.length (FBook.feet x) : Int) == (List.length (Book.secs (FBook.chain x)) : Int)) = true,((List.length (FBook.feet x) : Int) == (List.length (Book.secs (FBook.chain x)) : Int)) = true,((List.length (FBook.feet x) : Int) == (List.length (Book.secs (FBook.chain x)) : Int)) = true,CF 51 [D.int .i64 (FBook.new x),D.int .i64 0,D.int .i64 200] (D.bool (withinF (FBook.new x) (0 : Int) (200 : Int))),((List.length (FBook.feet x) : Int) == (List.length (Book.secs (FBook.chain x)) : Int)) = true,withinF (FBook.new x) (0 : Int) (200 : Int) = false,withinF (FBook.new x) (0 : Int) (200 : Int) = false,withinF (FBook.new x) (0 : Int) (200 : Int) = false,withinF (FBook.new x) (0 : Int) (200 : Int) = false,withinF (FBook.new x) (0 : Int) (200 : Int) = false],Ex.normal,rck_RS1 x false) := by kernel_rfl
theorem rck_R1_d (x : FBook) :
  runK (MF 67) [(9,true),(19,true),(24,true),(30,false)] [(7,.int .i64 (checkF x.chain)),(22,.bool (withinF x.new 0 200)),(37,.bool (climbsF x.opn (x.chain.days + 1))),(42,.bool (withinF x.stock 0 200)),(47,.bool (withinF x.make 0 9))] [] (Code.at [1,0] (body Tryz.f19)) (rck_R1 x ) rck_RO1 =
   some ([CF 56 [bookD x.chain] (D.int .i64 (checkF (FBook.chain x))),(checkF (FBook.chain x) == (0 : Int)) = true,(checkF (FBook.chain x) == (0 : Int)) = true,(checkF (FBook.chain x) == (0 : Int)) = true,(checkF (FBook.chain x) == (0 : Int)) = true,(checkF (FBook.chain x) == (0 : Int)) = true,(checkF (FBook.chain x) == (0 : Int)) = true,(checkF (FBook.chain x) == (0 : Int)) = true,(checkF (FBook.chain x) == (0 : Int)) = true,(checkF (FBook.chain x) == (0 : Int)) = true,((List.length (FBook.feet x) : Int) == (List.length (Book.secs (FBook.chain x)) : Int)) = true,((List.length (FBook.feet x) : Int) == (List.length (Book.secs (FBook.chain x)) : Int)) = true,((List.length (FBook.feet x) : Int) == (List.length (Book.secs (FBook.chain x)) : Int)) = true,CF 51 [D.int .i64 (FBook.new x),D.int .i64 0,D.int .i64 200] (D.bool (withinF (FBook.new x) (0 : Int) (200 : Int))),((List.length (FBook.feet x) : Int) == (List.length (Book.secs (FBook.chain x)) : Int)) = true,withinF (FBook.new x) (0 : Int) (200 : Int) = true,withinF (FBook.new x) (0 : Int) (200 : Int) = true,withinF (FBook.new x) (0 : Int) (200 : Int) = true,withinF (FBook.new x) (0 : Int) (200 : Int) = true,withinF (FBook.new x) (0 : Int) (200 : Int) = true,decide ((List.length (FBook.opn x) : Int) ≤ (4 : Int)) = false,decide ((List.length (FBook.opn x) : Int) ≤ (4 : Int)) = false,decide ((List.length (FBook.opn x) : Int) ≤ (4 : Int)) = false,decide ((List.length (FBook.opn x) : Int) ≤ (4 : Int)) = false,decide ((List.length (FBook.opn x) : Int) ≤ (4 : Int)) = false,decide ((List.length (FBook.opn x) : Int) ≤ (4 : Int)) = false,decide ((List.length (FBook.opn x) : Int) ≤ (4 : Int)) = false,decide ((List.length (FBook.opn x) : Int) ≤ (4 : Int)) = false],Ex.normal,rck_RS1 x false) := by kernel_rfl
theorem rck_R1_e (x : FBook) :
  runK (MF 67) [(9,true),(19,true),(24,true),(30,true),(39,false)] [(7,.int .i64 (checkF x.chain)),(22,.bool (withinF x.new 0 200)),(37,.bool (climbsF x.opn (x.chain.days + 1))),(42,.bool (withinF x.stock 0 200)),(47,.bool (withinF x.make 0 9))] [] (Code.at [1,0] (body Tryz.f19)) (rck_R1 x ) rck_RO1 =
   some ([CF 56 [bookD x.chain] (D.int .i64 (checkF (FBook.chain x))),(checkF (FBook.chain x) == (0 : Int)) = true,(checkF (FBook.chain x) == (0 : Int)) = true,(checkF (FBook.chain x) == (0 : Int)) = true,(checkF (FBook.chain x) == (0 : Int)) = true,(checkF (FBook.chain x) == (0 : Int)) = true,(checkF (FBook.chain x) == (0 : Int)) = true,(checkF (FBook.chain x) == (0 : Int)) = true,(checkF (FBook.chain x) == (0 : Int)) = true,(checkF (FBook.chain x) == (0 : Int)) = true,((List.length (FBook.feet x) : Int) == (List.length (Book.secs (FBook.chain x)) : Int)) = true,((List.length (FBook.feet x) : Int) == (List.length (Book.secs (FBook.chain x)) : Int)) = true,((List.length (FBook.feet x) : Int) == (List.length (Book.secs (FBook.chain x)) : Int)) = true,CF 51 [D.int .i64 (FBook.new x),D.int .i64 0,D.int .i64 200] (D.bool (withinF (FBook.new x) (0 : Int) (200 : Int))),((List.length (FBook.feet x) : Int) == (List.length (Book.secs (FBook.chain x)) : Int)) = true,withinF (FBook.new x) (0 : Int) (200 : Int) = true,withinF (FBook.new x) (0 : Int) (200 : Int) = true,withinF (FBook.new x) (0 : Int) (200 : Int) = true,withinF (FBook.new x) (0 : Int) (200 : Int) = true,withinF (FBook.new x) (0 : Int) (200 : Int) = true,decide ((List.length (FBook.opn x) : Int) ≤ (4 : Int)) = true,decide ((List.length (FBook.opn x) : Int) ≤ (4 : Int)) = true,decide ((List.length (FBook.opn x) : Int) ≤ (4 : Int)) = true,decide ((List.length (FBook.opn x) : Int) ≤ (4 : Int)) = true,decide ((List.length (FBook.opn x) : Int) ≤ (4 : Int)) = true,decide ((List.length (FBook.opn x) : Int) ≤ (4 : Int)) = true,inI64 (Book.days (FBook.chain x) + (1 : Int)),decide ((List.length (FBook.opn x) : Int) ≤ (4 : Int)) = true,CF 57 [D.sl false E.int (FBook.opn x),D.int .i64 (Book.days (FBook.chain x) + (1 : Int))] (D.bool (climbsF (FBook.opn x) (Book.days (FBook.chain x) + (1 : Int)))),decide ((List.length (FBook.opn x) : Int) ≤ (4 : Int)) = true,climbsF (FBook.opn x) (Book.days (FBook.chain x) + (1 : Int)) = false,climbsF (FBook.opn x) (Book.days (FBook.chain x) + (1 : Int)) = false,climbsF (FBook.opn x) (Book.days (FBook.chain x) + (1 : Int)) = false,climbsF (FBook.opn x) (Book.days (FBook.chain x) + (1 : Int)) = false],Ex.normal,rck_RS1 x false) := by kernel_rfl
theorem rck_R1_f (x : FBook) :
  runK (MF 67) [(9,true),(19,true),(24,true),(30,true),(39,true),(44,false)] [(7,.int .i64 (checkF x.chain)),(22,.bool (withinF x.new 0 200)),(37,.bool (climbsF x.opn (x.chain.days + 1))),(42,.bool (withinF x.stock 0 200)),(47,.bool (withinF x.make 0 9))] [] (Code.at [1,0] (body Tryz.f19)) (rck_R1 x ) rck_RO1 =
   some ([CF 56 [bookD x.chain] (D.int .i64 (checkF (FBook.chain x))),(checkF (FBook.chain x) == (0 : Int)) = true,(checkF (FBook.chain x) == (0 : Int)) = true,(checkF (FBook.chain x) == (0 : Int)) = true,(checkF (FBook.chain x) == (0 : Int)) = true,(checkF (FBook.chain x) == (0 : Int)) = true,(checkF (FBook.chain x) == (0 : Int)) = true,(checkF (FBook.chain x) == (0 : Int)) = true,(checkF (FBook.chain x) == (0 : Int)) = true,(checkF (FBook.chain x) == (0 : Int)) = true,((List.length (FBook.feet x) : Int) == (List.length (Book.secs (FBook.chain x)) : Int)) = true,((List.length (FBook.feet x) : Int) == (List.length (Book.secs (FBook.chain x)) : Int)) = true,((List.length (FBook.feet x) : Int) == (List.length (Book.secs (FBook.chain x)) : Int)) = true,CF 51 [D.int .i64 (FBook.new x),D.int .i64 0,D.int .i64 200] (D.bool (withinF (FBook.new x) (0 : Int) (200 : Int))),((List.length (FBook.feet x) : Int) == (List.length (Book.secs (FBook.chain x)) : Int)) = true,withinF (FBook.new x) (0 : Int) (200 : Int) = true,withinF (FBook.new x) (0 : Int) (200 : Int) = true,withinF (FBook.new x) (0 : Int) (200 : Int) = true,withinF (FBook.new x) (0 : Int) (200 : Int) = true,withinF (FBook.new x) (0 : Int) (200 : Int) = true,decide ((List.length (FBook.opn x) : Int) ≤ (4 : Int)) = true,decide ((List.length (FBook.opn x) : Int) ≤ (4 : Int)) = true,decide ((List.length (FBook.opn x) : Int) ≤ (4 : Int)) = true,decide ((List.length (FBook.opn x) : Int) ≤ (4 : Int)) = true,decide ((List.length (FBook.opn x) : Int) ≤ (4 : Int)) = true,decide ((List.length (FBook.opn x) : Int) ≤ (4 : Int)) = true,inI64 (Book.days (FBook.chain x) + (1 : Int)),decide ((List.length (FBook.opn x) : Int) ≤ (4 : Int)) = true,CF 57 [D.sl false E.int (FBook.opn x),D.int .i64 (Book.days (FBook.chain x) + (1 : Int))] (D.bool (climbsF (FBook.opn x) (Book.days (FBook.chain x) + (1 : Int)))),decide ((List.length (FBook.opn x) : Int) ≤ (4 : Int)) = true,climbsF (FBook.opn x) (Book.days (FBook.chain x) + (1 : Int)) = true,climbsF (FBook.opn x) (Book.days (FBook.chain x) + (1 : Int)) = true,climbsF (FBook.opn x) (Book.days (FBook.chain x) + (1 : Int)) = true,CF 51 [D.int .i64 (FBook.stock x),D.int .i64 0,D.int .i64 200] (D.bool (withinF (FBook.stock x) (0 : Int) (200 : Int))),climbsF (FBook.opn x) (Book.days (FBook.chain x) + (1 : Int)) = true,withinF (FBook.stock x) (0 : Int) (200 : Int) = false,withinF (FBook.stock x) (0 : Int) (200 : Int) = false,withinF (FBook.stock x) (0 : Int) (200 : Int) = false,withinF (FBook.stock x) (0 : Int) (200 : Int) = false],Ex.normal,rck_RS1 x false) := by kernel_rfl
theorem rck_R1_g (x : FBook) :
  runK (MF 67) [(9,true),(19,true),(24,true),(30,true),(39,true),(44,true)] [(7,.int .i64 (checkF x.chain)),(22,.bool (withinF x.new 0 200)),(37,.bool (climbsF x.opn (x.chain.days + 1))),(42,.bool (withinF x.stock 0 200)),(47,.bool (withinF x.make 0 9))] [] (Code.at [1,0] (body Tryz.f19)) (rck_R1 x ) rck_RO1 =
   some ([CF 56 [bookD x.chain] (D.int .i64 (checkF (FBook.chain x))),(checkF (FBook.chain x) == (0 : Int)) = true,(checkF (FBook.chain x) == (0 : Int)) = true,(checkF (FBook.chain x) == (0 : Int)) = true,(checkF (FBook.chain x) == (0 : Int)) = true,(checkF (FBook.chain x) == (0 : Int)) = true,(checkF (FBook.chain x) == (0 : Int)) = true,(checkF (FBook.chain x) == (0 : Int)) = true,(checkF (FBook.chain x) == (0 : Int)) = true,(checkF (FBook.chain x) == (0 : Int)) = true,((List.length (FBook.feet x) : Int) == (List.length (Book.secs (FBook.chain x)) : Int)) = true,((List.length (FBook.feet x) : Int) == (List.length (Book.secs (FBook.chain x)) : Int)) = true,((List.length (FBook.feet x) : Int) == (List.length (Book.secs (FBook.chain x)) : Int)) = true,CF 51 [D.int .i64 (FBook.new x),D.int .i64 0,D.int .i64 200] (D.bool (withinF (FBook.new x) (0 : Int) (200 : Int))),((List.length (FBook.feet x) : Int) == (List.length (Book.secs (FBook.chain x)) : Int)) = true,withinF (FBook.new x) (0 : Int) (200 : Int) = true,withinF (FBook.new x) (0 : Int) (200 : Int) = true,withinF (FBook.new x) (0 : Int) (200 : Int) = true,withinF (FBook.new x) (0 : Int) (200 : Int) = true,withinF (FBook.new x) (0 : Int) (200 : Int) = true,decide ((List.length (FBook.opn x) : Int) ≤ (4 : Int)) = true,decide ((List.length (FBook.opn x) : Int) ≤ (4 : Int)) = true,decide ((List.length (FBook.opn x) : Int) ≤ (4 : Int)) = true,decide ((List.length (FBook.opn x) : Int) ≤ (4 : Int)) = true,decide ((List.length (FBook.opn x) : Int) ≤ (4 : Int)) = true,decide ((List.length (FBook.opn x) : Int) ≤ (4 : Int)) = true,inI64 (Book.days (FBook.chain x) + (1 : Int)),decide ((List.length (FBook.opn x) : Int) ≤ (4 : Int)) = true,CF 57 [D.sl false E.int (FBook.opn x),D.int .i64 (Book.days (FBook.chain x) + (1 : Int))] (D.bool (climbsF (FBook.opn x) (Book.days (FBook.chain x) + (1 : Int)))),decide ((List.length (FBook.opn x) : Int) ≤ (4 : Int)) = true,climbsF (FBook.opn x) (Book.days (FBook.chain x) + (1 : Int)) = true,climbsF (FBook.opn x) (Book.days (FBook.chain x) + (1 : Int)) = true,climbsF (FBook.opn x) (Book.days (FBook.chain x) + (1 : Int)) = true,CF 51 [D.int .i64 (FBook.stock x),D.int .i64 0,D.int .i64 200] (D.bool (withinF (FBook.stock x) (0 : Int) (200 : Int))),climbsF (FBook.opn x) (Book.days (FBook.chain x) + (1 : Int)) = true,withinF (FBook.stock x) (0 : Int) (200 : Int) = true,withinF (FBook.stock x) (0 : Int) (200 : Int) = true,withinF (FBook.stock x) (0 : Int) (200 : Int) = true,CF 51 [D.int .i64 (FBook.make x),D.int .i64 0,D.int .i64 9] (D.bool (withinF (FBook.make x) (0 : Int) (9 : Int))),withinF (FBook.stock x) (0 : Int) (200 : Int) = true],Ex.normal,rck_RS1 x (withinF x.make 0 9)) := by kernel_rfl
theorem rck_0_on (x : FBook) (ok : Bool) (i : Nat) (b : Bool) :
  runK (MF 67) [(50,true),(56,true)] [(64,.bool b)] [] (Code.at [1,1,0,1,0,0] (body Tryz.f19)) (rck_S0 x ok i) rck_K0 =
   some ([ok = true,ok = true,ok = true,ok = true,ok = true,ok = true,decide ((i : Int) < (List.length (FBook.feet x) : Int)) = true,(0 : Int) ≤ (i : Int) ∧ (i : Int) < (List.length (FBook.feet x) : Int),0 + 1 ≤ 1,CF 51 [D.int .i64 (List.getD (FBook.feet x) (i) (0 : Int)),D.int .i64 1,D.int .i64 30] (D.bool b),inI64 ((i : Int) + (1 : Int))],Ex.normal,rck_S0 x b (i + 1)) := by kernel_rfl
theorem rck_0_end (x : FBook) (ok : Bool) (i : Nat) :
  runK (MF 67) [(50,true),(56,false)] [] [] (Code.at [1,1,0,1,0,0] (body Tryz.f19)) (rck_S0 x ok i) rck_K0 =
   some ([ok = true,ok = true,ok = true,ok = true,ok = true,ok = true,decide ((i : Int) < (List.length (FBook.feet x) : Int)) = false],Ex.exit 0,rck_S0 x ok i) := by kernel_rfl
theorem rck_0_stop (x : FBook) (ok : Bool) (i : Nat) :
  runK (MF 67) [(50,false)] [] [] (Code.at [1,1,0,1,0,0] (body Tryz.f19)) (rck_S0 x ok i) rck_K0 =
   some ([ok = false,ok = false,ok = false,ok = false,ok = false,ok = false],Ex.exit 0,rck_S0 x ok i) := by kernel_rfl
theorem kWk_0_on (plan : List Work) (ok : Bool) (i : Nat) :
  runK (MF 31) [(13,true),(18,true)] [] [] (Code.at [1,1,0,1,0,0] (body Tryz.f10)) (kWk_S0 plan ok i) kWk_K0 =
   some ([ok = true,ok = true,ok = true,ok = true,ok = true,decide ((i : Int) < (List.length plan : Int)) = true,(0 : Int) ≤ (i : Int) ∧ (i : Int) < (List.length plan : Int),0 + 2 ≤ 2,(0 : Int) ≤ (i : Int) ∧ (i : Int) < (List.length plan : Int),0 + 2 ≤ 2,inI64 ((i : Int) + (1 : Int))],Ex.normal,[(.tmp 0,.d (D.sl false E.work plan)),(.tmp 1,.d (D.sl false E.work plan)),(.tmp 5,.d (D.bool (eqI [Work.d (List.getD plan (i) work0),Work.s (List.getD plan (i) work0)] [Work.d (List.getD plan (i) work0),Work.s (List.getD plan (i) work0)]))),(.tmp 6,.d (D.int .i64 ((i : Int) + (1 : Int))))]) := by kernel_rfl
theorem kWk_0_end (plan : List Work) (ok : Bool) (i : Nat) :
  runK (MF 31) [(13,true),(18,false)] [] [] (Code.at [1,1,0,1,0,0] (body Tryz.f10)) (kWk_S0 plan ok i) kWk_K0 =
   some ([ok = true,ok = true,ok = true,ok = true,ok = true,decide ((i : Int) < (List.length plan : Int)) = false],Ex.exit 0,[(.tmp 0,.d (D.sl false E.work plan)),(.tmp 1,.d (D.sl false E.work plan)),(.tmp 5,.d (D.bool ok)),(.tmp 6,.d (D.int .i64 (i : Int)))]) := by kernel_rfl
theorem rbef_lt (a b : Work) :
  callF (MF 24) [(10,true)] [] [] (body Tryz.f84) [.tmp 4] [wkD a,wkD b] =
   some ([0 + 0 + 1 ≤ 2,0 + 0 + 1 ≤ 2,decide (Work.d a < Work.d b) = true,decide (Work.d a < Work.d b) = true,decide (Work.d a < Work.d b) = true,decide (Work.d a < Work.d b) = true,decide (Work.d a < Work.d b) = true,decide (Work.d a < Work.d b) = true,decide (Work.d a < Work.d b) = true,decide (Work.d a < Work.d b) = true],D.bool true) := by kernel_rfl
theorem rbef_ne (a b : Work) :
  callF (MF 24) [(10,false),(16,false)] [] [] (body Tryz.f84) [.tmp 4] [wkD a,wkD b] =
   some ([0 + 0 + 1 ≤ 2,0 + 0 + 1 ≤ 2,decide (Work.d a < Work.d b) = false,decide (Work.d a < Work.d b) = false,0 + 0 + 1 ≤ 2,decide (Work.d a < Work.d b) = false,decide (Work.d a < Work.d b) = false,0 + 0 + 1 ≤ 2,decide (Work.d a < Work.d b) = false,decide (Work.d a < Work.d b) = false,(Work.d a == Work.d b) = false,(Work.d a == Work.d b) = false,(Work.d a == Work.d b) = false,(Work.d a == Work.d b) = false,(Work.d a == Work.d b) = false,decide (Work.d a < Work.d b) = false,(Work.d a == Work.d b) = false,decide (Work.d a < Work.d b) = false],D.bool false) := by kernel_rfl
theorem rbef_eq (a b : Work) :
  callF (MF 24) [(10,false),(16,true)] [] [] (body Tryz.f84) [.tmp 4] [wkD a,wkD b] =
   some ([0 + 0 + 1 ≤ 2,0 + 0 + 1 ≤ 2,decide (Work.d a < Work.d b) = false,decide (Work.d a < Work.d b) = false,0 + 0 + 1 ≤ 2,decide (Work.d a < Work.d b) = false,decide (Work.d a < Work.d b) = false,0 + 0 + 1 ≤ 2,decide (Work.d a < Work.d b) = false,decide (Work.d a < Work.d b) = false,(Work.d a == Work.d b) = true,(Work.d a == Work.d b) = true,0 + 1 + 1 ≤ 2,(Work.d a == Work.d b) = true,(Work.d a == Work.d b) = true,0 + 1 + 1 ≤ 2,(Work.d a == Work.d b) = true,decide (Work.d a < Work.d b) = false,(Work.d a == Work.d b) = true,decide (Work.d a < Work.d b) = false],D.bool (decide (Work.s a < Work.s b))) := by kernel_rfl
theorem rpl_yes (x : FBook) (plan : List Work) (i : Nat) :
  callF (MF 45) [] [] [(0,(rpl_K0,(.normal,rpl_S0 x plan i)))] (body Tryz.f50) [.tmp 4] [fbookD x,.sl false .work plan] =
   some ([LF 45 (Code.at [1,0,1] (body Tryz.f50)) [(.tmp 1,.d (D.sl false E.work plan)),(.tmp 2,.d (D.ptr 2 0)),(.tmp 5,.d (D.int .i64 0)),(.box 2,.bx (some (Box.mk false (cellsOf (fbookD x)))))] Ex.normal (rpl_S0 x plan i)],D.bool true) := by kernel_rfl
theorem rpl_nat (x : FBook) (plan : List Work) (i : Nat) (a : Int) :
  callF (MF 45) [] [] [(0,(rpl_K0,(.ret,rpl_T0_at x plan i a)))] (body Tryz.f50) [.tmp 4] [fbookD x,.sl false .work plan] =
   some ([LF 45 (Code.at [1,0,1] (body Tryz.f50)) [(.tmp 1,.d (D.sl false E.work plan)),(.tmp 2,.d (D.ptr 2 0)),(.tmp 5,.d (D.int .i64 0)),(.box 2,.bx (some (Box.mk false (cellsOf (fbookD x)))))] Ex.ret (rpl_T0_at x plan i a)],D.bool false) := by kernel_rfl
theorem rpl_nout (x : FBook) (plan : List Work) (i : Nat) (a : Int) :
  callF (MF 45) [] [] [(0,(rpl_K0,(.ret,rpl_T0_out x plan i a)))] (body Tryz.f50) [.tmp 4] [fbookD x,.sl false .work plan] =
   some ([LF 45 (Code.at [1,0,1] (body Tryz.f50)) [(.tmp 1,.d (D.sl false E.work plan)),(.tmp 2,.d (D.ptr 2 0)),(.tmp 5,.d (D.int .i64 0)),(.box 2,.bx (some (Box.mk false (cellsOf (fbookD x)))))] Ex.ret (rpl_T0_out x plan i a)],D.bool false) := by kernel_rfl
theorem rpl_nbad (x : FBook) (plan : List Work) (i : Nat) (a : Int) :
  callF (MF 45) [] [] [(0,(rpl_K0,(.ret,rpl_T0_bad x plan i a)))] (body Tryz.f50) [.tmp 4] [fbookD x,.sl false .work plan] =
   some ([LF 45 (Code.at [1,0,1] (body Tryz.f50)) [(.tmp 1,.d (D.sl false E.work plan)),(.tmp 2,.d (D.ptr 2 0)),(.tmp 5,.d (D.int .i64 0)),(.box 2,.bx (some (Box.mk false (cellsOf (fbookD x)))))] Ex.ret (rpl_T0_bad x plan i a)],D.bool false) := by kernel_rfl
theorem rft_all (x : FBook) (plan : List Work) (n : Int) (i : Nat) :
  callF (MF 25) [] [] [(0,(rft_K0,(.normal,rft_S0 x plan n i)))] (body Tryz.f74) [.tmp 4] [fbookD x,.sl false .work plan] =
   some ([LF 25 (Code.at [1,1,0,1] (body Tryz.f74)) [(.tmp 1,.d (D.sl false E.work plan)),(.tmp 2,.d (D.ptr 2 0)),(.tmp 5,.d (D.int .i64 0)),(.tmp 6,.d (D.int .i64 0)),(.box 2,.bx (some (Box.mk false (cellsOf (fbookD x)))))] Ex.normal (rft_S0 x plan n i)],D.int .i64 n) := by kernel_rfl
theorem rsh_none (x : FBook) (plan : List Work) (i : Nat) :
  callF (MF 31) [] [] [(0,(rsh_K0,(.normal,rsh_S0 x plan i)))] (body Tryz.f75) [.tmp 4] [fbookD x,.sl false .work plan] =
   some ([LF 31 (Code.at [1,0,1] (body Tryz.f75)) [(.tmp 1,.d (D.sl false E.work plan)),(.tmp 2,.d (D.ptr 2 0)),(.tmp 5,.d (D.int .i64 0)),(.box 2,.bx (some (Box.mk false (cellsOf (fbookD x)))))] Ex.normal (rsh_S0 x plan i)],D.int .i64 (-(1 : Int))) := by kernel_rfl
theorem rsh_hit (x : FBook) (plan : List Work) (i : Nat) (v : Int) :
  callF (MF 31) [] [] [(0,(rsh_K0,(.ret,rsh_T0_hit x plan i v)))] (body Tryz.f75) [.tmp 4] [fbookD x,.sl false .work plan] =
   some ([LF 31 (Code.at [1,0,1] (body Tryz.f75)) [(.tmp 1,.d (D.sl false E.work plan)),(.tmp 2,.d (D.ptr 2 0)),(.tmp 5,.d (D.int .i64 0)),(.box 2,.bx (some (Box.mk false (cellsOf (fbookD x)))))] Ex.ret (rsh_T0_hit x plan i v)],D.int .i64 (i : Int)) := by kernel_rfl
theorem rFt_bad (x : FBook) (plan : List Work) (e : Int) :
  callF (MF 19) [(10,true)] [(8,.int .i64 e)] [] (body Tryz.f37) [.tmp 4,.tmp 5] [fbookD x,.sl false .work plan] =
   some ([CF 19 [fbookD x] (D.int .i64 e),(e != (0 : Int)) = true],D.tup [D.int .i64 0,D.int .i64 e]) := by kernel_rfl
theorem rFt_ask (x : FBook) (plan : List Work) :
  callF (MF 19) [] [(8,.int .i64 0),(14,.bool false)] [] (body Tryz.f37) [.tmp 4,.tmp 5] [fbookD x,.sl false .work plan] =
   some ([CF 19 [fbookD x] (D.int .i64 0),CF 50 [fbookD x,D.sl false E.work plan] (D.bool false)],D.tup [D.int .i64 0,D.int .i64 71]) := by kernel_rfl
theorem rFt_ok (x : FBook) (plan : List Work) (v : Int) :
  callF (MF 19) [] [(8,.int .i64 0),(14,.bool true),(18,.int .i64 v)] [] (body Tryz.f37) [.tmp 4,.tmp 5] [fbookD x,.sl false .work plan] =
   some ([CF 19 [fbookD x] (D.int .i64 0),CF 50 [fbookD x,D.sl false E.work plan] (D.bool true),CF 74 [fbookD x,D.sl false E.work plan] (D.int .i64 v)],D.tup [D.int .i64 v,D.int .i64 0]) := by kernel_rfl
theorem rSh_bad (x : FBook) (plan : List Work) (k e : Int) :
  callF (MF 24) [(16,true)] [(12,.tup [.int .i64 k,.int .i64 e])] [] (body Tryz.f38) [.tmp 4,.tmp 5] [fbookD x,.sl false .work plan] =
   some ([CF 37 [fbookD x,D.sl false E.work plan] (D.tup [D.int .i64 k,D.int .i64 e]),(e != (0 : Int)) = true],D.tup [D.int .i64 0,D.int .i64 e]) := by kernel_rfl
theorem rSh_none (x : FBook) (plan : List Work) (k n : Int) :
  callF (MF 24) [(22,true)] [(12,.tup [.int .i64 k,.int .i64 0]),(20,.int .i64 n)] [] (body Tryz.f38) [.tmp 4,.tmp 5] [fbookD x,.sl false .work plan] =
   some ([CF 37 [fbookD x,D.sl false E.work plan] (D.tup [D.int .i64 k,D.int .i64 0]),CF 75 [fbookD x,D.sl false E.work plan] (D.int .i64 n),decide (n < (0 : Int)) = true],D.tup [D.int .i64 0,D.int .i64 4]) := by kernel_rfl
theorem rSh_ok (x : FBook) (plan : List Work) (k n : Int) :
  callF (MF 24) [(22,false)] [(12,.tup [.int .i64 k,.int .i64 0]),(20,.int .i64 n)] [] (body Tryz.f38) [.tmp 4,.tmp 5] [fbookD x,.sl false .work plan] =
   some ([CF 37 [fbookD x,D.sl false E.work plan] (D.tup [D.int .i64 k,D.int .i64 0]),CF 75 [fbookD x,D.sl false E.work plan] (D.int .i64 n),decide (n < (0 : Int)) = false],D.tup [D.int .i64 n,D.int .i64 0]) := by kernel_rfl
theorem rck_bad (x : FBook) (ok : Bool) (i : Nat) :
  callF (MF 67) [] [] [(1001,(rck_RK1,(.normal,rck_RS1 x ok))),(0,(rck_K0,(.normal,rck_S0 x false i)))] (body Tryz.f19) [.tmp 2] [fbookD x] =
   some ([LF 67 (Code.at [1,0] (body Tryz.f19)) [(.tmp 1,.d (D.ptr 1 0)),(.box 1,.bx (some (Box.mk false (cellsOf (fbookD x)))))] Ex.normal (rck_RS1 x ok),LF 67 (Code.at [1,1,0,1] (body Tryz.f19)) [(.tmp 1,.d (D.ptr 1 0)),(.tmp 3,.d (D.bool ok)),(.tmp 4,.d (D.int .i64 0)),(.box 1,.bx (some (Box.mk false (cellsOf (fbookD x)))))] Ex.normal (rck_S0 x false i)],D.int .i64 70) := by kernel_rfl
theorem rck_good (x : FBook) (ok : Bool) (i : Nat) :
  callF (MF 67) [] [] [(1001,(rck_RK1,(.normal,rck_RS1 x ok))),(0,(rck_K0,(.normal,rck_S0 x true i)))] (body Tryz.f19) [.tmp 2] [fbookD x] =
   some ([LF 67 (Code.at [1,0] (body Tryz.f19)) [(.tmp 1,.d (D.ptr 1 0)),(.box 1,.bx (some (Box.mk false (cellsOf (fbookD x)))))] Ex.normal (rck_RS1 x ok),LF 67 (Code.at [1,1,0,1] (body Tryz.f19)) [(.tmp 1,.d (D.ptr 1 0)),(.tmp 3,.d (D.bool ok)),(.tmp 4,.d (D.int .i64 0)),(.box 1,.bx (some (Box.mk false (cellsOf (fbookD x)))))] Ex.normal (rck_S0 x true i)],D.int .i64 0) := by kernel_rfl
theorem oFor_all (x : FBook) :
  callF (MF 16) [] [(5,bookD x.chain),(8,.sl false .int x.feet),(11,.sl false .int x.opn)] [] (body Tryz.f6) [.cell 2 28] [fbookD x] =
   some ([CF 14 [bookD x.chain] (bookD x.chain),CF 15 [D.sl false E.int (FBook.feet x)] (D.sl false E.int (FBook.feet x)),CF 15 [D.sl false E.int (FBook.opn x)] (D.sl false E.int (FBook.opn x))],fbookD x) := by kernel_rfl
theorem oWk_all (plan : List Work) :
  callF (MF 7) [] [(6,.nil)] [] (body Tryz.f7) [.tmp 2] [.sl false .work plan] =
   some ([(0 : Int) ≤ (0 : Int) ∧ (0 : Int) ≤ (0 : Int) ∧ (0 : Int) ≤ (List.length plan : Int) ∧ (0 : Int) = (0 : Int),List.length plan * 16 ≤ 140737488355328 ∧ List.length plan ≤ 140737488355328,List.length plan = List.length (plan)],D.sl false E.work (plan)) := by kernel_rfl
theorem kFor_all (x : FBook) :
  callF (MF 45) [(24,true),(38,true)] [(9,.bool true),(15,.bool true),(29,.bool true)] [] (body Tryz.f9) [.tmp 4] [fbookD x,fbookD x] =
   some ([CF 24 [bookD x.chain,bookD x.chain] (D.bool true),CF 25 [D.sl false E.int (FBook.feet x),D.sl false E.int (FBook.feet x)] (D.bool true),(FBook.new x == FBook.new x) = true,(FBook.new x == FBook.new x) = true,(FBook.new x == FBook.new x) = true,(FBook.new x == FBook.new x) = true,(FBook.new x == FBook.new x) = true,CF 25 [D.sl false E.int (FBook.opn x),D.sl false E.int (FBook.opn x)] (D.bool true),(FBook.new x == FBook.new x) = true,(FBook.stock x == FBook.stock x) = true,(FBook.stock x == FBook.stock x) = true,(FBook.stock x == FBook.stock x) = true,(FBook.stock x == FBook.stock x) = true,(FBook.stock x == FBook.stock x) = true,(FBook.stock x == FBook.stock x) = true],D.bool (FBook.make x == FBook.make x)) := by kernel_rfl
theorem kWk_all (plan : List Work) (i : Nat) :
  callF (MF 31) [] [] [(0,(kWk_K0,(.normal,kWk_S0 plan true i)))] (body Tryz.f10) [.tmp 4] [.sl false .work plan,.sl false .work plan] =
   some ([LF 31 (Code.at [1,1,0,1] (body Tryz.f10)) [(.tmp 0,.d (D.sl false E.work plan)),(.tmp 1,.d (D.sl false E.work plan)),(.tmp 5,.d (D.bool ((List.length plan : Int) == (List.length plan : Int)))),(.tmp 6,.d (D.int .i64 0))] Ex.normal (kWk_S0 plan true i)],D.bool true) := by kernel_rfl
theorem lfe_all (x : FBook) (plan : List Work) (k e m g : Int) :
  callF (MF 53) [(28,false),(32,false),(48,true)] [(16,.tup [.int .i64 k,.int .i64 e]),(22,.tup [.int .i64 k,.int .i64 e]),(36,.tup [.int .i64 m,.int .i64 g]),(42,.tup [.int .i64 m,.int .i64 g])] [] (body Tryz.f12) [.tmp 8] [fbookD x,.sl false .work plan,fbookD x,.sl false .work plan] =
   some ([CF 29 [fbookD x,D.sl false E.work plan] (D.tup [D.int .i64 k,D.int .i64 e]),CF 37 [fbookD x,D.sl false E.work plan] (D.tup [D.int .i64 k,D.int .i64 e]),(k != k) = false,(k != k) = false,(k != k) = false,(k != k) = false,(e != e) = false,CF 31 [fbookD x,D.sl false E.work plan] (D.tup [D.int .i64 m,D.int .i64 g]),CF 38 [fbookD x,D.sl false E.work plan] (D.tup [D.int .i64 m,D.int .i64 g]),(m == m) = true,(m == m) = true,(m == m) = true,(m == m) = true],D.bool (g == g)) := by kernel_rfl
theorem lFe_all (x : FBook) (plan : List Work) :
  callF (MF 29) [] [(8,fbookD x),(10,.sl false .work plan),(15,.bool true),(19,.bool true),(24,.bool true),(27,.bool true)] [] (body Tryz.f4) [.tmp 4] [fbookD x,.sl false .work plan] =
   some ([CF 6 [fbookD x] (fbookD x),CF 7 [D.sl false E.work plan] (D.sl false E.work plan),CF 12 [fbookD x,D.sl false E.work plan,fbookD x,D.sl false E.work plan] (D.bool true),CF 9 [fbookD x,fbookD x] (D.bool true),CF 10 [D.sl false E.work plan,D.sl false E.work plan] (D.bool true),CF 11 [] (D.bool true)],D.bool true) := by kernel_rfl
end Go.Di

namespace Go.Di
open Proofs

/-! ### The chapter's examples -/
end Go.Di

namespace Go.Di
open Proofs
end Go.Di

namespace Go.Di
open Proofs

/-! ### sound -/
/-! ### How thick sections are,day by day -/
/-! ### Those that must be cut -/
/-- Numbers that climb,from 0 to below n. -/
structure Ups (xs : List Int) (n : Int) : Prop where
 inn : ∀ k < xs.length,0 ≤ xs.getD k 0 ∧ xs.getD k 0 < n
 up : ∀ k,0 < k → k < xs.length → xs.getD (k - 1) 0 < xs.getD k 0
theorem Ups.mono {xs : List Int} {n m : Int} (h : Ups xs n) (hnm : n ≤ m) : Ups xs m := ⟨fun k hk => by have := h.inn k hk; omega,h.up⟩
end Go.Di

namespace Go.Di
open Proofs

/-! ### What the surveys say -/
/-- What one survey says. -/
def SatY (b : Book) (x : W4) (k t : Int) (y : Sv) : Prop := y.s = k → y.r - y.e + wornF b.secs.length x.a x.b x.c x.d b.turns k y.d.toNat ≤ t ∧ t ≤ y.r + y.e + wornF b.secs.length x.a x.b x.c x.d b.turns k y.d.toNat
/-! ### Truths -/
def W4.at (x : W4) (p : Nat) : Int := [x.a,x.b,x.c,x.d].getD p 0
/-- How thick sections are at first,and what places wear: as all that is told lets it be. -/
structure Feas (b : Book) (but : List Int) (T : Nat → Int) (x : W4) : Prop where
 wear : ∀ p < b.secs.length,(b.secs.getD p sec0).w.lo ≤ x.at p ∧ x.at p ≤ (b.secs.getD p sec0).w.hi
 zero : ∀ p,b.secs.length ≤ p → x.at p = 0
 thick : ∀ k < b.secs.length,(b.secs.getD k sec0).t.lo ≤ T k ∧ T k ≤ (b.secs.getD k sec0).t.hi
 right : ∀ i < b.svs.length,(i : Int) ∉ but → ∀ k : Nat,k < b.secs.length → SatY b x k (T k) (svZ b i)
/-! ### One truth for each wear -/
end Go.Di

