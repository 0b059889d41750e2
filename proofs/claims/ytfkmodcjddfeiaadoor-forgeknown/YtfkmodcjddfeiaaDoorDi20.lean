/- Part 20: an interpreter over plain data for this code, with the proof that it says what the model does, and the contracts of the functions. No condition. -/
import Derived.Test.YtfkmodcjddfeiaaDoorDi19
set_option linter.unusedVariables false
set_option linter.unusedSimpArgs false
namespace Go.Di
open Proofs

theorem joinF {n : Nat} {dec : List (Nat × Bool)} {orc : List (Nat × D)} {lorc : Lorc} {c : Code} {L L' L2 : List (Key × Val)} {ks : List Key} {ps : List Prop}
  (h : Di.runK (MF n) dec orc lorc c L ks = some (ps,.normal,L')) (hp : allP ps) (he : L' = L2) : LF n c L .normal L2 :=
 LoopT.of (tt := lookN typesF) (WpL.path (GF n) h hp ⟨rfl,he⟩)

/-! ### Check -/
structure FSmall (x : FBook) : Prop where
 chain : Small x.chain
 feet : x.feet.length ≤ 9223372036854775807
 opn : x.opn.length ≤ 9223372036854775807
theorem fcheck_join (x : FBook) (hs : FSmall x) : LF 78 (Code.at [1,0] (body Tryd.f98)) (fcheck_R1 x) .normal (fcheck_RS1 x (fok0F x)) := by
 have c0 := (check_small hs.chain).up
 have c1 := fwithin_con x.new 0 200
 have c2 := fwithin_con x.stock 0 200
 have c3 := fwithin_con x.make 0 9
 unfold fok0F
 cases h1 : (checkF x.chain == 0) with
 | false =>
  refine joinF (fcheck_R1_a x) ?_ rfl
  repeat (first | exact trivial | refine ⟨by first | exact h1 | exact c0,?_⟩)
 | true =>
  by_cases h2 : (x.feet.length : Int) = x.chain.secs.length
  ·have h2' : ((x.feet.length : Int) == (x.chain.secs.length : Int)) = true := beq_iff_eq.2 h2
   rw [decide_eq_true h2]
   cases h3 : withinF x.new 0 200 with
   | false =>
    refine joinF (fcheck_R1_c x) ?_ rfl
    repeat (first | exact trivial | refine ⟨by first | exact h1 | exact h2' | exact h3 | exact c0 | exact c1,?_⟩)
   | true =>
    by_cases h4 : x.opn.length ≤ 4
    ·have h4' : decide ((x.opn.length : Int) ≤ 4) = true := decide_eq_true (by omega)
     rw [decide_eq_true h4]
     cases h5 : withinF x.stock 0 200 with
     | false =>
      refine joinF (fcheck_R1_e x) ?_ rfl
      repeat (first | exact trivial | refine ⟨by first | exact h1 | exact h2' | exact h3 | exact h4' | exact h5 | exact c0 | exact c1 | exact c2,?_⟩)
     | true =>
      refine joinF (fcheck_R1_f x) ?_ rfl
      repeat (first | exact trivial | refine ⟨by first | exact h1 | exact h2' | exact h3 | exact h4' | exact h5 | exact c0 | exact c1 | exact c2 | exact c3,?_⟩)
    ·have h4' : decide ((x.opn.length : Int) ≤ 4) = false := decide_eq_false (by omega)
     rw [decide_eq_false h4]
     refine joinF (fcheck_R1_d x) ?_ rfl
     repeat (first | exact trivial | refine ⟨by first | exact h1 | exact h2' | exact h3 | exact h4' | exact c0 | exact c1,?_⟩)
  ·have h2' : ((x.feet.length : Int) == (x.chain.secs.length : Int)) = false := beq_eq_false_iff_ne.2 h2
   rw [decide_eq_false h2]
   refine joinF (fcheck_R1_b x) ?_ rfl
   repeat (first | exact trivial | refine ⟨by first | exact h1 | exact h2' | exact c0,?_⟩)
theorem fcheck_loop0 (x : FBook) (hs : FSmall x) : LF 78 (Code.at [1,1,0,1] (body Tryd.f98)) (fcheck_S0 x (fok0F x) 0) .normal (fcheck_S0 x (fok1F x x.feet) x.feet.length) := by
 have hl := hs.feet
 refine LF.each (id := 0) (c := Code.at [1,1,0,1,0,0] (body Tryd.f98)) (by kernel_rfl) x.feet.length (fun i => fcheck_S0 x (fok1F x (x.feet.take i)) i) (fun i hi => ?_) ⟨_,_,_,_,_,_,_,fcheck_0_end x _ _,⟨lt_false,trivial⟩,.inl ⟨rfl,rfl⟩,by rw [List.take_length]⟩
 have hf := take_foldl (fun (ok : Bool) n => ok && withinF n 1 30) x.feet (fok0F x) i 0 hi
 have hi64 : inI64 ((i : Int) + 1) := by simp only [inI64]; omega
 have he : fok1F x (x.feet.take (i + 1)) = (fok1F x (x.feet.take i) && withinF (x.feet.getD i 0) 1 30) := hf
 cases hok : fok1F x (x.feet.take i) with
 | false =>
  exact ⟨_,_,_,_,_,_,fcheck_0_no x false i,by repeat (first | exact trivial | refine ⟨by first | rfl | exact lt_true hi | exact hi64 | omega,?_⟩),by rw [he,hok]; rfl⟩
 | true =>
  have c := fwithin_con (x.feet.getD i 0) 1 30
  exact ⟨_,_,_,_,_,_,fcheck_0_yes x true i (withinF (x.feet.getD i 0) 1 30),by repeat (first | exact trivial | refine ⟨by first | rfl | exact c | exact lt_true hi | exact hi64 | omega,?_⟩),by rw [he,hok]; rfl⟩
theorem fturn_in {days : Int} (hd : days ≤ 30) : ∀ (l : List Int) (p : Bool × Int),(p.1 = true → -1 ≤ p.2 ∧ p.2 ≤ 30) → (l.foldl (turnF days) p).1 = true → -1 ≤ (l.foldl (turnF days) p).2 ∧ (l.foldl (turnF days) p).2 ≤ 30
 | [],p,h,h1 => h h1
 | t :: l,p,h,h1 => by
  refine fturn_in hd l (turnF days p t) (fun h2 => ?_) h1
  simp only [turnF,Bool.and_eq_true,within_iff] at h2
  have := h h2.1
  simp only [turnF]
  omega
theorem check_zero {b : Book} : (checkF b == 0) = validF b := by
 unfold checkF
 cases validF b <;> rfl
theorem fok0_chain {x : FBook} (h : fok0F x = true) : Valid x.chain := by
 unfold fok0F at h
 simp only [Bool.and_eq_true] at h
 rw [check_zero] at h
 exact valid_iff.1 h.1.1.1.1.1
theorem fok1_eq (x : FBook) (l : List Int) : fok1F x l = (fok0F x && l.all fun n => withinF n 1 30) := foldl_and _ _ _
theorem fok1_ok0 {x : FBook} {l : List Int} (h : fok1F x l = true) : fok0F x = true := by
 rw [fok1_eq,Bool.and_eq_true] at h
 exact h.1
theorem fcheck_loop2 (x : FBook) (hs : FSmall x) : LF 78 (Code.at [1,1,1,1,0,1] (body Tryd.f98)) (fcheck_S2 x (fok1F x x.feet) (-1) 0) .normal (fcheck_S2 x (fok2F x x.opn).1 (fok2F x x.opn).2 x.opn.length) := by
 have hl := hs.opn
 refine LF.each (id := 2) (c := Code.at [1,1,1,1,0,1,0,0] (body Tryd.f98)) (by kernel_rfl) x.opn.length (fun i => fcheck_S2 x (fok2F x (x.opn.take i)).1 (fok2F x (x.opn.take i)).2 i) (fun i hi => ?_) ⟨_,_,_,_,_,_,_,fcheck_2_end x _ _ _,⟨lt_false,trivial⟩,.inl ⟨rfl,rfl⟩,by rw [List.take_length]⟩
 have hf : fok2F x (x.opn.take (i + 1)) = turnF x.chain.days (fok2F x (x.opn.take i)) (x.opn.getD i 0) := take_foldl (turnF x.chain.days) x.opn (fok1F x x.feet,-1) i 0 hi
 have hi64 : inI64 ((i : Int) + 1) := by simp only [inI64]; omega
 cases hok : (fok2F x (x.opn.take i)).1 with
 | false =>
  refine ⟨_,_,_,_,_,_,fcheck_2_no x false _ i,by repeat (first | exact trivial | refine ⟨by first | rfl | exact lt_true hi | exact hi64 | omega,?_⟩),?_⟩
  rw [hf]
  simp only [turnF,hok,Bool.false_and]
 | true =>
  have c := fwithin_con (x.opn.getD i 0) ((fok2F x (x.opn.take i)).2 + 1) x.chain.days
  have h1 : fok1F x x.feet = true := by
   cases h : fok1F x x.feet with
   | true => rfl
   | false =>
    unfold fok2F at hok
    rw [h,turns_and] at hok
    simp at hok
  have hd := (fok0_chain (fok1_ok0 h1)).days
  have hin := fturn_in (days := x.chain.days) (by omega) (x.opn.take i) (fok1F x x.feet,-1) (fun _ => ⟨(by decide : (-1 : Int) ≤ -1),(by decide : (-1 : Int) ≤ 30)⟩) hok
  have hin' : -1 ≤ (fok2F x (x.opn.take i)).2 ∧ (fok2F x (x.opn.take i)).2 ≤ 30 := hin
  have hl64 : inI64 ((fok2F x (x.opn.take i)).2 + 1) := i64_of (by omega) (by omega)
  refine ⟨_,_,_,_,_,_,fcheck_2_yes x true _ i (withinF (x.opn.getD i 0) ((fok2F x (x.opn.take i)).2 + 1) x.chain.days),by repeat (first | exact trivial | refine ⟨by first | rfl | exact c | exact lt_true hi | exact hi64 | exact hl64 | omega,?_⟩),?_⟩
  rw [hf]
  simp only [turnF,hok,Bool.true_and]
theorem fcheck_con {x : FBook} (hs : FSmall x) : CF 98 [fbookD x] (.int .i64 (fcheckF x)) := by
 unfold fcheckF fvalidF
 cases h : (fok2F x x.opn).1 with
 | false => exact contract_of_path (GF 78) fcheck_fn (fcheck_bad x _ _ _ _) ⟨fcheck_join x hs,fcheck_loop0 x hs,fcheck_loop2 x hs,by rw [h]; rfl,trivial⟩
 | true => exact contract_of_path (GF 78) fcheck_fn (fcheck_good x _ _ _ _) ⟨fcheck_join x hs,fcheck_loop0 x hs,fcheck_loop2 x hs,by rw [h]; rfl,trivial⟩
/-! ### What a book is -/
structure FValid (x : FBook) : Prop where
 chain : Valid x.chain
 feet : x.feet.length = x.chain.secs.length
 new : 0 ≤ x.new ∧ x.new ≤ 200
 opnl : x.opn.length ≤ 4
 stock : 0 ≤ x.stock ∧ x.stock ≤ 200
 make : 0 ≤ x.make ∧ x.make ≤ 9
 each : ∀ n ∈ x.feet,1 ≤ n ∧ n ≤ 30
 rises : (x.opn.foldl (turnF x.chain.days) (true,-1)).1 = true
theorem fvalid_iff {x : FBook} : fvalidF x = true ↔ FValid x := by
 unfold fvalidF fok2F
 rw [turns_and,Bool.and_eq_true,fok1_eq,Bool.and_eq_true]
 constructor
 ·rintro ⟨⟨h1,h2⟩,h3⟩
  have hc := fok0_chain h1
  unfold fok0F at h1
  simp only [Bool.and_eq_true,decide_eq_true_eq,within_iff] at h1
  exact ⟨hc,by omega,h1.1.1.1.2,h1.1.1.2,h1.1.2,h1.2,fun n hn => within_iff.1 (List.all_eq_true.1 h2 n hn),h3⟩
 ·intro h
  refine ⟨⟨?_,List.all_eq_true.2 fun n hn => within_iff.2 (h.each n hn)⟩,h.rises⟩
  unfold fok0F
  simp only [Bool.and_eq_true,decide_eq_true_eq,within_iff]
  refine ⟨⟨⟨⟨⟨by rw [check_zero]; exact valid_iff.2 h.chain,by have := h.feet; omega⟩,h.new⟩,h.opnl⟩,h.stock⟩,h.make⟩
theorem rises_mem {days : Int} : ∀ (l : List Int) (n : Int),(l.foldl (turnF days) (true,n)).1 = true → (∀ d ∈ l,n < d ∧ d ≤ days) ∧ l.Pairwise (· < ·)
 | [],n,_ => ⟨fun d hd => (by cases hd),List.Pairwise.nil⟩
 | t :: l,n,h => by
  simp only [List.foldl_cons,turnF,Bool.true_and] at h
  rw [turns_and,Bool.and_eq_true,within_iff] at h
  obtain ⟨h1,h2⟩ := rises_mem l t h.2
  refine ⟨fun d hd => ?_,List.pairwise_cons.2 ⟨fun d hd => (h1 d hd).1,h2⟩⟩
  rcases List.mem_cons.1 hd with rfl | hd
  ·omega
  ·have := h1 d hd
   omega
theorem FValid.opn {x : FBook} (h : FValid x) : (∀ d ∈ x.opn,0 ≤ d ∧ d ≤ x.chain.days) ∧ x.opn.Pairwise (· < ·) := by
 obtain ⟨h1,h2⟩ := rises_mem x.opn (-1) h.rises
 exact ⟨fun d hd => by have := h1 d hd; omega,h2⟩
theorem FValid.inn {x : FBook} (h : FValid x) : FIn x := by
 have hc := h.chain
 have hsec := hc.secs
 have hd := hc.days
 have hf := h.feet
 exact ⟨by omega,by omega,by have := hc.turns; omega,fun n hn => by have := h.each n hn; omega,by have := h.new; omega,by have := h.opnl; omega,fun d hd => by have := h.opn.1 d hd; omega,by have := h.stock; omega,by have := h.make; omega⟩

/-! ### opened -/
theorem nil_fbk {R : Foot} {w : World} {x : FBook} {m : List (K2 × Bool)} {v : Value} (h : Rel R w (fopD x m) v) : Rel R w (fbkD x (.work m) [] []) v := by
 obtain ⟨vs,hv,h⟩ := h
 have hlen : (fbkC x (.map (.work m)) (.sl false (.list .int) []) (.sl false .int [])).length = vs.toList.length := by have := All2.length h; exact this
 refine ⟨vs,hv,All2.of_get hlen fun i d u hd hu => ?_⟩
 have hi : i < 13 := (List.getElem?_eq_some_iff.1 hd).1
 by_cases h1 : i < 11
 ·have hd' : (fbkC x (.map (.work m)) .nil .nil)[i]? = some d := by
   match i,h1,hd with
   | 0,_,hd => exact hd
   | 1,_,hd => exact hd
   | 2,_,hd => exact hd
   | 3,_,hd => exact hd
   | 4,_,hd => exact hd
   | 5,_,hd => exact hd
   | 6,_,hd => exact hd
   | 7,_,hd => exact hd
   | 8,_,hd => exact hd
   | 9,_,hd => exact hd
   | 10,_,hd => exact hd
   | n + 11,h1,_ => omega
  obtain ⟨u',hu',hr⟩ := All2.get h i d hd'
  rw [hu] at hu'
  cases hu'
  exact hr
 ·have h2 : i = 11 ∨ i = 12 := by omega
  rcases h2 with rfl | rfl
  ·cases hd
   obtain ⟨u',hu',hr⟩ := All2.get h 11 .nil rfl
   rw [hu] at hu'
   cases hu'
   have hr : u = .slice none 0 0 := hr
   rw [hr]
   exact sl_nil _ _ _ _ _
  ·cases hd
   obtain ⟨u',hu',hr⟩ := All2.get h 12 .nil rfl
   rw [hu] at hu'
   cases hu'
   have hr : u = .slice none 0 0 := hr
   rw [hr]
   exact sl_nil _ _ _ _ _
theorem Contract.ofOp {f : FuncId} {x : FBook} {m : List (K2 × Bool)} {args : List D} {r : D} (h : CF f (fbkD x (.work m) [] [] :: args) r) : CF f (fopD x m :: args) r :=
 h.toArgs fun R w vs hr => by
  obtain ⟨v,l,rfl,h1,h2⟩ := all2_cons hr
  exact ⟨nil_fbk h1,h2⟩
theorem plain33 : Cfg.plain (MF 33) := ⟨fun _ h => h,fun _ h => h,rfl⟩
theorem opened_con' {x : FBook} (hf : x.feet.length ≤ 1000) (ho : x.opn.length ≤ 1000) : CF 146 [fbookD x] (fopD x (worksF x)) := by
 refine contract_of_wp (C := MF 33) typesF_ok rfl (fun _ h => h) (fun _ h => h) rfl rfl fo_fn ?_
 have hcode : body Tryd.f146 = .seq (Code.at [0] (body Tryd.f146)) (.seq (Code.at [1,0] (body Tryd.f146)) (.seq (.seq (Code.at [1,1,0,0] (body Tryd.f146)) (Code.at [1,1,0,1] (body Tryd.f146))) (.seq (Code.at [1,1,1,0] (body Tryd.f146)) .ret))) := by kernel_rfl
 rw [hcode]
 have hloop : LF 33 (Code.at [1,1,0,1] (body Tryd.f146)) (foS x (worksO x 0) 0) .normal (foS x (worksF x) x.opn.length) := by
  refine LF.each (id := 0) (c := Code.at [1,1,0,1,0,0] (body Tryd.f146)) (by kernel_rfl) x.opn.length (fun i => foS x (worksO x i) i) (fun i hi => ?_) ⟨_,_,_,_,_,_,_,fo_end x _ _,⟨lt_false,trivial⟩,.inl ⟨rfl,rfl⟩,rfl⟩
  refine ⟨_,_,_,_,_,_,fo_on x (worksO x i) i (worksO x (i + 1)),⟨lt_true hi,⟨by omega,by omega⟩,by omega,?_,i64_of (by omega) (by omega),trivial⟩,rfl⟩
  refine LF.each (id := 2) (c := Code.at [1,1,0,1,0,0,1,1,0,0,1,1,0,0] (body Tryd.f146)) (by kernel_rfl) x.feet.length (fun j => foT x (worksS (worksO x i) (x.opn.getD i 0) j) i (x.opn.getD i 0) j) (fun j hj => ?_) ⟨_,_,_,_,_,_,_,fo_out x _ i _ _,⟨lt_false,trivial⟩,.inl ⟨rfl,rfl⟩,rfl⟩
  exact ⟨_,_,_,_,_,_,fo_in x _ i _ j,⟨lt_true hj,plain33,i64_of (by omega) (by omega),trivial⟩,rfl⟩
 refine WpL.seq (WpL.path (GF 33) (fo_0 x) trivial ?_)
 refine WpL.seq (WpL.path (GF 33) (fo_1 x) ⟨plain33,by omega,plain33,trivial⟩ ?_)
 refine WpL.seq (WpL.seq (WpL.path (GF 33) (fo_2 x) trivial ?_))
 have hl2 : WpL PRG (MF 33) (Code.at [1,1,0,1] (body Tryd.f146)) (foS x (worksO x 0) 0) (fun e L' => e = .normal ∧ L' = foS x (worksF x) x.opn.length) := WpL.same (C := mk0 globF 33) (C' := MF 33) rfl rfl rfl rfl rfl rfl rfl rfl (fun _ _ => trivial) (fun _ => rfl) hloop.wp
 refine hl2.mono fun e L' he => ?_
 obtain ⟨rfl,rfl⟩ := he
 show WpL _ _ _ _ _
 refine WpL.seq (WpL.tell (fun _ h => h) (j := 8) (m := .work (worksF x)) rfl (WpL.path (GF 33) (fo_3 x (worksF x) x.opn.length) trivial ?_))
 show WpL _ _ _ _ _
 exact WpL.path (GF 33) (dec := []) (orc := []) (lorc := []) (ks := [.tmp 2,.box 2]) (ps := []) (e := .ret) (L' := foE x (worksF x)) (by kernel_rfl) trivial ⟨fun id h => (by cases h),[],by kernel_rfl,fun p hp => by cases hp⟩
end Go.Di

namespace Go.Di
open Proofs

/-! ### The chapter's examples -/
end Go.Di

namespace Go.Di
open Proofs
end Go.Di

namespace Go.Di
open Proofs

/-! ### sound -/
/-! ### How thick sections are,day by day -/
/-! ### Those that must be cut -/
/-- Numbers that climb,from 0 to below n. -/
structure Ups (xs : List Int) (n : Int) : Prop where
 inn : ∀ k < xs.length,0 ≤ xs.getD k 0 ∧ xs.getD k 0 < n
 up : ∀ k,0 < k → k < xs.length → xs.getD (k - 1) 0 < xs.getD k 0
theorem Ups.mono {xs : List Int} {n m : Int} (h : Ups xs n) (hnm : n ≤ m) : Ups xs m := ⟨fun k hk => by have := h.inn k hk; omega,h.up⟩
end Go.Di

namespace Go.Di
open Proofs

/-! ### What the surveys say -/
/-- What one survey says. -/
def SatY (b : Book) (x : W4) (k t : Int) (y : Sv) : Prop := y.s = k → y.r - y.e + wornF b.secs.length x.a x.b x.c x.d b.turns k y.d.toNat ≤ t ∧ t ≤ y.r + y.e + wornF b.secs.length x.a x.b x.c x.d b.turns k y.d.toNat
/-! ### Truths -/
def W4.at (x : W4) (p : Nat) : Int := [x.a,x.b,x.c,x.d].getD p 0
/-- How thick sections are at first,and what places wear: as all that is told lets it be. -/
structure Feas (b : Book) (but : List Int) (T : Nat → Int) (x : W4) : Prop where
 wear : ∀ p < b.secs.length,(b.secs.getD p sec0).w.lo ≤ x.at p ∧ x.at p ≤ (b.secs.getD p sec0).w.hi
 zero : ∀ p,b.secs.length ≤ p → x.at p = 0
 thick : ∀ k < b.secs.length,(b.secs.getD k sec0).t.lo ≤ T k ∧ T k ≤ (b.secs.getD k sec0).t.hi
 right : ∀ i < b.svs.length,(i : Int) ∉ but → ∀ k : Nat,k < b.secs.length → SatY b x k (T k) (svZ b i)
/-! ### One truth for each wear -/
end Go.Di

namespace Go.Di
open Proofs

/-! ### Truths,and what they let be -/
theorem Valid.wlo {b : Book} (hV : Valid b) (p : Nat) : 0 ≤ (b.secs.getD p sec0).w.lo := by
 by_cases h : p < b.secs.length
 ·exact (hV.sec _ (getD_mem b.secs p sec0 h)).w.1
 ·rw [List.getD_eq_getElem?_getD,List.getElem?_eq_none (by omega)]
  decide
theorem Valid.svs0 {b : Book} (hV : Valid b) : ∀ y ∈ b.svs,0 ≤ y.s := fun y hy => (survey_iff.1 (hV.sv y hy)).1.1
/-- What is asked of a book,that its truths can be told. -/
structure Base (b : Book) : Prop where
 n4 : b.secs.length ≤ 4
 wlo : ∀ p : Nat,0 ≤ (b.secs.getD p sec0).w.lo
 svs0 : ∀ y ∈ b.svs,0 ≤ y.s
theorem Valid.base {b : Book} (hV : Valid b) : Base b := ⟨hV.secs.2,hV.wlo,hV.svs0⟩
theorem Base.more {b : Book} (hB : Base b) {y : Sv} (hy : 0 ≤ y.s) : Base (more b y) := ⟨hB.n4,hB.wlo,fun z hz => by
 rcases List.mem_append.1 hz with hz | hz
 ·exact hB.svs0 z hz
 ·simp only [List.mem_singleton] at hz
  subst hz
  exact hy⟩
/-! ### What is told of all truths -/
theorem told_fold (g : TrC → Span) : ∀ (ts : List TrC) (s : Span),((ts.foldl (fun o t => hullF o (g t)) s).lo = s.lo ∨ ∃ t ∈ ts,(ts.foldl (fun o t => hullF o (g t)) s).lo = (g t).lo) ∧ ((ts.foldl (fun o t => hullF o (g t)) s).hi = s.hi ∨ ∃ t ∈ ts,(ts.foldl (fun o t => hullF o (g t)) s).hi = (g t).hi) ∧
  (ts.foldl (fun o t => hullF o (g t)) s).lo ≤ s.lo ∧ s.hi ≤ (ts.foldl (fun o t => hullF o (g t)) s).hi ∧ ∀ t ∈ ts,(ts.foldl (fun o t => hullF o (g t)) s).lo ≤ (g t).lo ∧ (g t).hi ≤ (ts.foldl (fun o t => hullF o (g t)) s).hi
 | [],s => ⟨.inl rfl,.inl rfl,Int.le_refl _,Int.le_refl _,fun t ht => by cases ht⟩
 | t :: ts,s => by
  obtain ⟨h1,h2,h3,h4,h5⟩ := told_fold g ts (hullF s (g t))
  have e1 : (hullF s (g t)).lo = s.lo ∨ (hullF s (g t)).lo = (g t).lo := by simp only [hullF,mn]; split <;> simp
  have e2 : (hullF s (g t)).hi = s.hi ∨ (hullF s (g t)).hi = (g t).hi := by simp only [hullF,mx]; split <;> simp
  have e3 : (hullF s (g t)).lo ≤ s.lo ∧ (hullF s (g t)).lo ≤ (g t).lo := by simp only [hullF,mn]; split <;> omega
  have e4 : s.hi ≤ (hullF s (g t)).hi ∧ (g t).hi ≤ (hullF s (g t)).hi := by simp only [hullF,mx]; split <;> omega
  simp only [List.foldl_cons]
  refine ⟨?_,?_,by omega,by omega,fun u hu => ?_⟩
  ·rcases h1 with h1 | ⟨u,hu,h1⟩
   ·rcases e1 with e1 | e1
    ·exact .inl (h1.trans e1)
    ·exact .inr ⟨t,by simp,h1.trans e1⟩
   ·exact .inr ⟨u,by simp [hu],h1⟩
  ·rcases h2 with h2 | ⟨u,hu,h2⟩
   ·rcases e2 with e2 | e2
    ·exact .inl (h2.trans e2)
    ·exact .inr ⟨t,by simp,h2.trans e2⟩
   ·exact .inr ⟨u,by simp [hu],h2⟩
  ·rcases List.mem_cons.1 hu with rfl | hu
   ·omega
   ·exact h5 u hu
theorem told_spec (g : TrC → Span) {ts : List TrC} (hne : ts ≠ []) : (∃ t ∈ ts,(toldF g ts).lo = (g t).lo) ∧ (∃ t ∈ ts,(toldF g ts).hi = (g t).hi) ∧ ∀ t ∈ ts,(toldF g ts).lo ≤ (g t).lo ∧ (g t).hi ≤ (toldF g ts).hi := by
 obtain ⟨h1,h2,_,_,h5⟩ := told_fold g ts (g (ts.getD 0 trc0))
 have h0 : ts.getD 0 trc0 ∈ ts := getD_mem ts 0 trc0 (List.length_pos_iff.2 hne)
 refine ⟨?_,?_,h5⟩
 ·rcases h1 with h1 | h1
  ·exact ⟨_,h0,h1⟩
  ·exact h1
 ·rcases h2 with h2 | h2
  ·exact ⟨_,h0,h2⟩
  ·exact h2
/-! ### One survey more -/
end Go.Di

namespace Go.Di
open Proofs

/-! ### know: what chain says -/
theorem err_zero {b : Book} (hV : Valid b) (hc : canF b = true) : errF b true = 0 := by
 unfold errF
 rw [valid_iff.2 hV,hc]
 rfl
theorem small_of {b : Book} (hV : Valid b) : Small b := ⟨by have := hV.secs; omega,by have := hV.turns; omega,by have := hV.svs; omega⟩
theorem thickU_con {b : Book} (hV : Valid b) (hc : canF b = true) {s d : Int} (hs : 0 ≤ s ∧ s < b.secs.length) (hd : 0 ≤ d ∧ d ≤ b.days) : CF 41 [bookD b,.int .i64 s,.int .i64 d] (.tup [spD (thickF b (truthsF b []) b.turns s d),.int .i64 0]) := by
 have h := thickA_con (small_of hV) s d
 have h1 : isSectionF b s = true := by unfold isSectionF; rw [within_iff]; omega
 have h2 : isDayF b d = true := by unfold isDayF; rw [within_iff]; omega
 unfold askE at h
 rw [h1,h2,Bool.and_self,err_zero hV hc,show spanOr 0 (thickF b (truthsF b []) b.turns s d) = thickF b (truthsF b []) b.turns s d from if_pos rfl] at h
 exact h.up
theorem wearU_con {b : Book} (hV : Valid b) (hc : canF b = true) {s : Int} (hs : 0 ≤ s ∧ s < b.secs.length) : CF 42 [bookD b,.int .i64 s] (.tup [spD (toldF (wearAt s) (truthsF b [])),.int .i64 0]) := by
 have h := wearA_con (small_of hV) s
 have h1 : isSectionF b s = true := by unfold isSectionF; rw [within_iff]; omega
 rw [h1,err_zero hV hc,show spanOr 0 (toldF (wearAt s) (truthsF b [])) = toldF (wearAt s) (truthsF b []) from if_pos rfl] at h
 exact h.up
def thRow (x : FBook) (s k : Nat) : List Int := (List.range k).map fun d => thickLo x.chain (s : Nat) (d : Nat)
def thTo (x : FBook) (i : Nat) : List (List Int) := (List.range i).map fun s => thRow x s (x.chain.days + 1).toNat
def wrTo (x : FBook) (i : Nat) : List Int := (List.range i).map fun s => wearHi x.chain (s : Nat)
theorem range_snoc {α : Type} (f : Nat → α) (i : Nat) : (List.range (i + 1)).map f = (List.range i).map f ++ [f i] := by rw [List.range_succ,List.map_append]; rfl
/-- The state in the inner loop. -/
def knIn (x : FBook) (m : List (K2 × Bool)) (i j : Nat) (y : Int) (r : List Int) : List (List Int) → List Int → List (Key × Val)
 | [],[] => knowAn_S2 x m i j y r
 | [],z :: l => knowAo_S2 x m i j y r z l
 | t :: q,[] => knowBn_S2 x m i j y r t q
 | t :: q,z :: l => knowBo_S2 x m i j y r t q z l
def knS (x : FBook) (m : List (K2 × Bool)) (i : Nat) : List Int → List (List Int) → List (Key × Val)
 | y :: r,t :: q => knowB_S0 x m i y r t q
 | _,_ => knowA_S0 x m i
theorem know_in {x : FBook} (hV : Valid x.chain) (hc : canF x.chain = true) (m : List (K2 × Bool)) (i : Nat) (hi : i < x.chain.secs.length) (y : Int) (r : List Int) (th : List (List Int)) :
  LF 63 (Code.at [1,0,1,0,0,1,1,0,0,1,1,1,1,0,1] (body Tryd.f174)) (knIn x m i 0 y r th []) .normal (knIn x m i (x.chain.days + 1).toNat y r th (thRow x i (x.chain.days + 1).toNat)) := by
 have hd := hV.days
 refine LF.each (id := 2) (c := Code.at [1,0,1,0,0,1,1,0,0,1,1,1,1,0,1,0,0] (body Tryd.f174)) (by kernel_rfl) (x.chain.days + 1).toNat (fun j => knIn x m i j y r th (thRow x i j)) (fun j hj => ?_) ?_
 ·have hth := thickU_con hV hc (s := (i : Int)) (d := (j : Int)) (by omega) (by omega)
  have hn : thRow x i (j + 1) = thRow x i j ++ [(thickF x.chain (truthsF x.chain []) x.chain.turns i j).lo] := range_snoc _ j
  have hlen : (thRow x i j).length ≤ 31 := by unfold thRow; rw [List.length_map,List.length_range]; omega
  simp only [hn]
  cases th with
  | nil =>
   cases hl : thRow x i j with
   | nil => exact ⟨_,_,_,_,_,_,knowAn_2_on x m i j y r (thickF x.chain (truthsF x.chain []) x.chain.turns i j) 0,⟨decide_eq_true (by omega),hth,by omega,by omega,i64_of (by omega) (by omega),trivial⟩,rfl⟩
   | cons z l =>
    rw [hl] at hlen
    exact ⟨_,_,_,_,_,_,knowAo_2_on x m i j y r z l (thickF x.chain (truthsF x.chain []) x.chain.turns i j) 0,⟨decide_eq_true (by omega),hth,by omega,rfl,by rw [List.length_append]; simp only [List.length_cons,List.length_nil] at hlen ⊢; omega,i64_of (by omega) (by omega),trivial⟩,rfl⟩
  | cons t q =>
   cases hl : thRow x i j with
   | nil => exact ⟨_,_,_,_,_,_,knowBn_2_on x m i j y r t q (thickF x.chain (truthsF x.chain []) x.chain.turns i j) 0,⟨decide_eq_true (by omega),hth,by omega,by omega,i64_of (by omega) (by omega),trivial⟩,rfl⟩
   | cons z l =>
    rw [hl] at hlen
    exact ⟨_,_,_,_,_,_,knowBo_2_on x m i j y r t q z l (thickF x.chain (truthsF x.chain []) x.chain.turns i j) 0,⟨decide_eq_true (by omega),hth,by omega,rfl,by rw [List.length_append]; simp only [List.length_cons,List.length_nil] at hlen ⊢; omega,i64_of (by omega) (by omega),trivial⟩,rfl⟩
 ·have hf : decide ((((x.chain.days + 1).toNat : Nat) : Int) < x.chain.days + 1) = false := decide_eq_false (by omega)
  cases th with
  | nil => cases thRow x i (x.chain.days + 1).toNat with
   | nil => exact ⟨_,_,_,_,_,_,_,knowAn_2_end x m i _ y r,⟨hf,trivial⟩,.inl ⟨rfl,rfl⟩,rfl⟩
   | cons z l => exact ⟨_,_,_,_,_,_,_,knowAo_2_end x m i _ y r z l,⟨hf,trivial⟩,.inl ⟨rfl,rfl⟩,rfl⟩
  | cons t q => cases thRow x i (x.chain.days + 1).toNat with
   | nil => exact ⟨_,_,_,_,_,_,_,knowBn_2_end x m i _ y r t q,⟨hf,trivial⟩,.inl ⟨rfl,rfl⟩,rfl⟩
   | cons z l => exact ⟨_,_,_,_,_,_,_,knowBo_2_end x m i _ y r t q z l,⟨hf,trivial⟩,.inl ⟨rfl,rfl⟩,rfl⟩
theorem know_con {x : FBook} (hV : FValid x) (hc : canF x.chain = true) (m : List (K2 × Bool)) : CF 174 [fopD x m] (fbkD x (.work m) (knowTh x) (knowWr x)) := by
 have hC := hV.chain
 have hd := hC.days
 have hn := hC.secs
 have hfe := hV.feet
 have hloop : LF 63 (Code.at [1,0,1] (body Tryd.f174)) (knS x m 0 (wrTo x 0) (thTo x 0)) .normal (knS x m x.feet.length (wrTo x x.feet.length) (thTo x x.feet.length)) := by
  refine LF.each (id := 0) (c := Code.at [1,0,1,0,0] (body Tryd.f174)) (by kernel_rfl) x.feet.length (fun i => knS x m i (wrTo x i) (thTo x i)) (fun i hi => ?_) ?_
  ·have hw := wearU_con hC hc (s := (i : Int)) (by omega)
   have e1 : wrTo x (i + 1) = wrTo x i ++ [(toldF (wearAt (i : Int)) (truthsF x.chain [])).hi] := range_snoc _ i
   have e2 : thTo x (i + 1) = thTo x i ++ [thRow x i (x.chain.days + 1).toNat] := range_snoc _ i
   have hrow : ∃ z l,thRow x i (x.chain.days + 1).toNat = z :: l := by
    cases h : thRow x i (x.chain.days + 1).toNat with
    | nil =>
     have := congrArg List.length h
     unfold thRow at this
     rw [List.length_map,List.length_range] at this
     simp at this
     omega
    | cons z l => exact ⟨z,l,rfl⟩
   obtain ⟨z,l,hrow⟩ := hrow
   simp only [e1,e2]
   have hin := know_in hC hc m i (by omega)
   rw [hrow] at hin ⊢
   cases i with
   | zero => exact ⟨_,_,_,_,_,_,knowA_0_on x m 0 (toldF (wearAt ((0 : Nat) : Int)) (truthsF x.chain [])) 0 (x.chain.days + 1).toNat z l,⟨lt_true hi,hw,by omega,by omega,rfl,i64_of (by omega) (by omega),hin (toldF (wearAt ((0 : Nat) : Int)) (truthsF x.chain [])).hi [] [],rfl,by omega,rfl,i64_of (by omega) (by omega),trivial⟩,rfl⟩
   | succ i =>
    have hwl : (wrTo x (i + 1)).length = i + 1 := by unfold wrTo; rw [List.length_map,List.length_range]
    have htl : (thTo x (i + 1)).length = i + 1 := by unfold thTo; rw [List.length_map,List.length_range]
    obtain ⟨y,r,hy⟩ := List.exists_cons_of_length_eq_add_one hwl
    obtain ⟨t,q,ht⟩ := List.exists_cons_of_length_eq_add_one htl
    rw [hy] at hwl
    rw [ht] at htl
    rw [hy,ht]
    exact ⟨_,_,_,_,_,_,knowB_0_on x m (i + 1) y r t q (toldF (wearAt ((i + 1 : Nat) : Int)) (truthsF x.chain [])) 0 (x.chain.days + 1).toNat z l,⟨lt_true hi,hw,by omega,rfl,by rw [List.length_append,hwl,List.length_singleton]; omega,rfl,i64_of (by omega) (by omega),hin y _ (t :: q),rfl,rfl,by rw [List.length_append,htl,List.length_singleton]; omega,rfl,i64_of (by omega) (by omega),trivial⟩,rfl⟩
  ·have hwl : (wrTo x x.feet.length).length = (x.feet.length - 1) + 1 := by unfold wrTo; rw [List.length_map,List.length_range]; omega
   have htl : (thTo x x.feet.length).length = (x.feet.length - 1) + 1 := by unfold thTo; rw [List.length_map,List.length_range]; omega
   obtain ⟨y,r,hy⟩ := List.exists_cons_of_length_eq_add_one hwl
   obtain ⟨t,q,ht⟩ := List.exists_cons_of_length_eq_add_one htl
   rw [hy,ht]
   exact ⟨_,_,_,_,_,_,_,knowB_0_end x m _ y r t q,⟨lt_false,trivial⟩,.inl ⟨rfl,rfl⟩,rfl⟩
 have hwl : (wrTo x x.feet.length).length = (x.feet.length - 1) + 1 := by unfold wrTo; rw [List.length_map,List.length_range]; omega
 have htl : (thTo x x.feet.length).length = (x.feet.length - 1) + 1 := by unfold thTo; rw [List.length_map,List.length_range]; omega
 obtain ⟨y,r,hy⟩ := List.exists_cons_of_length_eq_add_one hwl
 obtain ⟨t,q,ht⟩ := List.exists_cons_of_length_eq_add_one htl
 have e1 : knowWr x = y :: r := hy
 have e2 : knowTh x = t :: q := ht
 rw [show knS x m 0 (wrTo x 0) (thTo x 0) = knowA_S0 x m 0 from rfl,hy,ht,show knS x m x.feet.length (y :: r) (t :: q) = knowB_S0 x m x.feet.length y r t q from rfl] at hloop
 rw [e1,e2]
 exact contract_of_path (GF 63) knowB_fn (knowB_all x m x.feet.length y r t q) ⟨hloop,rfl,rfl,rfl,rfl,trivial⟩
theorem wearHi_in {b : Book} (hV : Valid b) (hc : canF b = true) {p : Nat} (hp : p < 4) : 0 ≤ wearHi b p ∧ wearHi b p ≤ 1000 := by
 obtain ⟨_,⟨t,ht,he⟩,_⟩ := told_spec (wearAt p) (ne_of_can hc)
 have ho := truths_ok hV [] t ht
 unfold wearHi
 rw [he]
 simp only [wearAt,Int.toNat_natCast]
 clear he ht
 have h4 : p = 0 ∨ p = 1 ∨ p = 2 ∨ p = 3 := by omega
 rcases h4 with rfl | rfl | rfl | rfl
 ·exact ho.w0
 ·exact ho.w1
 ·exact ho.w2
 ·exact ho.w3
theorem thickLo_in {b : Book} (hV : Valid b) (hc : canF b = true) {s d : Nat} (hs : s < b.secs.length) (hd : (d : Int) ≤ b.days) : -1000000 ≤ thickLo b s d ∧ thickLo b s d ≤ 1000000 := by
 obtain ⟨⟨t,ht,he⟩,_⟩ := told_spec (thick1F b b.turns s d) (ne_of_can hc)
 have ho := truths_ok hV [] t ht
 have hdd := hV.days
 have hn := hV.secs
 have hw := wornF_in (n := b.secs.length) (s := (s : Int)) (turns := b.turns) ho.w0 ho.w1 ho.w2 ho.w3 d
 have h200 : 0 ≤ (firstF t s).lo ∧ (firstF t s).lo ≤ 200 := by
  have h2 := (wholeGo_ok hV.sec (openF b []) b.secs.length 0 ⟨0,0,0,0⟩ (by omega) zero4 t ht).1
  have hs4 : s < 4 := by omega
  obtain ⟨q0,q1,q2,q3⟩ := h2
  simp only [firstF,Int.toNat_natCast]
  clear he hw hs hd
  have h4 : s = 0 ∨ s = 1 ∨ s = 2 ∨ s = 3 := by omega
  rcases h4 with rfl | rfl | rfl | rfl
  ·exact ⟨q0.1,Int.le_trans q0.2.1 q0.2.2⟩
  ·exact ⟨q1.1,Int.le_trans q1.2.1 q1.2.2⟩
  ·exact ⟨q2.1,Int.le_trans q2.2.1 q2.2.2⟩
  ·exact ⟨q3.1,Int.le_trans q3.2.1 q3.2.2⟩
 unfold thickLo thickF
 rw [he]
 simp only [thick1F,wornT,Int.toNat_natCast]
 show -1000000 ≤ (firstF t s).lo - wornF b.secs.length t.w0 t.w1 t.w2 t.w3 b.turns s d ∧ (firstF t s).lo - wornF b.secs.length t.w0 t.w1 t.w2 t.w3 b.turns s d ≤ 1000000
 omega
theorem know_ok {x : FBook} (hV : FValid x) (hc : canF x.chain = true) : KnOk x (knowTh x) (knowWr x) := by
 have hfe := hV.feet
 have hn := hV.chain.secs
 refine ⟨by unfold knowWr; rw [List.length_map,List.length_range],fun n hn' => ?_,by unfold knowTh; rw [List.length_map,List.length_range],fun l hl => ?_,fun l hl n hn' => ?_⟩
 ·obtain ⟨s,hs,rfl⟩ := List.mem_map.1 hn'
  rw [List.mem_range] at hs
  exact wearHi_in hV.chain hc (by omega)
 ·obtain ⟨s,hs,rfl⟩ := List.mem_map.1 hl
  rw [List.length_map,List.length_range]
 ·obtain ⟨s,hs,rfl⟩ := List.mem_map.1 hl
  obtain ⟨d,hd,rfl⟩ := List.mem_map.1 hn'
  rw [List.mem_range] at hs hd
  exact thickLo_in hV.chain hc (by omega) (by omega)
end Go.Di

namespace Go.Di
open Proofs

/-! ### What a plan is -/
theorem look_upd {α : Type} : ∀ (l : List (K2 × α)) (k k' : K2) (v : α),lookK (updK l k v) k' = if k' = k then some v else lookK l k'
 | [],k,k',v => by simp only [updK,lookK]
 | (k0,u) :: l,k,k',v => by
  simp only [updK]
  by_cases h : k = k0
  ·subst h
   rw [if_pos rfl]
   simp only [lookK]
   by_cases h2 : k' = k
   ·rw [if_pos h2,if_pos h2]
   ·rw [if_neg h2,if_neg h2,if_neg h2]
  ·rw [if_neg h]
   simp only [lookK,look_upd l k k' v]
   by_cases h2 : k' = k0
   ·rw [if_pos h2,if_pos h2]
    by_cases h3 : k' = k
    ·exact absurd (h3.symm.trans h2) h
    ·rw [if_neg h3]
   ·rw [if_neg h2,if_neg h2]
theorem worksS_look (m : List (K2 × Bool)) (d : Int) : ∀ (n : Nat) (k : K2),(lookK (worksS m d n) k).getD false = ((decide (k.1 = d ∧ 0 ≤ k.2 ∧ k.2 < n)) || (lookK m k).getD false)
 | 0,k => by
  have : decide (k.1 = d ∧ 0 ≤ k.2 ∧ k.2 < ((0 : Nat) : Int)) = false := decide_eq_false (by omega)
  rw [this]
  rfl
 | n + 1,k => by
  simp only [worksS,look_upd]
  by_cases h : k = (d,(n : Int))
  ·subst h
   rw [if_pos rfl]
   have : decide ((d = d) ∧ 0 ≤ (n : Int) ∧ (n : Int) < ((n + 1 : Nat) : Int)) = true := decide_eq_true ⟨rfl,by omega,by omega⟩
   show true = (decide ((d = d) ∧ 0 ≤ (n : Int) ∧ (n : Int) < ((n + 1 : Nat) : Int)) || _)
   rw [this]
   rfl
  ·rw [if_neg h,worksS_look m d n k]
   refine congrArg (· || _) ?_
   rw [decide_eq_decide]
   have : ¬ (k.1 = d ∧ k.2 = n) := fun hh => h (Prod.ext hh.1 hh.2)
   omega
theorem worksO_look (x : FBook) : ∀ (i : Nat),i ≤ x.opn.length → ∀ k : K2,((lookK (worksO x i) k).getD false = true ↔ (∃ j,j < i ∧ x.opn.getD j 0 = k.1) ∧ 0 ≤ k.2 ∧ k.2 < x.feet.length)
 | 0,_,k => by
  constructor
  ·intro h
   simp only [worksO,lookK] at h
   split at h <;> cases h
  ·rintro ⟨⟨j,hj,_⟩,_⟩
   omega
 | i + 1,h,k => by
  simp only [worksO,worksS_look]
  rw [Bool.or_eq_true,worksO_look x i (by omega) k,decide_eq_true_eq]
  constructor
  ·rintro (⟨h1,h2,h3⟩ | ⟨⟨j,hj,h1⟩,h2,h3⟩)
   ·exact ⟨⟨i,by omega,h1.symm⟩,h2,h3⟩
   ·exact ⟨⟨j,by omega,h1⟩,h2,h3⟩
  ·rintro ⟨⟨j,hj,h1⟩,h2,h3⟩
   by_cases hji : j = i
   ·subst hji
    exact .inl ⟨h1.symm,h2,h3⟩
   ·exact .inr ⟨⟨j,by omega,h1⟩,h2,h3⟩
/-- A work of a book. -/
def WorkIn (x : FBook) (w : Work) : Prop := w.d ∈ x.opn ∧ 0 ≤ w.s ∧ w.s < x.feet.length
theorem mem_iff_getD {l : List Int} {v : Int} : v ∈ l ↔ ∃ j,j < l.length ∧ l.getD j 0 = v := by
 constructor
 ·intro h
  obtain ⟨j,hj,he⟩ := List.getElem_of_mem h
  exact ⟨j,hj,by rw [List.getD_eq_getElem?_getD,List.getElem?_eq_getElem hj]; exact he⟩
 ·rintro ⟨j,hj,rfl⟩
  exact mem_getD 0 hj
theorem isWork_iff {x : FBook} {w : Work} : isWorkF (worksF x) w = true ↔ WorkIn x w := by
 unfold isWorkF worksF WorkIn
 rw [worksO_look x _ (Nat.le_refl _),mem_iff_getD]
/-- Does a work come before another one? -/
def wlt (a b : Work) : Prop := a.d < b.d ∨ a.d = b.d ∧ a.s < b.s
theorem wlt_trans {a b c : Work} (h1 : wlt a b) (h2 : wlt b c) : wlt a c := by unfold wlt at *; omega
theorem compare_wlt {a b : Work} : ¬ compareF a b ≥ 0 ↔ wlt a b := by
 unfold compareF wlt
 split <;> omega
/-- A list of works that is a plan. -/
def IsPlan (x : FBook) (plan : List Work) : Prop := (∀ w ∈ plan,WorkIn x w) ∧ plan.Pairwise wlt
theorem isPlanGo_iff {x : FBook} (ho : ∀ d ∈ x.opn,0 ≤ d) : ∀ (l : List Work) (la : Work),(la = ⟨-1,0⟩ ∨ 0 ≤ la.d) → (isPlanGo (worksF x) la l = true ↔ IsPlan x l ∧ (la = ⟨-1,0⟩ ∨ ∀ w ∈ l,wlt la w))
 | [],la,_ => by
  simp only [isPlanGo,true_iff]
  exact ⟨⟨fun w hw => (by cases hw),List.Pairwise.nil⟩,.inr fun w hw => (by cases hw)⟩
 | w :: r,la,hla => by
  have hb : badF (worksF x) la w = false ↔ WorkIn x w ∧ (la = ⟨-1,0⟩ ∨ wlt la w) := by
   unfold badF
   rw [Bool.or_eq_false_iff,Bool.and_eq_false_iff,Bool.not_eq_false',isWork_iff,Bool.not_eq_false',decide_eq_true_eq,decide_eq_false_iff_not,compare_wlt]
   refine and_congr_right fun _ => or_congr_left ?_
   constructor
   ·rintro ⟨h1,h2⟩
    cases la
    simp only at h1 h2
    rw [h1,h2]
   ·rintro rfl
    exact ⟨rfl,rfl⟩
  simp only [isPlanGo]
  constructor
  ·intro h
   cases hbad : badF (worksF x) la w with
   | true => rw [hbad] at h; simp at h
   | false =>
    rw [hbad] at h
    obtain ⟨h1,h2⟩ := hb.1 hbad
    have hwd := ho _ h1.1
    obtain ⟨⟨h3,h4⟩,h5⟩ := (isPlanGo_iff ho r w (.inr hwd)).1 (by simpa using h)
    have h6 : ∀ v ∈ r,wlt w v := by
     rcases h5 with h5 | h5
     ·rw [h5] at hwd; exact absurd hwd (by decide)
     ·exact h5
    refine ⟨⟨fun v hv => ?_,List.pairwise_cons.2 ⟨h6,h4⟩⟩,h2.imp id fun h v hv => ?_⟩
    ·rcases List.mem_cons.1 hv with rfl | hv
     ·exact h1
     ·exact h3 v hv
    ·rcases List.mem_cons.1 hv with rfl | hv
     ·exact h
     ·exact wlt_trans h (h6 v hv)
  ·rintro ⟨⟨h1,h2⟩,h3⟩
   have hw := h1 w (by simp)
   have hbad : badF (worksF x) la w = false := hb.2 ⟨hw,h3.imp id fun h => h w (by simp)⟩
   rw [hbad]
   obtain ⟨h4,h5⟩ := List.pairwise_cons.1 h2
   simpa using (isPlanGo_iff ho r w (.inr (ho _ hw.1))).2 ⟨⟨fun v hv => h1 v (by simp [hv]),h5⟩,.inr h4⟩
theorem isPlan_iff {x : FBook} (hV : FValid x) {plan : List Work} : isPlanF (worksF x) plan = true ↔ IsPlan x plan := by
 unfold isPlanF
 rw [isPlanGo_iff (fun d hd => (hV.opn.1 d hd).1) plan ⟨-1,0⟩ (.inl rfl)]
 exact ⟨fun h => h.1,fun h => ⟨h,.inl rfl⟩⟩
theorem climb_len : ∀ (l : List Int) (a c : Int),l.Pairwise (· < ·) → (∀ z ∈ l,a ≤ z ∧ z < c) → (l.length : Int) ≤ c - a ∨ l = []
 | [],_,_,_,_ => .inr rfl
 | z :: l,a,c,hp,hb => by
  obtain ⟨h1,h2⟩ := List.pairwise_cons.1 hp
  have hz := hb z (by simp)
  refine .inl ?_
  rcases climb_len l (z + 1) c h2 (fun v hv => ⟨by have := h1 v hv; omega,(hb v (by simp [hv])).2⟩) with h | h
  ·simp only [List.length_cons]
   omega
  ·rw [h]
   simp only [List.length_cons,List.length_nil]
   omega
theorem IsPlan.ok {x : FBook} (hx : FIn x) {plan : List Work} (h : IsPlan x plan) : PlanOk x plan := by
 have hw : ∀ w ∈ plan,WorkOk x w := fun w hw => ⟨(h.1 w hw).2,hx.opn _ (h.1 w hw).1⟩
 refine ⟨?_,hw⟩
 have hn := hx.n
 -- works by their places among open days
 have hnd : plan.length ≤ 20 * 1 ∨ True := .inr trivial
 have hcode : (plan.map fun w => (x.opn.filter fun d => decide (d < w.d)).length * (4 : Int) + w.s).Pairwise (· < ·) := by
  rw [List.pairwise_map]
  refine h.2.imp_of_mem fun {a b} ha hb hab => ?_
  have h1 := (hw a ha).s
  have h2 := (hw b hb).s
  rcases hab with hlt | ⟨heq,hs⟩
  ·have hmono : (x.opn.filter fun d => decide (d < a.d)).length < (x.opn.filter fun d => decide (d < b.d)).length := by
    have hsub : ∀ (l : List Int),a.d ∈ l → (l.filter fun d => decide (d < a.d)).length < (l.filter fun d => decide (d < b.d)).length := by
     intro l
     induction l with
     | nil => intro hm; cases hm
     | cons e l ih =>
      intro hm
      have hle : ∀ l : List Int,(l.filter fun d => decide (d < a.d)).length ≤ (l.filter fun d => decide (d < b.d)).length := by
       intro l
       induction l with
       | nil => exact Nat.le_refl _
       | cons e l ih =>
        by_cases h1 : e < a.d
        ·rw [List.filter_cons_of_pos (by simpa using h1),List.filter_cons_of_pos (by simp; omega)]
         simp only [List.length_cons]; omega
        ·rw [List.filter_cons_of_neg (by simpa using h1)]
         by_cases h2 : e < b.d
         ·rw [List.filter_cons_of_pos (by simpa using h2)]
          simp only [List.length_cons]; omega
         ·rw [List.filter_cons_of_neg (by simpa using h2)]
          exact ih
      by_cases he : e = a.d
      ·subst he
       rw [List.filter_cons_of_neg (by simp),List.filter_cons_of_pos (by simp; omega)]
       have := hle l
       simp only [List.length_cons]
       omega
      ·have hm' : a.d ∈ l := by
        rcases List.mem_cons.1 hm with h | h
        ·exact absurd h.symm he
        ·exact h
       have := ih hm'
       by_cases h1 : e < a.d
       ·rw [List.filter_cons_of_pos (by simpa using h1),List.filter_cons_of_pos (by simp; omega)]
        simp only [List.length_cons]; omega
       ·rw [List.filter_cons_of_neg (by simpa using h1)]
        by_cases h2 : e < b.d
        ·rw [List.filter_cons_of_pos (by simpa using h2)]
         simp only [List.length_cons]; omega
        ·rw [List.filter_cons_of_neg (by simpa using h2)]
         exact this
    exact hsub x.opn (h.1 a ha).1
   omega
  ·rw [heq]
   omega
 have hb : ∀ z ∈ plan.map fun w => (x.opn.filter fun d => decide (d < w.d)).length * (4 : Int) + w.s,0 ≤ z ∧ z < 24 := by
  intro z hz
  obtain ⟨w,hwm,rfl⟩ := List.mem_map.1 hz
  have h1 := (hw w hwm).s
  have h2 := List.length_filter_le (fun d => decide (d < w.d)) x.opn
  have h3 := hx.opnl
  omega
 rcases climb_len _ 0 24 hcode hb with h1 | h1
 ·rw [List.length_map] at h1
  omega
 ·have := congrArg List.length h1
  rw [List.length_map] at this
  simp only [List.length_nil] at this
  omega
theorem isPlanW_con {x : FBook} (hV : FValid x) (th : List (List Int)) (wr : List Int) {plan : List Work} (hl : plan.length ≤ 9223372036854775807) : CF 141 [fbkD x (.work (worksF x)) th wr,.sl false .work plan] (.bool (isPlanF (worksF x) plan)) :=
 isPlan_con x (worksF x) th wr hl fun w hw => by
  have h := isWork_iff.1 hw
  have h1 := hV.opn.1 _ h.1
  have h2 := hV.chain.days
  have h3 := hV.inn.n
  have h4 := h.2
  omega

/-! ### asked -/
theorem ferr_cases {x : FBook} (is : Bool) : (fvalidF x = false ∧ ferrF x is = 70) ∨ (FValid x ∧ is = false ∧ ferrF x is = 71) ∨ (FValid x ∧ is = true ∧ canF x.chain = false ∧ ferrF x is = 72) ∨ (FValid x ∧ is = true ∧ canF x.chain = true ∧ ferrF x is = 0) := by
 unfold ferrF
 cases hv : fvalidF x with
 | false => exact .inl ⟨rfl,rfl⟩
 | true =>
  have hV := fvalid_iff.1 hv
  cases is with
  | false => exact .inr (.inl ⟨hV,rfl,rfl⟩)
  | true => cases hc : canF x.chain with
   | false => exact .inr (.inr (.inl ⟨hV,rfl,rfl,rfl⟩))
   | true => exact .inr (.inr (.inr ⟨hV,rfl,rfl,rfl⟩))
/-- The book that is handed on. -/
def faskD (x : FBook) (is : Bool) : D := if ferrF x is = 70 then zfbkD else if ferrF x is = 0 then fbkD x (.work (worksF x)) (knowTh x) (knowWr x) else fopD x (worksF x)
theorem fasked_con {x : FBook} (hs : FSmall x) (g : FuncId) (fs : List D) (cs : List (List D)) (is : Bool) (hg : FValid x → CF g (fs ++ [fopD x (worksF x)] ++ cs.map fun cs => .ref cs 0) (.bool is)) :
  CF 137 [fbookD x,.fn g fs cs] (.tup [faskD x is,.int .i64 (ferrF x is)]) := by
 have hch := fcheck_con hs
 unfold fcheckF at hch
 unfold faskD
 rcases ferr_cases (x := x) is with ⟨h1,h2⟩ | ⟨hV,h1,h2⟩ | ⟨hV,h1,h3,h2⟩ | ⟨hV,h1,h3,h2⟩
 ·rw [h1] at hch
  rw [h2]
  exact contract_of_path (GF 34) fasked_fn (fasked_bad x g fs cs 70) ⟨hch,rfl,trivial⟩
 all_goals
  rw [fvalid_iff.2 hV] at hch
  have ho := opened_con' (x := x) (by have := hV.inn.n; omega) (by have := hV.inn.opnl; omega)
  have hg' := hg hV
  have hr := (right_con' hs.chain).up
  rw [valid_iff.2 hV.chain,Bool.true_and] at hr
  rw [h2]
 ·rw [h1] at hg'
  exact contract_of_path (GF 34) fasked_fn (fasked_ask x g fs cs _) ⟨hch,ho,hg',trivial⟩
 ·rw [h1] at hg'
  rw [h3] at hr
  exact contract_of_path (GF 34) fasked_fn (fasked_no x g fs cs _ _) ⟨hch,ho,hg',hr,trivial⟩
 ·rw [h1] at hg'
  rw [h3] at hr
  exact contract_of_path (GF 34) fasked_fn (fasked_ok x g fs cs _ _ _ _) ⟨hch,ho,hg',hr,know_con hV h3 _,trivial⟩

/-! ### Least,First,Safe -/
def planB (x : FBook) (plan : List Work) : Bool := isPlanF (worksF x) plan
def leastB (x : FBook) (plan : List Work) (s d : Int) : Bool := planB x plan && withinF s 0 (x.feet.length - 1) && withinF d 0 x.chain.days
theorem fleast1_con {x : FBook} (hV : FValid x) {plan : List Work} (hl : plan.length ≤ 9223372036854775807) (s d : Int) :
  CF 140 ([] ++ [fopD x (worksF x)] ++ [[.sl false .work plan],[.int .i64 s],cellsOf (fbookD x),[.int .i64 d]].map fun cs => .ref cs 0) (.bool (leastB x plan s d)) := by
 refine Contract.ofOp ?_
 have c1 := isPlanW_con hV [] [] hl
 have c2 := fwithin_con s 0 (x.feet.length - 1)
 have c3 := fwithin_con d 0 x.chain.days
 have hn := hV.inn.n
 have hi : inI64 ((x.feet.length : Int) - 1) := i64_of (by omega) (by omega)
 unfold leastB planB
 cases h1 : isPlanF (worksF x) plan with
 | false =>
  rw [h1] at c1
  refine contract_of_path (GF 25) fleast1_fn (fleast1_a x _ [] [] x plan s d false false false) ?_
  repeat (first | exact trivial | refine ⟨by first | exact c1 | exact c2 | exact c3 | exact hi | rfl | omega,?_⟩)
 | true =>
  rw [h1] at c1
  cases h2 : withinF s 0 (x.feet.length - 1) with
  | false =>
   rw [h2] at c2
   refine contract_of_path (GF 25) fleast1_fn (fleast1_b x _ [] [] x plan s d true false false) ?_
   repeat (first | exact trivial | refine ⟨by first | exact c1 | exact c2 | exact c3 | exact hi | rfl | omega,?_⟩)
  | true =>
   rw [h2] at c2
   refine contract_of_path (GF 25) fleast1_fn (fleast1_c x _ [] [] x plan s d true true (withinF d 0 x.chain.days)) ?_
   repeat (first | exact trivial | refine ⟨by first | exact c1 | exact c2 | exact c3 | exact hi | rfl | omega,?_⟩)
theorem ffirst1_con {x : FBook} (hV : FValid x) {plan : List Work} (hl : plan.length ≤ 9223372036854775807) : CF 144 ([] ++ [fopD x (worksF x)] ++ [[.sl false .work plan]].map fun cs => .ref cs 0) (.bool (planB x plan)) :=
 Contract.ofOp (contract_of_path (GF 7) ffirst1_fn (ffirst1_all x _ [] [] plan _) ⟨isPlanW_con hV [] [] hl,trivial⟩)
theorem falways_con (x : FBook) : CF 138 ([] ++ [fopD x (worksF x)] ++ ([] : List (List D)).map fun cs => .ref cs 0) (.bool true) :=
 Contract.ofOp (contract_of_path (GF 3) falways_fn (falways_all x _ [] []) trivial)
end Go.Di

namespace Go.Di
open Proofs

/-! ### Least,First,Safe,Feet,Short: what they return -/
def fLeastF (x : FBook) (plan : List Work) (s d : Int) : Int × Int := if ferrF x (leastB x plan s d) = 0 then (fleastF x (knowTh x) (knowWr x) plan s d,0) else (0,ferrF x (leastB x plan s d))
theorem least_of {x : FBook} {plan : List Work} {s d : Int} (h : leastB x plan s d = true) : planB x plan = true ∧ (0 ≤ s ∧ s < x.feet.length) ∧ 0 ≤ d ∧ d ≤ x.chain.days := by
 unfold leastB at h
 rw [Bool.and_eq_true,Bool.and_eq_true,within_iff,within_iff] at h
 exact ⟨h.1.1,by omega,h.2⟩
theorem ferr_bad {x : FBook} {is : Bool} (h : ferrF x is ≠ 0) : (faskD x is = zfbkD ∨ faskD x is = fopD x (worksF x)) ∧ (ferrF x is != 0) = true := by
 refine ⟨?_,by simpa using h⟩
 unfold faskD
 by_cases h1 : ferrF x is = 70
 ·rw [if_pos h1]; exact .inl rfl
 ·rw [if_neg h1,if_neg h]; exact .inr rfl
theorem ferr_ok {x : FBook} {is : Bool} (h : ferrF x is = 0) : FValid x ∧ is = true ∧ canF x.chain = true ∧ faskD x is = fbkD x (.work (worksF x)) (knowTh x) (knowWr x) := by
 rcases ferr_cases (x := x) is with ⟨_,h2⟩ | ⟨_,_,h2⟩ | ⟨_,_,_,h2⟩ | ⟨hV,h1,h3,h2⟩
 ·rw [h] at h2; exact absurd h2 (by decide)
 ·rw [h] at h2; exact absurd h2 (by decide)
 ·rw [h] at h2; exact absurd h2 (by decide)
 ·refine ⟨hV,h1,h3,?_⟩
  unfold faskD
  rw [h]
  rfl
theorem fLeast_con {x : FBook} (hs : FSmall x) {plan : List Work} (hl : plan.length ≤ 9223372036854775807) (s d : Int) :
  CF 81 [fbookD x,.sl false .work plan,.int .i64 s,.int .i64 d] (.tup [.int .i64 (fLeastF x plan s d).1,.int .i64 (fLeastF x plan s d).2]) := by
 have ha := fasked_con hs 140 [] [[.sl false .work plan],[.int .i64 s],cellsOf (fbookD x),[.int .i64 d]] (leastB x plan s d) (fun hV => fleast1_con hV hl s d)
 unfold fLeastF
 by_cases he : ferrF x (leastB x plan s d) = 0
 ·obtain ⟨hV,h1,h2,h3⟩ := ferr_ok he
  obtain ⟨h4,h5,h6⟩ := least_of h1
  rw [if_pos he]
  rw [h3,he] at ha
  exact contract_of_path (GF 26) fLeast_fn (fLeast_ok x plan s d _ _ _ _) ⟨ha,by omega,by omega,fleast_con hV.inn (know_ok hV h2) _ (((isPlan_iff hV).1 h4).ok hV.inn) s d h5 h6,trivial⟩
 ·obtain ⟨h1,h2⟩ := ferr_bad he
  rw [if_neg he]
  rcases h1 with h1 | h1
  ·rw [h1] at ha
   exact contract_of_path (GF 26) fLeast_fn (fLeast_errz x plan s d _) ⟨ha,h2,trivial⟩
  ·rw [h1] at ha
   exact contract_of_path (GF 26) fLeast_fn (fLeast_erro x plan s d _ _) ⟨ha,h2,trivial⟩
/-- The first day and section,and the error. -/
def fFirstF (x : FBook) (plan : List Work) : Int × Int × Int := if ferrF x (planB x plan) = 0 then (match fthinF x (knowTh x) (knowWr x) plan with
  | some (d,s) => ((d : Int),(s : Int),0)
  | none => (0,0,4)) else (0,0,ferrF x (planB x plan))
theorem fFirst_con {x : FBook} (hs : FSmall x) {plan : List Work} (hl : plan.length ≤ 9223372036854775807) :
  CF 83 [fbookD x,.sl false .work plan] (.tup [.int .i64 (fFirstF x plan).1,.int .i64 (fFirstF x plan).2.1,.int .i64 (fFirstF x plan).2.2]) := by
 have ha := fasked_con hs 144 [] [[.sl false .work plan]] (planB x plan) (fun hV => ffirst1_con hV hl)
 unfold fFirstF
 by_cases he : ferrF x (planB x plan) = 0
 ·obtain ⟨hV,h1,h2,h3⟩ := ferr_ok he
  rw [if_pos he]
  rw [h3,he] at ha
  have ht := thin_con hV.inn (know_ok hV h2) (.work (worksF x)) (((isPlan_iff hV).1 h1).ok hV.inn)
  cases hf : fthinF x (knowTh x) (knowWr x) plan with
  | none =>
   rw [hf] at ht
   exact contract_of_path (GF 29) fFirst_fn (fFirst_none x plan _ _ _ 0 0) ⟨ha,ht,trivial⟩
  | some p =>
   obtain ⟨d,s⟩ := p
   rw [hf] at ht
   exact contract_of_path (GF 29) fFirst_fn (fFirst_some x plan _ _ _ d s) ⟨ha,ht,trivial⟩
 ·obtain ⟨h1,h2⟩ := ferr_bad he
  rw [if_neg he]
  rcases h1 with h1 | h1
  ·rw [h1] at ha
   exact contract_of_path (GF 29) fFirst_fn (fFirst_errz x plan _) ⟨ha,h2,trivial⟩
  ·rw [h1] at ha
   exact contract_of_path (GF 29) fFirst_fn (fFirst_erro x plan _ _) ⟨ha,h2,trivial⟩
def fSafeF (x : FBook) (plan : List Work) : Bool × Int := if (fFirstF x plan).2.2 = 0 then (false,0) else if (fFirstF x plan).2.2 = 4 then (true,0) else (false,(fFirstF x plan).2.2)
theorem fSafe_con {x : FBook} (hs : FSmall x) {plan : List Work} (hl : plan.length ≤ 9223372036854775807) : CF 78 [fbookD x,.sl false .work plan] (.tup [.bool (fSafeF x plan).1,.int .i64 (fSafeF x plan).2]) := by
 have ha := fFirst_con hs hl
 unfold fSafeF
 generalize fFirstF x plan = r at ha
 obtain ⟨a,b,e⟩ := r
 simp only at ha ⊢
 by_cases h0 : e = 0
 ·subst h0
  exact contract_of_path (GF 23) fSafe_fn (fSafe_ok x plan a b 0) ⟨ha,rfl,trivial⟩
 ·rw [if_neg h0]
  have h0' : (e == 0) = false := beq_eq_false_iff_ne.2 h0
  by_cases h4 : e = 4
  ·subst h4
   exact contract_of_path (GF 23) fSafe_fn (fSafe_none x plan a b 4) ⟨ha,rfl,rfl,trivial⟩
  ·rw [if_neg h4]
   have h4' : (e == 4) = false := beq_eq_false_iff_ne.2 h4
   exact contract_of_path (GF 23) fSafe_fn (fSafe_err x plan a b e) ⟨ha,h0',h4',trivial⟩
/-- The error of a book and of a plan. -/
def fplanE (x : FBook) (plan : List Work) : Int := if fvalidF x = false then 70 else if planB x plan = false then 71 else 0
def fFeetF (x : FBook) (plan : List Work) : Int × Int := if fplanE x plan = 0 then (feetF x plan,0) else (0,fplanE x plan)
theorem fFeet_con {x : FBook} (hs : FSmall x) {plan : List Work} (hl : plan.length ≤ 9223372036854775807) : CF 84 [fbookD x,.sl false .work plan] (.tup [.int .i64 (fFeetF x plan).1,.int .i64 (fFeetF x plan).2]) := by
 have hch := fcheck_con hs
 unfold fcheckF at hch
 unfold fFeetF fplanE
 cases hv : fvalidF x with
 | false =>
  rw [hv] at hch
  exact contract_of_path (GF 22) fFeet_fn (fFeet_bad x plan 70) ⟨hch,rfl,trivial⟩
 | true =>
  rw [hv] at hch
  have hV := fvalid_iff.1 hv
  have ho := opened_con' (x := x) (by have := hV.inn.n; omega) (by have := hV.inn.opnl; omega)
  have hp := Contract.ofOp (isPlanW_con hV [] [] hl)
  cases h1 : planB x plan with
  | false =>
   rw [show isPlanF (worksF x) plan = false from h1] at hp
   exact contract_of_path (GF 22) fFeet_fn (fFeet_ask x plan _) ⟨hch,ho,hp,trivial⟩
  | true =>
   rw [show isPlanF (worksF x) plan = true from h1] at hp
   have hf := Contract.ofOp (feet_con hV.inn (.work (worksF x)) [] [] (((isPlan_iff hV).1 h1).ok hV.inn))
   exact contract_of_path (GF 22) fFeet_fn (fFeet_ok x plan _ _) ⟨hch,ho,hp,hf,trivial⟩
def fShortF (x : FBook) (plan : List Work) : Int × Int := if fplanE x plan = 0 then (match shortF x plan with
  | some k => ((k : Int),0)
  | none => (0,4)) else (0,fplanE x plan)
theorem short_cases (x : FBook) (plan : List Work) : (shortF x plan = none ∧ ∀ k < plan.length,¬ needsF x (plan.take (k + 1)) > x.stock) ∨ ∃ k,shortF x plan = some k ∧ k < plan.length ∧ needsF x (plan.take (k + 1)) > x.stock ∧ ∀ j < k,¬ needsF x (plan.take (j + 1)) > x.stock := by
 unfold shortF
 cases h : (List.range plan.length).find? fun k => decide (needsF x (plan.take (k + 1)) > x.stock) with
 | none =>
  rw [List.find?_range_eq_none] at h
  exact .inl ⟨rfl,fun k hk => by simpa using h k hk⟩
 | some k =>
  rw [List.find?_range_eq_some] at h
  exact .inr ⟨k,rfl,List.mem_range.1 h.2.1,of_decide_eq_true h.1,fun j hj => by simpa using h.2.2 j hj⟩
theorem fShort_con {x : FBook} (hs : FSmall x) {plan : List Work} (hl : plan.length ≤ 9223372036854775807) : CF 85 [fbookD x,.sl false .work plan] (.tup [.int .i64 (fShortF x plan).1,.int .i64 (fShortF x plan).2]) := by
 have hf := fFeet_con hs hl
 unfold fFeetF at hf
 unfold fShortF
 by_cases he : fplanE x plan = 0
 ·rw [if_pos he] at hf ⊢
  have hv : FValid x ∧ planB x plan = true := by
   unfold fplanE at he
   split at he
   ·cases he
   ·rename_i h1
    split at he
    ·cases he
    ·rename_i h2
     exact ⟨fvalid_iff.1 (by simpa using h1),by simpa using h2⟩
  obtain ⟨hV,h1⟩ := hv
  have hp := ((isPlan_iff hV).1 h1).ok hV.inn
  have hpl := hp.1
  have ho := opened_con' (x := x) (by have := hV.inn.n; omega) (by have := hV.inn.opnl; omega)
  have hn : ∀ k,CF 148 [fopD x (worksF x),.sl false .work (plan.take (k + 1))] (.int .i64 (needsF x (plan.take (k + 1)))) := fun k => Contract.ofOp (needs_con hV.inn (.work (worksF x)) [] [] (hp.take (k + 1)))
  have hcode : Code.at [1,1,1,0,1] (body Tryd.f85) = .block 0 (.loop (Code.at [1,1,1,0,1,0,0] (body Tryd.f85))) := by kernel_rfl
  have hon : ∀ k,k < plan.length → ¬ needsF x (plan.take (k + 1)) > x.stock → ∃ dec orc lorc ks ps L1,runK (MF 37) dec orc lorc (Code.at [1,1,1,0,1,0,0] (body Tryd.f85)) (fShort_S0 x plan (worksF x) k) ks = some (ps,.normal,L1) ∧ allP ps ∧ L1 = fShort_S0 x plan (worksF x) (k + 1) := fun k hk h =>
   ⟨_,_,_,_,_,_,fShort_0_on x plan (worksF x) k (needsF x (plan.take (k + 1))),⟨lt_true hk,i64_of (by omega) (by omega),⟨by omega,by omega,by omega⟩,hn k,decide_eq_false h,i64_of (by omega) (by omega),trivial⟩,rfl⟩
  rcases short_cases x plan with ⟨h2,h3⟩ | ⟨k,h2,h3,h4,h5⟩
  ·rw [h2]
   refine contract_of_path (GF 37) fShort_fn (fShort_none x plan (worksF x) _ plan.length) ⟨hf,ho,?_,trivial⟩
   exact LF.each (id := 0) hcode plan.length (fun i => fShort_S0 x plan (worksF x) i) (fun i hi => hon i hi (h3 i hi)) ⟨_,_,_,_,_,_,_,fShort_0_end x plan _ _,⟨lt_false,trivial⟩,.inl ⟨rfl,rfl⟩,rfl⟩
  ·rw [h2]
   refine contract_of_path (GF 37) fShort_fn (fShort_hit x plan (worksF x) _ (needsF x (plan.take (k + 1))) k) ⟨hf,ho,?_,trivial⟩
   exact LF.each (id := 0) hcode k (fun i => fShort_S0 x plan (worksF x) i) (fun i hi => hon i (by omega) (h5 i hi)) ⟨_,_,_,_,_,_,_,fShort_0_hit x plan _ k _,⟨lt_true h3,i64_of (by omega) (by omega),⟨by omega,by omega,by omega⟩,hn k,decide_eq_true h4,trivial⟩,.inr ⟨rfl,rfl⟩,rfl⟩
 ·rw [if_neg he] at hf ⊢
  exact contract_of_path (GF 37) fShort_fn (fShort_bad x plan 0 _) ⟨hf,by simpa using he,trivial⟩
end Go.Di

