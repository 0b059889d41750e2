/- Part 19: an interpreter over plain data for this code, with the proof that it says what the model does, and the contracts of the functions. No condition. -/
import Derived.Test.YtfkmodcjddfeiaaDoorDi18
set_option linter.unusedVariables false
set_option linter.unusedSimpArgs false
namespace Go.Di
open Proofs
theorem joinF {n : Nat} {dec : List (Nat × Bool)} {orc : List (Nat × D)} {lorc : Lorc} {c : Code} {L L' L2 : List (Key × Val)} {ks : List Key} {ps : List Prop}
  (h : Di.runK (MF n) dec orc lorc c L ks = some (ps,.normal,L')) (hp : allP ps) (he : L' = L2) : LF n c L .normal L2 :=
 LoopT.of (tt := lookN typesF) (WpL.path (GF n) h hp ⟨rfl,he⟩)
structure FSmall (x : FBook) : Prop where
 chain : Small x.chain
 feet : x.feet.length ≤ 9223372036854775807
 opn : x.opn.length ≤ 9223372036854775807
theorem fcheck_join (x : FBook) (hs : FSmall x) : LF 78 (Code.at [1,0] (body Tryd.f98)) (fcheck_R1 x) .normal (fcheck_RS1 x (fok0F x)) := by
 have c0 := (check_small hs.chain).up
 have c1 := fwithin_con x.new 0 200
 have c2 := fwithin_con x.stock 0 200
 have c3 := fwithin_con x.make 0 9
 unfold fok0F
 cases h1 : (checkF x.chain == 0) with
 | false =>
  refine joinF (fcheck_R1_a x) ?_ rfl
  repeat (first | exact trivial | refine ⟨by first | exact h1 | exact c0,?_⟩)
 | true =>
  by_cases h2 : (x.feet.length : Int) = x.chain.secs.length
  ·have h2' : ((x.feet.length : Int) == (x.chain.secs.length : Int)) = true := beq_iff_eq.2 h2
   rw [decide_eq_true h2]
   cases h3 : withinF x.new 0 200 with
   | false =>
    refine joinF (fcheck_R1_c x) ?_ rfl
    repeat (first | exact trivial | refine ⟨by first | exact h1 | exact h2' | exact h3 | exact c0 | exact c1,?_⟩)
   | true =>
    by_cases h4 : x.opn.length ≤ 4
    ·have h4' : decide ((x.opn.length : Int) ≤ 4) = true := decide_eq_true (by omega)
     rw [decide_eq_true h4]
     cases h5 : withinF x.stock 0 200 with
     | false =>
      refine joinF (fcheck_R1_e x) ?_ rfl
      repeat (first | exact trivial | refine ⟨by first | exact h1 | exact h2' | exact h3 | exact h4' | exact h5 | exact c0 | exact c1 | exact c2,?_⟩)
     | true =>
      refine joinF (fcheck_R1_f x) ?_ rfl
      repeat (first | exact trivial | refine ⟨by first | exact h1 | exact h2' | exact h3 | exact h4' | exact h5 | exact c0 | exact c1 | exact c2 | exact c3,?_⟩)
    ·have h4' : decide ((x.opn.length : Int) ≤ 4) = false := decide_eq_false (by omega)
     rw [decide_eq_false h4]
     refine joinF (fcheck_R1_d x) ?_ rfl
     repeat (first | exact trivial | refine ⟨by first | exact h1 | exact h2' | exact h3 | exact h4' | exact c0 | exact c1,?_⟩)
  ·have h2' : ((x.feet.length : Int) == (x.chain.secs.length : Int)) = false := beq_eq_false_iff_ne.2 h2
   rw [decide_eq_false h2]
   refine joinF (fcheck_R1_b x) ?_ rfl
   repeat (first | exact trivial | refine ⟨by first | exact h1 | exact h2' | exact c0,?_⟩)
theorem fcheck_loop0 (x : FBook) (hs : FSmall x) : LF 78 (Code.at [1,1,0,1] (body Tryd.f98)) (fcheck_S0 x (fok0F x) 0) .normal (fcheck_S0 x (fok1F x x.feet) x.feet.length) := by
 have hl := hs.feet
 refine LF.each (id := 0) (c := Code.at [1,1,0,1,0,0] (body Tryd.f98)) (by kernel_rfl) x.feet.length (fun i => fcheck_S0 x (fok1F x (x.feet.take i)) i) (fun i hi => ?_) ⟨_,_,_,_,_,_,_,fcheck_0_end x _ _,⟨lt_false,trivial⟩,.inl ⟨rfl,rfl⟩,by rw [List.take_length]⟩
 have hf := take_foldl (fun (ok : Bool) n => ok && withinF n 1 30) x.feet (fok0F x) i 0 hi
 have hi64 : inI64 ((i : Int) + 1) := by simp only [inI64]; omega
 have he : fok1F x (x.feet.take (i + 1)) = (fok1F x (x.feet.take i) && withinF (x.feet.getD i 0) 1 30) := hf
 cases hok : fok1F x (x.feet.take i) with
 | false =>
  exact ⟨_,_,_,_,_,_,fcheck_0_no x false i,by repeat (first | exact trivial | refine ⟨by first | rfl | exact lt_true hi | exact hi64 | omega,?_⟩),by rw [he,hok]; rfl⟩
 | true =>
  have c := fwithin_con (x.feet.getD i 0) 1 30
  exact ⟨_,_,_,_,_,_,fcheck_0_yes x true i (withinF (x.feet.getD i 0) 1 30),by repeat (first | exact trivial | refine ⟨by first | rfl | exact c | exact lt_true hi | exact hi64 | omega,?_⟩),by rw [he,hok]; rfl⟩
theorem fturn_in {days : Int} (hd : days ≤ 30) : ∀ (l : List Int) (p : Bool × Int),(p.1 = true → -1 ≤ p.2 ∧ p.2 ≤ 30) → (l.foldl (turnF days) p).1 = true → -1 ≤ (l.foldl (turnF days) p).2 ∧ (l.foldl (turnF days) p).2 ≤ 30
 | [],p,h,h1 => h h1
 | t :: l,p,h,h1 => by
  refine fturn_in hd l (turnF days p t) (fun h2 => ?_) h1
  simp only [turnF,Bool.and_eq_true,within_iff] at h2
  have := h h2.1
  simp only [turnF]
  omega
theorem check_zero {b : Book} : (checkF b == 0) = validF b := by
 unfold checkF
 cases validF b <;> rfl
theorem fok0_chain {x : FBook} (h : fok0F x = true) : Valid x.chain := by
 unfold fok0F at h
 simp only [Bool.and_eq_true] at h
 rw [check_zero] at h
 exact valid_iff.1 h.1.1.1.1.1
theorem fok1_eq (x : FBook) (l : List Int) : fok1F x l = (fok0F x && l.all fun n => withinF n 1 30) := foldl_and _ _ _
theorem fok1_ok0 {x : FBook} {l : List Int} (h : fok1F x l = true) : fok0F x = true := by
 rw [fok1_eq,Bool.and_eq_true] at h
 exact h.1
theorem fcheck_loop2 (x : FBook) (hs : FSmall x) : LF 78 (Code.at [1,1,1,1,0,1] (body Tryd.f98)) (fcheck_S2 x (fok1F x x.feet) (-1) 0) .normal (fcheck_S2 x (fok2F x x.opn).1 (fok2F x x.opn).2 x.opn.length) := by
 have hl := hs.opn
 refine LF.each (id := 2) (c := Code.at [1,1,1,1,0,1,0,0] (body Tryd.f98)) (by kernel_rfl) x.opn.length (fun i => fcheck_S2 x (fok2F x (x.opn.take i)).1 (fok2F x (x.opn.take i)).2 i) (fun i hi => ?_) ⟨_,_,_,_,_,_,_,fcheck_2_end x _ _ _,⟨lt_false,trivial⟩,.inl ⟨rfl,rfl⟩,by rw [List.take_length]⟩
 have hf : fok2F x (x.opn.take (i + 1)) = turnF x.chain.days (fok2F x (x.opn.take i)) (x.opn.getD i 0) := take_foldl (turnF x.chain.days) x.opn (fok1F x x.feet,-1) i 0 hi
 have hi64 : inI64 ((i : Int) + 1) := by simp only [inI64]; omega
 cases hok : (fok2F x (x.opn.take i)).1 with
 | false =>
  refine ⟨_,_,_,_,_,_,fcheck_2_no x false _ i,by repeat (first | exact trivial | refine ⟨by first | rfl | exact lt_true hi | exact hi64 | omega,?_⟩),?_⟩
  rw [hf]
  simp only [turnF,hok,Bool.false_and]
 | true =>
  have c := fwithin_con (x.opn.getD i 0) ((fok2F x (x.opn.take i)).2 + 1) x.chain.days
  have h1 : fok1F x x.feet = true := by
   cases h : fok1F x x.feet with
   | true => rfl
   | false =>
    unfold fok2F at hok
    rw [h,turns_and] at hok
    simp at hok
  have hd := (fok0_chain (fok1_ok0 h1)).days
  have hin := fturn_in (days := x.chain.days) (by omega) (x.opn.take i) (fok1F x x.feet,-1) (fun _ => ⟨(by decide : (-1 : Int) ≤ -1),(by decide : (-1 : Int) ≤ 30)⟩) hok
  have hin' : -1 ≤ (fok2F x (x.opn.take i)).2 ∧ (fok2F x (x.opn.take i)).2 ≤ 30 := hin
  have hl64 : inI64 ((fok2F x (x.opn.take i)).2 + 1) := i64_of (by omega) (by omega)
  refine ⟨_,_,_,_,_,_,fcheck_2_yes x true _ i (withinF (x.opn.getD i 0) ((fok2F x (x.opn.take i)).2 + 1) x.chain.days),by repeat (first | exact trivial | refine ⟨by first | rfl | exact c | exact lt_true hi | exact hi64 | exact hl64 | omega,?_⟩),?_⟩
  rw [hf]
  simp only [turnF,hok,Bool.true_and]
theorem fcheck_con {x : FBook} (hs : FSmall x) : CF 98 [fbookD x] (.int .i64 (fcheckF x)) := by
 unfold fcheckF fvalidF
 cases h : (fok2F x x.opn).1 with
 | false => exact contract_of_path (GF 78) fcheck_fn (fcheck_bad x _ _ _ _) ⟨fcheck_join x hs,fcheck_loop0 x hs,fcheck_loop2 x hs,by rw [h]; rfl,trivial⟩
 | true => exact contract_of_path (GF 78) fcheck_fn (fcheck_good x _ _ _ _) ⟨fcheck_join x hs,fcheck_loop0 x hs,fcheck_loop2 x hs,by rw [h]; rfl,trivial⟩
structure FValid (x : FBook) : Prop where
 chain : Valid x.chain
 feet : x.feet.length = x.chain.secs.length
 new : 0 ≤ x.new ∧ x.new ≤ 200
 opnl : x.opn.length ≤ 4
 stock : 0 ≤ x.stock ∧ x.stock ≤ 200
 make : 0 ≤ x.make ∧ x.make ≤ 9
 each : ∀ n ∈ x.feet,1 ≤ n ∧ n ≤ 30
 rises : (x.opn.foldl (turnF x.chain.days) (true,-1)).1 = true
theorem fvalid_iff {x : FBook} : fvalidF x = true ↔ FValid x := by
 unfold fvalidF fok2F
 rw [turns_and,Bool.and_eq_true,fok1_eq,Bool.and_eq_true]
 constructor
 ·rintro ⟨⟨h1,h2⟩,h3⟩
  have hc := fok0_chain h1
  unfold fok0F at h1
  simp only [Bool.and_eq_true,decide_eq_true_eq,within_iff] at h1
  exact ⟨hc,by omega,h1.1.1.1.2,h1.1.1.2,h1.1.2,h1.2,fun n hn => within_iff.1 (List.all_eq_true.1 h2 n hn),h3⟩
 ·intro h
  refine ⟨⟨?_,List.all_eq_true.2 fun n hn => within_iff.2 (h.each n hn)⟩,h.rises⟩
  unfold fok0F
  simp only [Bool.and_eq_true,decide_eq_true_eq,within_iff]
  refine ⟨⟨⟨⟨⟨by rw [check_zero]; exact valid_iff.2 h.chain,by have := h.feet; omega⟩,h.new⟩,h.opnl⟩,h.stock⟩,h.make⟩
theorem rises_mem {days : Int} : ∀ (l : List Int) (n : Int),(l.foldl (turnF days) (true,n)).1 = true → (∀ d ∈ l,n < d ∧ d ≤ days) ∧ l.Pairwise (· < ·)
 | [],n,_ => ⟨fun d hd => (by cases hd),List.Pairwise.nil⟩
 | t :: l,n,h => by
  simp only [List.foldl_cons,turnF,Bool.true_and] at h
  rw [turns_and,Bool.and_eq_true,within_iff] at h
  obtain ⟨h1,h2⟩ := rises_mem l t h.2
  refine ⟨fun d hd => ?_,List.pairwise_cons.2 ⟨fun d hd => (h1 d hd).1,h2⟩⟩
  rcases List.mem_cons.1 hd with rfl | hd
  ·omega
  ·have := h1 d hd
   omega
theorem FValid.opn {x : FBook} (h : FValid x) : (∀ d ∈ x.opn,0 ≤ d ∧ d ≤ x.chain.days) ∧ x.opn.Pairwise (· < ·) := by
 obtain ⟨h1,h2⟩ := rises_mem x.opn (-1) h.rises
 exact ⟨fun d hd => by have := h1 d hd; omega,h2⟩
theorem FValid.inn {x : FBook} (h : FValid x) : FIn x := by
 have hc := h.chain
 have hsec := hc.secs
 have hd := hc.days
 have hf := h.feet
 exact ⟨by omega,by omega,by have := hc.turns; omega,fun n hn => by have := h.each n hn; omega,by have := h.new; omega,by have := h.opnl; omega,fun d hd => by have := h.opn.1 d hd; omega,by have := h.stock; omega,by have := h.make; omega⟩
theorem nil_fbk {R : Foot} {w : World} {x : FBook} {m : List (K2 × Bool)} {v : Value} (h : Rel R w (fopD x m) v) : Rel R w (fbkD x (.work m) [] []) v := by
 obtain ⟨vs,hv,h⟩ := h
 have hlen : (fbkC x (.map (.work m)) (.sl false (.list .int) []) (.sl false .int [])).length = vs.toList.length := by have := All2.length h; exact this
 refine ⟨vs,hv,All2.of_get hlen fun i d u hd hu => ?_⟩
 have hi : i < 13 := (List.getElem?_eq_some_iff.1 hd).1
 by_cases h1 : i < 11
 ·have hd' : (fbkC x (.map (.work m)) .nil .nil)[i]? = some d := by
   match i,h1,hd with
   | 0,_,hd => exact hd
   | 1,_,hd => exact hd
   | 2,_,hd => exact hd
   | 3,_,hd => exact hd
   | 4,_,hd => exact hd
   | 5,_,hd => exact hd
   | 6,_,hd => exact hd
   | 7,_,hd => exact hd
   | 8,_,hd => exact hd
   | 9,_,hd => exact hd
   | 10,_,hd => exact hd
   | n + 11,h1,_ => omega
  obtain ⟨u',hu',hr⟩ := All2.get h i d hd'
  rw [hu] at hu'
  cases hu'
  exact hr
 ·have h2 : i = 11 ∨ i = 12 := by omega
  rcases h2 with rfl | rfl
  ·cases hd
   obtain ⟨u',hu',hr⟩ := All2.get h 11 .nil rfl
   rw [hu] at hu'
   cases hu'
   have hr : u = .slice none 0 0 := hr
   rw [hr]
   exact sl_nil _ _ _ _ _
  ·cases hd
   obtain ⟨u',hu',hr⟩ := All2.get h 12 .nil rfl
   rw [hu] at hu'
   cases hu'
   have hr : u = .slice none 0 0 := hr
   rw [hr]
   exact sl_nil _ _ _ _ _
theorem Contract.ofOp {f : FuncId} {x : FBook} {m : List (K2 × Bool)} {args : List D} {r : D} (h : CF f (fbkD x (.work m) [] [] :: args) r) : CF f (fopD x m :: args) r :=
 h.toArgs fun R w vs hr => by
  obtain ⟨v,l,rfl,h1,h2⟩ := all2_cons hr
  exact ⟨nil_fbk h1,h2⟩
theorem plain33 : Cfg.plain (MF 33) := ⟨fun _ h => h,fun _ h => h,rfl⟩
theorem opened_con' {x : FBook} (hf : x.feet.length ≤ 1000) (ho : x.opn.length ≤ 1000) : CF 146 [fbookD x] (fopD x (worksF x)) := by
 refine contract_of_wp (C := MF 33) typesF_ok rfl (fun _ h => h) (fun _ h => h) rfl rfl fo_fn ?_
 have hcode : body Tryd.f146 = .seq (Code.at [0] (body Tryd.f146)) (.seq (Code.at [1,0] (body Tryd.f146)) (.seq (.seq (Code.at [1,1,0,0] (body Tryd.f146)) (Code.at [1,1,0,1] (body Tryd.f146))) (.seq (Code.at [1,1,1,0] (body Tryd.f146)) .ret))) := by kernel_rfl
 rw [hcode]
 have hloop : LF 33 (Code.at [1,1,0,1] (body Tryd.f146)) (foS x (worksO x 0) 0) .normal (foS x (worksF x) x.opn.length) := by
  refine LF.each (id := 0) (c := Code.at [1,1,0,1,0,0] (body Tryd.f146)) (by kernel_rfl) x.opn.length (fun i => foS x (worksO x i) i) (fun i hi => ?_) ⟨_,_,_,_,_,_,_,fo_end x _ _,⟨lt_false,trivial⟩,.inl ⟨rfl,rfl⟩,rfl⟩
  refine ⟨_,_,_,_,_,_,fo_on x (worksO x i) i (worksO x (i + 1)),⟨lt_true hi,⟨by omega,by omega⟩,by omega,?_,i64_of (by omega) (by omega),trivial⟩,rfl⟩
  refine LF.each (id := 2) (c := Code.at [1,1,0,1,0,0,1,1,0,0,1,1,0,0] (body Tryd.f146)) (by kernel_rfl) x.feet.length (fun j => foT x (worksS (worksO x i) (x.opn.getD i 0) j) i (x.opn.getD i 0) j) (fun j hj => ?_) ⟨_,_,_,_,_,_,_,fo_out x _ i _ _,⟨lt_false,trivial⟩,.inl ⟨rfl,rfl⟩,rfl⟩
  exact ⟨_,_,_,_,_,_,fo_in x _ i _ j,⟨lt_true hj,plain33,i64_of (by omega) (by omega),trivial⟩,rfl⟩
 refine WpL.seq (WpL.path (GF 33) (fo_0 x) trivial ?_)
 refine WpL.seq (WpL.path (GF 33) (fo_1 x) ⟨plain33,by omega,plain33,trivial⟩ ?_)
 refine WpL.seq (WpL.seq (WpL.path (GF 33) (fo_2 x) trivial ?_))
 have hl2 : WpL PRG (MF 33) (Code.at [1,1,0,1] (body Tryd.f146)) (foS x (worksO x 0) 0) (fun e L' => e = .normal ∧ L' = foS x (worksF x) x.opn.length) := WpL.same (C := mk0 globF 33) (C' := MF 33) rfl rfl rfl rfl rfl rfl rfl rfl (fun _ _ => trivial) (fun _ => rfl) hloop.wp
 refine hl2.mono fun e L' he => ?_
 obtain ⟨rfl,rfl⟩ := he
 show WpL _ _ _ _ _
 refine WpL.seq (WpL.tell (fun _ h => h) (j := 8) (m := .work (worksF x)) rfl (WpL.path (GF 33) (fo_3 x (worksF x) x.opn.length) trivial ?_))
 show WpL _ _ _ _ _
 exact WpL.path (GF 33) (dec := []) (orc := []) (lorc := []) (ks := [.tmp 2,.box 2]) (ps := []) (e := .ret) (L' := foE x (worksF x)) (by kernel_rfl) trivial ⟨fun id h => (by cases h),[],by kernel_rfl,fun p hp => by cases hp⟩
end Go.Di

namespace Go.Di
open Proofs
end Go.Di

namespace Go.Di
open Proofs
end Go.Di

namespace Go.Di
open Proofs
structure Ups (xs : List Int) (n : Int) : Prop where
 inn : ∀ k < xs.length,0 ≤ xs.getD k 0 ∧ xs.getD k 0 < n
 up : ∀ k,0 < k → k < xs.length → xs.getD (k - 1) 0 < xs.getD k 0
theorem Ups.mono {xs : List Int} {n m : Int} (h : Ups xs n) (hnm : n ≤ m) : Ups xs m := ⟨fun k hk => by have := h.inn k hk; omega,h.up⟩
end Go.Di

namespace Go.Di
open Proofs
def SatE (b : Book) (x : W4) (k t : Int) (e : Ent) : Prop := eqI [e.1.1,e.1.2] [-1,-1] = false → (e.1.1 == k) = true → e.2.lo + wornF b.secs.length x.a x.b x.c x.d b.turns k e.1.2.toNat ≤ t ∧ t ≤ e.2.hi + wornF b.secs.length x.a x.b x.c x.d b.turns k e.1.2.toNat
theorem both_in {s u : Span} {t : Int} : ((bothF s u).lo ≤ t ∧ t ≤ (bothF s u).hi) ↔ (s.lo ≤ t ∧ t ≤ s.hi) ∧ (u.lo ≤ t ∧ t ≤ u.hi) := by
 simp only [bothF,mx,mn]
 constructor
 ·intro h
  split at h <;> split at h <;> omega
 ·intro h
  split <;> split <;> omega
theorem right_fold (b : Book) (x : W4) (k t : Int) : ∀ (l : List Ent) (s : Span),((l.foldl (rightStep b x.a x.b x.c x.d k) s).lo ≤ t ∧ t ≤ (l.foldl (rightStep b x.a x.b x.c x.d k) s).hi) ↔ (s.lo ≤ t ∧ t ≤ s.hi) ∧ ∀ e ∈ l,SatE b x k t e
 | [],s => by simp
 | e :: l,s => by
  simp only [List.foldl_cons]
  rw [right_fold b x k t l]
  have : ((rightStep b x.a x.b x.c x.d k s e).lo ≤ t ∧ t ≤ (rightStep b x.a x.b x.c x.d k s e).hi) ↔ (s.lo ≤ t ∧ t ≤ s.hi) ∧ SatE b x k t e := by
   unfold rightStep SatE
   by_cases h : eqI [e.1.1,e.1.2] [-1,-1] = false ∧ (e.1.1 == k) = true
   ·rw [if_pos h,both_in]
    exact and_congr_right fun _ => ⟨fun h' _ _ => h',fun h' => h' h.1 h.2⟩
   ·rw [if_neg h]
    constructor
    ·exact fun h' => ⟨h',fun h1 h2 => absurd ⟨h1,h2⟩ h⟩
    ·exact fun h' => h'.1
  rw [this]
  simp only [List.mem_cons,forall_eq_or_imp]
  exact and_assoc
def SatY (b : Book) (x : W4) (k t : Int) (y : Sv) : Prop := y.s = k → y.r - y.e + wornF b.secs.length x.a x.b x.c x.d b.turns k y.d.toNat ≤ t ∧ t ≤ y.r + y.e + wornF b.secs.length x.a x.b x.c x.d b.turns k y.d.toNat
theorem eqI_key {a c : Int} (h : 0 ≤ a) : eqI [a,c] [-1,-1] = false := by
 cases hq : eqI [a,c] [-1,-1] with
 | false => rfl
 | true =>
  have := (eqI_iff _ _).1 hq
  simp only [List.cons.injEq,and_true] at this
  omega
theorem satE_key {b : Book} {x : W4} {k t : Int} {ks kd : Int} (h : 0 ≤ ks) (s u : Span) : SatE b x k t ((ks,kd),bothF s u) ↔ SatE b x k t ((ks,kd),s) ∧ SatE b x k t ((ks,kd),u) := by
 unfold SatE
 simp only [eqI_key h,true_implies]
 have e : ∀ z : Span,(z.lo + wornF b.secs.length x.a x.b x.c x.d b.turns k kd.toNat ≤ t ∧ t ≤ z.hi + wornF b.secs.length x.a x.b x.c x.d b.turns k kd.toNat) ↔ (z.lo ≤ t - wornF b.secs.length x.a x.b x.c x.d b.turns k kd.toNat ∧ t - wornF b.secs.length x.a x.b x.c x.d b.turns k kd.toNat ≤ z.hi) := fun z => by omega
 rw [e,e,e,both_in]
 constructor
 ·exact fun h => ⟨fun hk => (h hk).1,fun hk => (h hk).2⟩
 ·exact fun h hk => ⟨h.1 hk,h.2 hk⟩
theorem upd_sat {b : Book} {x : W4} {k t : Int} {ks kd : Int} (h : 0 ≤ ks) (s : Span) : ∀ l : List Ent,(∀ e ∈ updK l (ks,kd) (match lookK l (ks,kd) with | some old => bothF old s | none => s),SatE b x k t e) ↔ (∀ e ∈ l,SatE b x k t e) ∧ SatE b x k t ((ks,kd),s)
 | [] => by simp [updK,lookK]
 | (k',v) :: l => by
  simp only [updK,lookK]
  by_cases hk : (ks,kd) = k'
  ·subst hk
   rw [if_pos rfl,if_pos rfl]
   simp only [List.mem_cons,forall_eq_or_imp]
   rw [satE_key h]
   exact ⟨fun ⟨⟨h1,h2⟩,h3⟩ => ⟨⟨h1,h3⟩,h2⟩,fun ⟨⟨h1,h3⟩,h2⟩ => ⟨⟨h1,h2⟩,h3⟩⟩
  ·rw [if_neg hk,if_neg hk]
   simp only [List.mem_cons,forall_eq_or_imp]
   rw [upd_sat h s l]
   exact and_assoc.symm
theorem open_sat {b : Book} (but : List Int) {x : W4} {k t : Int} (hs : ∀ y ∈ b.svs,0 ≤ y.s) : ∀ m,m ≤ b.svs.length → ((∀ e ∈ openTo b but m,SatE b x k t e) ↔ ∀ i < m,(i : Int) ∉ but → SatY b x k t (svZ b i))
 | 0,_ => by
  simp only [openTo,List.mem_singleton,forall_eq,Nat.not_lt_zero,false_implies,implies_true,iff_true]
  intro h
  cases h
 | m + 1,hm => by
  have ih := open_sat but (x := x) (k := k) (t := t) hs m (by omega)
  simp only [openTo,openStep]
  have hin : svZ b m ∈ b.svs := getD_mem b.svs m sv0 (by omega)
  have hY : SatE b x k t (((svZ b m).s,(svZ b m).d),⟨(svZ b m).r - (svZ b m).e,(svZ b m).r + (svZ b m).e⟩) ↔ SatY b x k t (svZ b m) := by
   unfold SatE SatY
   simp only [eqI_key (hs _ hin),true_implies,beq_iff_eq]
  by_cases hb : (m : Int) ∈ but
  ·rw [if_pos hb,ih]
   constructor
   ·intro h i hi hn
    by_cases e : i = m
    ·subst e; exact absurd hb hn
    ·exact h i (by omega) hn
   ·exact fun h i hi hn => h i (by omega) hn
  ·rw [if_neg hb]
   have := upd_sat (b := b) (x := x) (k := k) (t := t) (kd := (svZ b m).d) (hs _ hin) ⟨(svZ b m).r - (svZ b m).e,(svZ b m).r + (svZ b m).e⟩ (openTo b but m)
   refine this.trans ?_
   rw [ih,hY]
   constructor
   ·rintro ⟨h1,h2⟩ i hi hn
    by_cases e : i = m
    ·subst e; exact h2
    ·exact h1 i (by omega) hn
   ·exact fun h => ⟨fun i hi hn => h i (by omega) hn,h m (by omega) hb⟩
def W4.at (x : W4) (p : Nat) : Int := [x.a,x.b,x.c,x.d].getD p 0
structure Feas (b : Book) (but : List Int) (T : Nat → Int) (x : W4) : Prop where
 wear : ∀ p < b.secs.length,(b.secs.getD p sec0).w.lo ≤ x.at p ∧ x.at p ≤ (b.secs.getD p sec0).w.hi
 zero : ∀ p,b.secs.length ≤ p → x.at p = 0
 thick : ∀ k < b.secs.length,(b.secs.getD k sec0).t.lo ≤ T k ∧ T k ≤ (b.secs.getD k sec0).t.hi
 right : ∀ i < b.svs.length,(i : Int) ∉ but → ∀ k : Nat,k < b.secs.length → SatY b x k (T k) (svZ b i)
theorem right_mem {b : Book} (but : List Int) {x : W4} (hs : ∀ y ∈ b.svs,0 ≤ y.s) (k : Nat) (t : Int) : ((rightF b (openF b but) x.a x.b x.c x.d k).lo ≤ t ∧ t ≤ (rightF b (openF b but) x.a x.b x.c x.d k).hi) ↔ ((b.secs.getD k sec0).t.lo ≤ t ∧ t ≤ (b.secs.getD k sec0).t.hi) ∧ ∀ i < b.svs.length,(i : Int) ∉ but → SatY b x k t (svZ b i) := by
 unfold rightF
 rw [right_fold,Int.toNat_natCast]
 unfold openF
 rw [open_sat but hs _ (Nat.le_refl _)]
def leafSet (b : Book) (l : List Ent) (x : W4) : Nat → Nat → TrC → TrC
 | 0,_,t => t
 | f + 1,i,t => leafSet b l x f (i + 1) (setF t i (rightF b l x.a x.b x.c x.d i))
theorem leafGo_mem (b : Book) (l : List Ent) (x : W4) (u : TrC) : ∀ (f i : Nat) (t : TrC),u ∈ leafGo b l x f i t ↔ (∀ k,i ≤ k → k < i + f → (rightF b l x.a x.b x.c x.d k).lo ≤ (rightF b l x.a x.b x.c x.d k).hi) ∧ u = leafSet b l x f i t
 | 0,i,t => by
  simp only [leafGo,leafSet,List.mem_singleton]
  exact ⟨fun h => ⟨fun k h1 h2 => by omega,h⟩,fun h => h.2⟩
 | f + 1,i,t => by
  simp only [leafGo,leafSet]
  by_cases h : (rightF b l x.a x.b x.c x.d i).lo ≤ (rightF b l x.a x.b x.c x.d i).hi
  ·rw [if_pos h,leafGo_mem b l x u f (i + 1)]
   refine and_congr_left fun _ => ⟨fun h' k h1 h2 => ?_,fun h' k h1 h2 => h' k (by omega) (by omega)⟩
   by_cases e : k = i
   ·subst e; exact h
   ·exact h' k (by omega) (by omega)
  ·rw [if_neg h]
   simp only [List.not_mem_nil,false_iff,not_and]
   exact fun h' => absurd (h' i (Nat.le_refl _) (by omega)) h
theorem firstF_set (t : TrC) (i : Nat) (s : Span) (hi : i < 4) (k : Nat) (hk : k < 4) : firstF (setF t i s) k = if k = i then s else firstF t k := by
 unfold firstF
 rw [Int.toNat_natCast]
 match i,hi,k,hk with
 | 0,_,0,_ => rfl | 0,_,1,_ => rfl | 0,_,2,_ => rfl | 0,_,3,_ => rfl
 | 1,_,0,_ => rfl | 1,_,1,_ => rfl | 1,_,2,_ => rfl | 1,_,3,_ => rfl
 | 2,_,0,_ => rfl | 2,_,1,_ => rfl | 2,_,2,_ => rfl | 2,_,3,_ => rfl
 | 3,_,0,_ => rfl | 3,_,1,_ => rfl | 3,_,2,_ => rfl | 3,_,3,_ => rfl
theorem leafSet_first (b : Book) (l : List Ent) (x : W4) : ∀ (f i : Nat) (t : TrC),i + f ≤ 4 → ∀ k : Nat,k < 4 → firstF (leafSet b l x f i t) k = if i ≤ k ∧ k < i + f then rightF b l x.a x.b x.c x.d k else firstF t k
 | 0,i,t,_,k,_ => by
  rw [if_neg (by omega)]
  rfl
 | f + 1,i,t,h,k,hk => by
  simp only [leafSet]
  rw [leafSet_first b l x f (i + 1) _ (by omega) k hk]
  by_cases h1 : i + 1 ≤ k ∧ k < i + 1 + f
  ·rw [if_pos h1,if_pos (by omega)]
  ·rw [if_neg h1,firstF_set t i _ (by omega) k hk]
   by_cases e : k = i
   ·subst e
    rw [if_pos rfl,if_pos (by omega)]
   ·rw [if_neg e,if_neg (by omega)]
theorem leafSet_w (b : Book) (l : List Ent) (x : W4) : ∀ (f i : Nat) (t : TrC),(leafSet b l x f i t).w0 = t.w0 ∧ (leafSet b l x f i t).w1 = t.w1 ∧ (leafSet b l x f i t).w2 = t.w2 ∧ (leafSet b l x f i t).w3 = t.w3
 | 0,_,_ => ⟨rfl,rfl,rfl,rfl⟩
 | f + 1,i,t => by
  simp only [leafSet]
  obtain ⟨h1,h2,h3,h4⟩ := leafSet_w b l x f (i + 1) (setF t i (rightF b l x.a x.b x.c x.d i))
  obtain ⟨g1,g2,g3,g4⟩ := setF_w t i (rightF b l x.a x.b x.c x.d i)
  exact ⟨h1.trans g1,h2.trans g2,h3.trans g3,h4.trans g4⟩
theorem set_at (x : W4) (p : Nat) (n : Int) (hp : p < 4) (q : Nat) : (x.set p n).at q = if q = p then n else x.at q := by
 match p,hp,q with
 | 0,_,0 => rfl | 0,_,1 => rfl | 0,_,2 => rfl | 0,_,3 => rfl
 | 1,_,0 => rfl | 1,_,1 => rfl | 1,_,2 => rfl | 1,_,3 => rfl
 | 2,_,0 => rfl | 2,_,1 => rfl | 2,_,2 => rfl | 2,_,3 => rfl
 | 3,_,0 => rfl | 3,_,1 => rfl | 3,_,2 => rfl | 3,_,3 => rfl
 | 0,_,q + 4 => simp [W4.at]
 | 1,_,q + 4 => simp [W4.at]
 | 2,_,q + 4 => simp [W4.at]
 | 3,_,q + 4 => simp [W4.at]
theorem W4.ext_at {x y : W4} (h : ∀ q,q < 4 → x.at q = y.at q) : x = y := by
 obtain ⟨a,b,c,d⟩ := x
 obtain ⟨a',b',c',d'⟩ := y
 have h0 : a = a' := h 0 (by omega)
 have h1 : b = b' := h 1 (by omega)
 have h2 : c = c' := h 2 (by omega)
 have h3 : d = d' := h 3 (by omega)
 rw [h0,h1,h2,h3]
theorem rates_mem' {s : Span} {n : Int} (h0 : 0 ≤ s.lo) : n ∈ ratesF s ↔ s.lo ≤ n ∧ n ≤ s.hi := by
 rw [rates_mem]
 omega
theorem whole_mem {b : Book} (l : List Ent) (u : TrC) (hw : ∀ p,0 ≤ (b.secs.getD p sec0).w.lo) : ∀ (f p : Nat) (x : W4),p + f ≤ 4 → (u ∈ wholeGo b l f p x ↔ ∃ y : W4,(∀ q,¬ (p ≤ q ∧ q < p + f) → y.at q = x.at q) ∧ (∀ q,p ≤ q → q < p + f → (b.secs.getD q sec0).w.lo ≤ y.at q ∧ y.at q ≤ (b.secs.getD q sec0).w.hi) ∧ u ∈ leafF b l y)
 | 0,p,x,_ => by
  simp only [wholeGo]
  constructor
  ·exact fun h => ⟨x,fun _ _ => rfl,fun q h1 h2 => by omega,h⟩
  ·rintro ⟨y,h1,_,h3⟩
   have : y = x := W4.ext_at fun q _ => h1 q (by omega)
   rwa [this] at h3
 | f + 1,p,x,hp => by
  simp only [wholeGo,List.mem_flatMap]
  constructor
  ·rintro ⟨n,hn,h⟩
   obtain ⟨y,h1,h2,h3⟩ := (whole_mem l u hw f (p + 1) (x.set p n) (by omega)).1 h
   have hn' := (rates_mem' (hw p)).1 hn
   refine ⟨y,fun q hq => ?_,fun q q1 q2 => ?_,h3⟩
   ·rw [h1 q (by omega),set_at x p n (by omega),if_neg (by omega)]
   ·by_cases e : q = p
    ·subst e
     rw [h1 q (by omega),set_at x q n (by omega),if_pos rfl]
     exact hn'
    ·exact h2 q (by omega) (by omega)
  ·rintro ⟨y,h1,h2,h3⟩
   refine ⟨y.at p,(rates_mem' (hw p)).2 (h2 p (Nat.le_refl _) (by omega)),(whole_mem l u hw f (p + 1) (x.set p (y.at p)) (by omega)).2 ⟨y,fun q hq => ?_,fun q q1 q2 => h2 q (by omega) (by omega),h3⟩⟩
   rw [set_at x p _ (by omega)]
   by_cases e : q = p
   ·rw [if_pos e,e]
   ·rw [if_neg e]
    exact h1 q (by omega)
end Go.Di

namespace Go.Di
open Proofs
def wOf (u : TrC) : W4 := ⟨u.w0,u.w1,u.w2,u.w3⟩
theorem Valid.wlo {b : Book} (hV : Valid b) (p : Nat) : 0 ≤ (b.secs.getD p sec0).w.lo := by
 by_cases h : p < b.secs.length
 ·exact (hV.sec _ (getD_mem b.secs p sec0 h)).w.1
 ·rw [List.getD_eq_getElem?_getD,List.getElem?_eq_none (by omega)]
  decide
theorem Valid.svs0 {b : Book} (hV : Valid b) : ∀ y ∈ b.svs,0 ≤ y.s := fun y hy => (survey_iff.1 (hV.sv y hy)).1.1
structure Base (b : Book) : Prop where
 n4 : b.secs.length ≤ 4
 wlo : ∀ p : Nat,0 ≤ (b.secs.getD p sec0).w.lo
 svs0 : ∀ y ∈ b.svs,0 ≤ y.s
theorem Valid.base {b : Book} (hV : Valid b) : Base b := ⟨hV.secs.2,hV.wlo,hV.svs0⟩
theorem Base.more {b : Book} (hB : Base b) {y : Sv} (hy : 0 ≤ y.s) : Base (more b y) := ⟨hB.n4,hB.wlo,fun z hz => by
 rcases List.mem_append.1 hz with hz | hz
 ·exact hB.svs0 z hz
 ·simp only [List.mem_singleton] at hz
  subst hz
  exact hy⟩
theorem truth_mem {b : Book} (hV : Base b) (but : List Int) (u : TrC) : u ∈ truthsF b but ↔ ∃ x : W4,(∀ p < b.secs.length,(b.secs.getD p sec0).w.lo ≤ x.at p ∧ x.at p ≤ (b.secs.getD p sec0).w.hi) ∧ (∀ p,b.secs.length ≤ p → x.at p = 0) ∧
  (∀ k,k < b.secs.length → (rightF b (openF b but) x.a x.b x.c x.d k).lo ≤ (rightF b (openF b but) x.a x.b x.c x.d k).hi) ∧ u = leafSet b (openF b but) x b.secs.length 0 (trOf x) := by
 have h4 := hV.n4
 have h0 : ∀ q : Nat,(⟨0,0,0,0⟩ : W4).at q = 0 := fun q => by
  match q with
  | 0 => rfl
  | 1 => rfl
  | 2 => rfl
  | 3 => rfl
  | q + 4 => simp [W4.at]
 unfold truthsF
 rw [whole_mem (openF b but) u hV.wlo b.secs.length 0 ⟨0,0,0,0⟩ (by omega)]
 unfold leafF
 constructor
 ·rintro ⟨y,h1,h2,h3⟩
  obtain ⟨h5,h6⟩ := (leafGo_mem b _ y u _ _ _).1 h3
  exact ⟨y,fun p hp => h2 p (Nat.zero_le _) (by omega),fun p hp => (h1 p (by omega)).trans (h0 p),fun k hk => h5 k (Nat.zero_le _) (by omega),h6⟩
 ·rintro ⟨x,h1,h2,h3,h5⟩
  exact ⟨x,fun q hq => (h2 q (by omega)).trans (h0 q).symm,fun q _ hq => h1 q (by omega),(leafGo_mem b _ x u _ _ _).2 ⟨fun k _ hk => h3 k (by omega),h5⟩⟩
theorem leaf_wOf (b : Book) (l : List Ent) (x : W4) (f : Nat) : wOf (leafSet b l x f 0 (trOf x)) = x := by
 obtain ⟨h1,h2,h3,h4⟩ := leafSet_w b l x f 0 (trOf x)
 unfold wOf
 rw [h1,h2,h3,h4]
 rfl
theorem feas_of_truth {b : Book} (hV : Base b) {but : List Int} {u : TrC} (hu : u ∈ truthsF b but) {T : Nat → Int} (hT : ∀ k : Nat,k < b.secs.length → (firstF u k).lo ≤ T k ∧ T k ≤ (firstF u k).hi) : Feas b but T (wOf u) := by
 have h4 := hV.n4
 obtain ⟨x,h1,h2,h3,rfl⟩ := (truth_mem hV but u).1 hu
 rw [leaf_wOf]
 have hf : ∀ k : Nat,k < b.secs.length → firstF (leafSet b (openF b but) x b.secs.length 0 (trOf x)) k = rightF b (openF b but) x.a x.b x.c x.d k := fun k hk => by
  rw [leafSet_first b _ x _ 0 _ (by omega) k (by omega),if_pos (by omega)]
 have hr : ∀ k : Nat,k < b.secs.length → ((b.secs.getD k sec0).t.lo ≤ T k ∧ T k ≤ (b.secs.getD k sec0).t.hi) ∧ ∀ i < b.svs.length,(i : Int) ∉ but → SatY b x k (T k) (svZ b i) := fun k hk => by
  have := hT k hk
  rw [hf k hk] at this
  exact (right_mem but hV.svs0 k (T k)).1 this
 exact ⟨h1,h2,fun k hk => (hr k hk).1,fun i hi hn k hk => (hr k hk).2 i hi hn⟩
theorem truth_of_feas {b : Book} (hV : Base b) {but : List Int} {T : Nat → Int} {x : W4} (h : Feas b but T x) : ∃ u ∈ truthsF b but,wOf u = x ∧ ∀ k : Nat,k < b.secs.length → (firstF u k).lo ≤ T k ∧ T k ≤ (firstF u k).hi := by
 have h4 := hV.n4
 have hr : ∀ k : Nat,k < b.secs.length → (rightF b (openF b but) x.a x.b x.c x.d k).lo ≤ T k ∧ T k ≤ (rightF b (openF b but) x.a x.b x.c x.d k).hi := fun k hk =>
  (right_mem but hV.svs0 k (T k)).2 ⟨h.thick k hk,fun i hi hn => h.right i hi hn k hk⟩
 refine ⟨leafSet b (openF b but) x b.secs.length 0 (trOf x),(truth_mem hV but _).2 ⟨x,h.wear,h.zero,fun k hk => by have := hr k hk; omega,rfl⟩,leaf_wOf _ _ _ _,fun k hk => ?_⟩
 rw [leafSet_first b _ x _ 0 _ (by omega) k (by omega),if_pos (by omega)]
 exact hr k hk
theorem truth_full {b : Book} (hV : Base b) {but : List Int} {u : TrC} (hu : u ∈ truthsF b but) (k : Nat) (hk : k < b.secs.length) : (firstF u k).lo ≤ (firstF u k).hi := by
 have h4 := hV.n4
 obtain ⟨x,h1,h2,h3,rfl⟩ := (truth_mem hV but u).1 hu
 rw [leafSet_first b _ x _ 0 _ (by omega) k (by omega),if_pos (by omega)]
 exact h3 k hk
theorem can_iff {b : Book} (hV : Base b) (but : List Int) : truthsF b but ≠ [] ↔ ∃ T x,Feas b but T x := by
 constructor
 ·intro h
  obtain ⟨u,hu⟩ := List.exists_mem_of_ne_nil _ h
  exact ⟨fun k => (firstF u k).lo,wOf u,feas_of_truth hV hu fun k hk => ⟨Int.le_refl _,truth_full hV hu k hk⟩⟩
 ·rintro ⟨T,x,h⟩ h0
  obtain ⟨u,hu,_⟩ := truth_of_feas hV h
  rw [h0] at hu
  cases hu
theorem told_fold (g : TrC → Span) : ∀ (ts : List TrC) (s : Span),((ts.foldl (fun o t => hullF o (g t)) s).lo = s.lo ∨ ∃ t ∈ ts,(ts.foldl (fun o t => hullF o (g t)) s).lo = (g t).lo) ∧ ((ts.foldl (fun o t => hullF o (g t)) s).hi = s.hi ∨ ∃ t ∈ ts,(ts.foldl (fun o t => hullF o (g t)) s).hi = (g t).hi) ∧
  (ts.foldl (fun o t => hullF o (g t)) s).lo ≤ s.lo ∧ s.hi ≤ (ts.foldl (fun o t => hullF o (g t)) s).hi ∧ ∀ t ∈ ts,(ts.foldl (fun o t => hullF o (g t)) s).lo ≤ (g t).lo ∧ (g t).hi ≤ (ts.foldl (fun o t => hullF o (g t)) s).hi
 | [],s => ⟨.inl rfl,.inl rfl,Int.le_refl _,Int.le_refl _,fun t ht => by cases ht⟩
 | t :: ts,s => by
  obtain ⟨h1,h2,h3,h4,h5⟩ := told_fold g ts (hullF s (g t))
  have e1 : (hullF s (g t)).lo = s.lo ∨ (hullF s (g t)).lo = (g t).lo := by simp only [hullF,mn]; split <;> simp
  have e2 : (hullF s (g t)).hi = s.hi ∨ (hullF s (g t)).hi = (g t).hi := by simp only [hullF,mx]; split <;> simp
  have e3 : (hullF s (g t)).lo ≤ s.lo ∧ (hullF s (g t)).lo ≤ (g t).lo := by simp only [hullF,mn]; split <;> omega
  have e4 : s.hi ≤ (hullF s (g t)).hi ∧ (g t).hi ≤ (hullF s (g t)).hi := by simp only [hullF,mx]; split <;> omega
  simp only [List.foldl_cons]
  refine ⟨?_,?_,by omega,by omega,fun u hu => ?_⟩
  ·rcases h1 with h1 | ⟨u,hu,h1⟩
   ·rcases e1 with e1 | e1
    ·exact .inl (h1.trans e1)
    ·exact .inr ⟨t,by simp,h1.trans e1⟩
   ·exact .inr ⟨u,by simp [hu],h1⟩
  ·rcases h2 with h2 | ⟨u,hu,h2⟩
   ·rcases e2 with e2 | e2
    ·exact .inl (h2.trans e2)
    ·exact .inr ⟨t,by simp,h2.trans e2⟩
   ·exact .inr ⟨u,by simp [hu],h2⟩
  ·rcases List.mem_cons.1 hu with rfl | hu
   ·omega
   ·exact h5 u hu
theorem told_spec (g : TrC → Span) {ts : List TrC} (hne : ts ≠ []) : (∃ t ∈ ts,(toldF g ts).lo = (g t).lo) ∧ (∃ t ∈ ts,(toldF g ts).hi = (g t).hi) ∧ ∀ t ∈ ts,(toldF g ts).lo ≤ (g t).lo ∧ (g t).hi ≤ (toldF g ts).hi := by
 obtain ⟨h1,h2,_,_,h5⟩ := told_fold g ts (g (ts.getD 0 trc0))
 have h0 : ts.getD 0 trc0 ∈ ts := getD_mem ts 0 trc0 (List.length_pos_iff.2 hne)
 refine ⟨?_,?_,h5⟩
 ·rcases h1 with h1 | h1
  ·exact ⟨_,h0,h1⟩
  ·exact h1
 ·rcases h2 with h2 | h2
  ·exact ⟨_,h0,h2⟩
  ·exact h2
def wornX (b : Book) (turns : List Int) (x : W4) (k : Nat) (d : Int) : Int := wornF b.secs.length x.a x.b x.c x.d turns k d.toNat
theorem wornT_eq (b : Book) (turns : List Int) (k : Nat) (d : Int) (u : TrC) : wornT b turns k d u = wornX b turns (wOf u) k d := rfl
theorem thick_in {b : Book} (hV : Base b) {but : List Int} {T : Nat → Int} {x : W4} (h : Feas b but T x) (turns : List Int) (k : Nat) (hk : k < b.secs.length) (d : Int) :
  (thickF b (truthsF b but) turns k d).lo ≤ T k - wornX b turns x k d ∧ T k - wornX b turns x k d ≤ (thickF b (truthsF b but) turns k d).hi := by
 obtain ⟨u,hu,rfl,hf⟩ := truth_of_feas hV h
 have hne : truthsF b but ≠ [] := fun e => by rw [e] at hu; cases hu
 have := (told_spec (thick1F b turns k d) hne).2.2 u hu
 have hk' := hf k hk
 simp only [thick1F,wornT_eq] at this
 unfold thickF
 omega
theorem thick_lo {b : Book} (hV : Base b) {but : List Int} (hne : truthsF b but ≠ []) (turns : List Int) (k : Nat) (hk : k < b.secs.length) (d : Int) : ∃ T x,Feas b but T x ∧ T k - wornX b turns x k d = (thickF b (truthsF b but) turns k d).lo := by
 obtain ⟨u,hu,h⟩ := (told_spec (thick1F b turns k d) hne).1
 exact ⟨fun k => (firstF u k).lo,wOf u,feas_of_truth hV hu fun k hk => ⟨Int.le_refl _,truth_full hV hu k hk⟩,h.symm⟩
theorem thick_hi {b : Book} (hV : Base b) {but : List Int} (hne : truthsF b but ≠ []) (turns : List Int) (k : Nat) (hk : k < b.secs.length) (d : Int) : ∃ T x,Feas b but T x ∧ T k - wornX b turns x k d = (thickF b (truthsF b but) turns k d).hi := by
 obtain ⟨u,hu,h⟩ := (told_spec (thick1F b turns k d) hne).2.1
 exact ⟨fun k => (firstF u k).hi,wOf u,feas_of_truth hV hu fun k hk => ⟨truth_full hV hu k hk,Int.le_refl _⟩,h.symm⟩
theorem wearAt_eq (p : Nat) (u : TrC) : wearAt p u = ⟨(wOf u).at p,(wOf u).at p⟩ := by
 unfold wearAt
 rw [Int.toNat_natCast]
 rfl
theorem wear_in {b : Book} (hV : Base b) {but : List Int} {T : Nat → Int} {x : W4} (h : Feas b but T x) (p : Nat) : (toldF (wearAt p) (truthsF b but)).lo ≤ x.at p ∧ x.at p ≤ (toldF (wearAt p) (truthsF b but)).hi := by
 obtain ⟨u,hu,rfl,_⟩ := truth_of_feas hV h
 have hne : truthsF b but ≠ [] := fun e => by rw [e] at hu; cases hu
 have := (told_spec (wearAt p) hne).2.2 u hu
 rw [wearAt_eq] at this
 exact this
theorem wear_lo {b : Book} (hV : Base b) {but : List Int} (hne : truthsF b but ≠ []) (p : Nat) : ∃ T x,Feas b but T x ∧ x.at p = (toldF (wearAt p) (truthsF b but)).lo := by
 obtain ⟨u,hu,h⟩ := (told_spec (wearAt p) hne).1
 rw [wearAt_eq] at h
 exact ⟨fun k => (firstF u k).lo,wOf u,feas_of_truth hV hu fun k hk => ⟨Int.le_refl _,truth_full hV hu k hk⟩,h.symm⟩
theorem wear_hi {b : Book} (hV : Base b) {but : List Int} (hne : truthsF b but ≠ []) (p : Nat) : ∃ T x,Feas b but T x ∧ x.at p = (toldF (wearAt p) (truthsF b but)).hi := by
 obtain ⟨u,hu,h⟩ := (told_spec (wearAt p) hne).2.1
 rw [wearAt_eq] at h
 exact ⟨fun k => (firstF u k).lo,wOf u,feas_of_truth hV hu fun k hk => ⟨Int.le_refl _,truth_full hV hu k hk⟩,h.symm⟩
theorem feas_more {b : Book} {y : Sv} {T : Nat → Int} {x : W4} (hy : 0 ≤ y.s ∧ y.s < b.secs.length) : Feas (more b y) [] T x ↔ Feas b [] T x ∧ (y.r - y.e + wornX b b.turns x y.s.toNat y.d ≤ T y.s.toNat ∧ T y.s.toNat ≤ y.r + y.e + wornX b b.turns x y.s.toNat y.d) := by
 have hlen : (more b y).svs.length = b.svs.length + 1 := by simp [more]
 have old : ∀ i,i < b.svs.length → svZ (more b y) i = svZ b i := fun i hi => by
  show (b.svs ++ [y]).getD i sv0 = b.svs.getD i sv0
  rw [List.getD_eq_getElem?_getD,List.getD_eq_getElem?_getD,List.getElem?_append_left hi]
 have new : svZ (more b y) b.svs.length = y := by
  show (b.svs ++ [y]).getD b.svs.length sv0 = y
  rw [List.getD_eq_getElem?_getD,List.getElem?_append_right (Nat.le_refl _)]
  simp
 have hcast : ((y.s.toNat : Nat) : Int) = y.s := by omega
 constructor
 ·intro h
  refine ⟨⟨h.wear,h.zero,h.thick,fun i hi hn k hk => ?_⟩,?_⟩
  ·have := h.right i (by omega) hn k hk
   rw [old i hi] at this
   exact this
  ·have := h.right b.svs.length (by omega) (by simp) y.s.toNat (by show _ < b.secs.length; omega)
   rw [new] at this
   exact this hcast.symm
 ·rintro ⟨h,h1,h2⟩
  refine ⟨h.wear,h.zero,h.thick,fun i hi hn k hk => ?_⟩
  by_cases e : i = b.svs.length
  ·subst e
   rw [new]
   intro hs
   have hk' : k = y.s.toNat := by omega
   subst hk'
   exact ⟨h1,h2⟩
  ·rw [old i (by omega)]
   exact h.right i (by omega) hn k hk
end Go.Di

namespace Go.Di
open Proofs
theorem err_zero {b : Book} (hV : Valid b) (hc : canF b = true) : errF b true = 0 := by
 unfold errF
 rw [valid_iff.2 hV,hc]
 rfl
theorem small_of {b : Book} (hV : Valid b) : Small b := ⟨by have := hV.secs; omega,by have := hV.turns; omega,by have := hV.svs; omega⟩
theorem thickU_con {b : Book} (hV : Valid b) (hc : canF b = true) {s d : Int} (hs : 0 ≤ s ∧ s < b.secs.length) (hd : 0 ≤ d ∧ d ≤ b.days) : CF 41 [bookD b,.int .i64 s,.int .i64 d] (.tup [spD (thickF b (truthsF b []) b.turns s d),.int .i64 0]) := by
 have h := thickA_con (small_of hV) s d
 have h1 : isSectionF b s = true := by unfold isSectionF; rw [within_iff]; omega
 have h2 : isDayF b d = true := by unfold isDayF; rw [within_iff]; omega
 unfold askE at h
 rw [h1,h2,Bool.and_self,err_zero hV hc,show spanOr 0 (thickF b (truthsF b []) b.turns s d) = thickF b (truthsF b []) b.turns s d from if_pos rfl] at h
 exact h.up
theorem wearU_con {b : Book} (hV : Valid b) (hc : canF b = true) {s : Int} (hs : 0 ≤ s ∧ s < b.secs.length) : CF 42 [bookD b,.int .i64 s] (.tup [spD (toldF (wearAt s) (truthsF b [])),.int .i64 0]) := by
 have h := wearA_con (small_of hV) s
 have h1 : isSectionF b s = true := by unfold isSectionF; rw [within_iff]; omega
 rw [h1,err_zero hV hc,show spanOr 0 (toldF (wearAt s) (truthsF b [])) = toldF (wearAt s) (truthsF b []) from if_pos rfl] at h
 exact h.up
def thRow (x : FBook) (s k : Nat) : List Int := (List.range k).map fun d => thickLo x.chain (s : Nat) (d : Nat)
def thTo (x : FBook) (i : Nat) : List (List Int) := (List.range i).map fun s => thRow x s (x.chain.days + 1).toNat
def wrTo (x : FBook) (i : Nat) : List Int := (List.range i).map fun s => wearHi x.chain (s : Nat)
theorem range_snoc {α : Type} (f : Nat → α) (i : Nat) : (List.range (i + 1)).map f = (List.range i).map f ++ [f i] := by rw [List.range_succ,List.map_append]; rfl
def knIn (x : FBook) (m : List (K2 × Bool)) (i j : Nat) (y : Int) (r : List Int) : List (List Int) → List Int → List (Key × Val)
 | [],[] => knowAn_S2 x m i j y r
 | [],z :: l => knowAo_S2 x m i j y r z l
 | t :: q,[] => knowBn_S2 x m i j y r t q
 | t :: q,z :: l => knowBo_S2 x m i j y r t q z l
def knS (x : FBook) (m : List (K2 × Bool)) (i : Nat) : List Int → List (List Int) → List (Key × Val)
 | y :: r,t :: q => knowB_S0 x m i y r t q
 | _,_ => knowA_S0 x m i
theorem know_in {x : FBook} (hV : Valid x.chain) (hc : canF x.chain = true) (m : List (K2 × Bool)) (i : Nat) (hi : i < x.chain.secs.length) (y : Int) (r : List Int) (th : List (List Int)) :
  LF 63 (Code.at [1,0,1,0,0,1,1,0,0,1,1,1,1,0,1] (body Tryd.f174)) (knIn x m i 0 y r th []) .normal (knIn x m i (x.chain.days + 1).toNat y r th (thRow x i (x.chain.days + 1).toNat)) := by
 have hd := hV.days
 refine LF.each (id := 2) (c := Code.at [1,0,1,0,0,1,1,0,0,1,1,1,1,0,1,0,0] (body Tryd.f174)) (by kernel_rfl) (x.chain.days + 1).toNat (fun j => knIn x m i j y r th (thRow x i j)) (fun j hj => ?_) ?_
 ·have hth := thickU_con hV hc (s := (i : Int)) (d := (j : Int)) (by omega) (by omega)
  have hn : thRow x i (j + 1) = thRow x i j ++ [(thickF x.chain (truthsF x.chain []) x.chain.turns i j).lo] := range_snoc _ j
  have hlen : (thRow x i j).length ≤ 31 := by unfold thRow; rw [List.length_map,List.length_range]; omega
  simp only [hn]
  cases th with
  | nil =>
   cases hl : thRow x i j with
   | nil => exact ⟨_,_,_,_,_,_,knowAn_2_on x m i j y r (thickF x.chain (truthsF x.chain []) x.chain.turns i j) 0,⟨decide_eq_true (by omega),hth,by omega,by omega,i64_of (by omega) (by omega),trivial⟩,rfl⟩
   | cons z l =>
    rw [hl] at hlen
    exact ⟨_,_,_,_,_,_,knowAo_2_on x m i j y r z l (thickF x.chain (truthsF x.chain []) x.chain.turns i j) 0,⟨decide_eq_true (by omega),hth,by omega,rfl,by rw [List.length_append]; simp only [List.length_cons,List.length_nil] at hlen ⊢; omega,i64_of (by omega) (by omega),trivial⟩,rfl⟩
  | cons t q =>
   cases hl : thRow x i j with
   | nil => exact ⟨_,_,_,_,_,_,knowBn_2_on x m i j y r t q (thickF x.chain (truthsF x.chain []) x.chain.turns i j) 0,⟨decide_eq_true (by omega),hth,by omega,by omega,i64_of (by omega) (by omega),trivial⟩,rfl⟩
   | cons z l =>
    rw [hl] at hlen
    exact ⟨_,_,_,_,_,_,knowBo_2_on x m i j y r t q z l (thickF x.chain (truthsF x.chain []) x.chain.turns i j) 0,⟨decide_eq_true (by omega),hth,by omega,rfl,by rw [List.length_append]; simp only [List.length_cons,List.length_nil] at hlen ⊢; omega,i64_of (by omega) (by omega),trivial⟩,rfl⟩
 ·have hf : decide ((((x.chain.days + 1).toNat : Nat) : Int) < x.chain.days + 1) = false := decide_eq_false (by omega)
  cases th with
  | nil => cases thRow x i (x.chain.days + 1).toNat with
   | nil => exact ⟨_,_,_,_,_,_,_,knowAn_2_end x m i _ y r,⟨hf,trivial⟩,.inl ⟨rfl,rfl⟩,rfl⟩
   | cons z l => exact ⟨_,_,_,_,_,_,_,knowAo_2_end x m i _ y r z l,⟨hf,trivial⟩,.inl ⟨rfl,rfl⟩,rfl⟩
  | cons t q => cases thRow x i (x.chain.days + 1).toNat with
   | nil => exact ⟨_,_,_,_,_,_,_,knowBn_2_end x m i _ y r t q,⟨hf,trivial⟩,.inl ⟨rfl,rfl⟩,rfl⟩
   | cons z l => exact ⟨_,_,_,_,_,_,_,knowBo_2_end x m i _ y r t q z l,⟨hf,trivial⟩,.inl ⟨rfl,rfl⟩,rfl⟩
theorem know_con {x : FBook} (hV : FValid x) (hc : canF x.chain = true) (m : List (K2 × Bool)) : CF 174 [fopD x m] (fbkD x (.work m) (knowTh x) (knowWr x)) := by
 have hC := hV.chain
 have hd := hC.days
 have hn := hC.secs
 have hfe := hV.feet
 have hloop : LF 63 (Code.at [1,0,1] (body Tryd.f174)) (knS x m 0 (wrTo x 0) (thTo x 0)) .normal (knS x m x.feet.length (wrTo x x.feet.length) (thTo x x.feet.length)) := by
  refine LF.each (id := 0) (c := Code.at [1,0,1,0,0] (body Tryd.f174)) (by kernel_rfl) x.feet.length (fun i => knS x m i (wrTo x i) (thTo x i)) (fun i hi => ?_) ?_
  ·have hw := wearU_con hC hc (s := (i : Int)) (by omega)
   have e1 : wrTo x (i + 1) = wrTo x i ++ [(toldF (wearAt (i : Int)) (truthsF x.chain [])).hi] := range_snoc _ i
   have e2 : thTo x (i + 1) = thTo x i ++ [thRow x i (x.chain.days + 1).toNat] := range_snoc _ i
   have hrow : ∃ z l,thRow x i (x.chain.days + 1).toNat = z :: l := by
    cases h : thRow x i (x.chain.days + 1).toNat with
    | nil =>
     have := congrArg List.length h
     unfold thRow at this
     rw [List.length_map,List.length_range] at this
     simp at this
     omega
    | cons z l => exact ⟨z,l,rfl⟩
   obtain ⟨z,l,hrow⟩ := hrow
   simp only [e1,e2]
   have hin := know_in hC hc m i (by omega)
   rw [hrow] at hin ⊢
   cases i with
   | zero => exact ⟨_,_,_,_,_,_,knowA_0_on x m 0 (toldF (wearAt ((0 : Nat) : Int)) (truthsF x.chain [])) 0 (x.chain.days + 1).toNat z l,⟨lt_true hi,hw,by omega,by omega,rfl,i64_of (by omega) (by omega),hin (toldF (wearAt ((0 : Nat) : Int)) (truthsF x.chain [])).hi [] [],rfl,by omega,rfl,i64_of (by omega) (by omega),trivial⟩,rfl⟩
   | succ i =>
    have hwl : (wrTo x (i + 1)).length = i + 1 := by unfold wrTo; rw [List.length_map,List.length_range]
    have htl : (thTo x (i + 1)).length = i + 1 := by unfold thTo; rw [List.length_map,List.length_range]
    obtain ⟨y,r,hy⟩ := List.exists_cons_of_length_eq_add_one hwl
    obtain ⟨t,q,ht⟩ := List.exists_cons_of_length_eq_add_one htl
    rw [hy] at hwl
    rw [ht] at htl
    rw [hy,ht]
    exact ⟨_,_,_,_,_,_,knowB_0_on x m (i + 1) y r t q (toldF (wearAt ((i + 1 : Nat) : Int)) (truthsF x.chain [])) 0 (x.chain.days + 1).toNat z l,⟨lt_true hi,hw,by omega,rfl,by rw [List.length_append,hwl,List.length_singleton]; omega,rfl,i64_of (by omega) (by omega),hin y _ (t :: q),rfl,rfl,by rw [List.length_append,htl,List.length_singleton]; omega,rfl,i64_of (by omega) (by omega),trivial⟩,rfl⟩
  ·have hwl : (wrTo x x.feet.length).length = (x.feet.length - 1) + 1 := by unfold wrTo; rw [List.length_map,List.length_range]; omega
   have htl : (thTo x x.feet.length).length = (x.feet.length - 1) + 1 := by unfold thTo; rw [List.length_map,List.length_range]; omega
   obtain ⟨y,r,hy⟩ := List.exists_cons_of_length_eq_add_one hwl
   obtain ⟨t,q,ht⟩ := List.exists_cons_of_length_eq_add_one htl
   rw [hy,ht]
   exact ⟨_,_,_,_,_,_,_,knowB_0_end x m _ y r t q,⟨lt_false,trivial⟩,.inl ⟨rfl,rfl⟩,rfl⟩
 have hwl : (wrTo x x.feet.length).length = (x.feet.length - 1) + 1 := by unfold wrTo; rw [List.length_map,List.length_range]; omega
 have htl : (thTo x x.feet.length).length = (x.feet.length - 1) + 1 := by unfold thTo; rw [List.length_map,List.length_range]; omega
 obtain ⟨y,r,hy⟩ := List.exists_cons_of_length_eq_add_one hwl
 obtain ⟨t,q,ht⟩ := List.exists_cons_of_length_eq_add_one htl
 have e1 : knowWr x = y :: r := hy
 have e2 : knowTh x = t :: q := ht
 rw [show knS x m 0 (wrTo x 0) (thTo x 0) = knowA_S0 x m 0 from rfl,hy,ht,show knS x m x.feet.length (y :: r) (t :: q) = knowB_S0 x m x.feet.length y r t q from rfl] at hloop
 rw [e1,e2]
 exact contract_of_path (GF 63) knowB_fn (knowB_all x m x.feet.length y r t q) ⟨hloop,rfl,rfl,rfl,rfl,trivial⟩
theorem wearHi_in {b : Book} (hV : Valid b) (hc : canF b = true) {p : Nat} (hp : p < 4) : 0 ≤ wearHi b p ∧ wearHi b p ≤ 1000 := by
 obtain ⟨_,⟨t,ht,he⟩,_⟩ := told_spec (wearAt p) (ne_of_can hc)
 have ho := truths_ok hV [] t ht
 unfold wearHi
 rw [he]
 simp only [wearAt,Int.toNat_natCast]
 clear he ht
 have h4 : p = 0 ∨ p = 1 ∨ p = 2 ∨ p = 3 := by omega
 rcases h4 with rfl | rfl | rfl | rfl
 ·exact ho.w0
 ·exact ho.w1
 ·exact ho.w2
 ·exact ho.w3
theorem thickLo_in {b : Book} (hV : Valid b) (hc : canF b = true) {s d : Nat} (hs : s < b.secs.length) (hd : (d : Int) ≤ b.days) : -1000000 ≤ thickLo b s d ∧ thickLo b s d ≤ 1000000 := by
 obtain ⟨⟨t,ht,he⟩,_⟩ := told_spec (thick1F b b.turns s d) (ne_of_can hc)
 have ho := truths_ok hV [] t ht
 have hdd := hV.days
 have hn := hV.secs
 have hw := wornF_in (n := b.secs.length) (s := (s : Int)) (turns := b.turns) ho.w0 ho.w1 ho.w2 ho.w3 d
 have h200 : 0 ≤ (firstF t s).lo ∧ (firstF t s).lo ≤ 200 := by
  have h2 := (wholeGo_ok hV.sec (openF b []) b.secs.length 0 ⟨0,0,0,0⟩ (by omega) zero4 t ht).1
  have hs4 : s < 4 := by omega
  obtain ⟨q0,q1,q2,q3⟩ := h2
  simp only [firstF,Int.toNat_natCast]
  clear he hw hs hd
  have h4 : s = 0 ∨ s = 1 ∨ s = 2 ∨ s = 3 := by omega
  rcases h4 with rfl | rfl | rfl | rfl
  ·exact ⟨q0.1,Int.le_trans q0.2.1 q0.2.2⟩
  ·exact ⟨q1.1,Int.le_trans q1.2.1 q1.2.2⟩
  ·exact ⟨q2.1,Int.le_trans q2.2.1 q2.2.2⟩
  ·exact ⟨q3.1,Int.le_trans q3.2.1 q3.2.2⟩
 unfold thickLo thickF
 rw [he]
 simp only [thick1F,wornT,Int.toNat_natCast]
 show -1000000 ≤ (firstF t s).lo - wornF b.secs.length t.w0 t.w1 t.w2 t.w3 b.turns s d ∧ (firstF t s).lo - wornF b.secs.length t.w0 t.w1 t.w2 t.w3 b.turns s d ≤ 1000000
 omega
theorem know_ok {x : FBook} (hV : FValid x) (hc : canF x.chain = true) : KnOk x (knowTh x) (knowWr x) := by
 have hfe := hV.feet
 have hn := hV.chain.secs
 refine ⟨by unfold knowWr; rw [List.length_map,List.length_range],fun n hn' => ?_,by unfold knowTh; rw [List.length_map,List.length_range],fun l hl => ?_,fun l hl n hn' => ?_⟩
 ·obtain ⟨s,hs,rfl⟩ := List.mem_map.1 hn'
  rw [List.mem_range] at hs
  exact wearHi_in hV.chain hc (by omega)
 ·obtain ⟨s,hs,rfl⟩ := List.mem_map.1 hl
  rw [List.length_map,List.length_range]
 ·obtain ⟨s,hs,rfl⟩ := List.mem_map.1 hl
  obtain ⟨d,hd,rfl⟩ := List.mem_map.1 hn'
  rw [List.mem_range] at hs hd
  exact thickLo_in hV.chain hc (by omega) (by omega)
end Go.Di

