/- Part 27: an interpreter over plain data for this code, with the proof that it says what the model does, and the contracts of the functions. No condition. -/
import Derived.Test.YtfkmodcjddfeiaaDoorDi26
import Derived.Deep.Slices
import Derived.Deep.DeepHandedRow
import Derived.Carry
import Derived.LaidMore
import Derived.ProofKit
import Derived.OpenShut
set_option linter.unusedVariables false
set_option linter.unusedSimpArgs false
namespace Go.Di
open Proofs

/-! ### A plan by a grid of days and sections -/
def grdDay (x : FBook) (f : Nat → Nat → Bool) (k : Nat) (l : List Work) : Nat → List Work
 | 0 => l
 | s + 1 => if f k s = true then grdDay x f k l s ++ [⟨x.opn.getD k 0,s⟩] else grdDay x f k l s
def grdTo (x : FBook) (f : Nat → Nat → Bool) : Nat → List Work
 | 0 => []
 | k + 1 => grdDay x f k (grdTo x f k) x.feet.length
def grdF (x : FBook) (f : Nat → Nat → Bool) : List Work := grdTo x f x.opn.length
theorem grdDay_len (x : FBook) (f : Nat → Nat → Bool) (k : Nat) (l : List Work) : ∀ s,(grdDay x f k l s).length ≤ l.length + s
 | 0 => Nat.le_refl _
 | s + 1 => by
  have := grdDay_len x f k l s
  simp only [grdDay]
  split
  ·rw [List.length_append,List.length_singleton]; omega
  ·omega
theorem grdTo_len (x : FBook) (f : Nat → Nat → Bool) : ∀ k,(grdTo x f k).length ≤ k * x.feet.length
 | 0 => by simp [grdTo]
 | k + 1 => by
  have h1 := grdTo_len x f k
  have h2 := grdDay_len x f k (grdTo x f k) x.feet.length
  simp only [grdTo]
  rw [Nat.succ_mul]
  omega
theorem grdDay_mem {x : FBook} {f : Nat → Nat → Bool} {k : Nat} {l : List Work} {w : Work} : ∀ {s},w ∈ grdDay x f k l s ↔ w ∈ l ∨ ∃ j,j < s ∧ f k j = true ∧ w = ⟨x.opn.getD k 0,(j : Int)⟩
 | 0 => ⟨.inl,fun h => h.elim id fun ⟨j,hj,_⟩ => by omega⟩
 | s + 1 => by
  have ih := grdDay_mem (x := x) (f := f) (k := k) (l := l) (w := w) (s := s)
  simp only [grdDay]
  cases hb : f k s with
  | true =>
   simp only [if_true,List.mem_append,List.mem_singleton,ih]
   constructor
   ·rintro ((h | ⟨j,hj,h⟩) | h)
    ·exact .inl h
    ·exact .inr ⟨j,by omega,h⟩
    ·exact .inr ⟨s,by omega,hb,h⟩
   ·rintro (h | ⟨j,hj,h1,h2⟩)
    ·exact .inl (.inl h)
    ·by_cases hjs : j = s
     ·subst hjs; exact .inr h2
     ·exact .inl (.inr ⟨j,by omega,h1,h2⟩)
  | false =>
   simp only [Bool.false_eq_true,if_false,ih]
   constructor
   ·rintro (h | ⟨j,hj,h⟩)
    ·exact .inl h
    ·exact .inr ⟨j,by omega,h⟩
   ·rintro (h | ⟨j,hj,h1,h2⟩)
    ·exact .inl h
    ·by_cases hjs : j = s
     ·subst hjs; rw [hb] at h1; cases h1
     ·exact .inr ⟨j,by omega,h1,h2⟩
theorem grdTo_mem {x : FBook} {f : Nat → Nat → Bool} {w : Work} : ∀ {n},w ∈ grdTo x f n ↔ ∃ k j,k < n ∧ j < x.feet.length ∧ f k j = true ∧ w = ⟨x.opn.getD k 0,(j : Int)⟩
 | 0 => ⟨fun h => (by cases h),fun ⟨k,_,hk,_⟩ => by omega⟩
 | n + 1 => by
  simp only [grdTo,grdDay_mem,grdTo_mem (x := x) (f := f) (w := w) (n := n)]
  constructor
  ·rintro (⟨k,j,h1,h2⟩ | ⟨j,h1,h2⟩)
   ·exact ⟨k,j,by omega,h2⟩
   ·exact ⟨n,j,by omega,h1,h2⟩
  ·rintro ⟨k,j,h1,h2,h3⟩
   by_cases hk : k = n
   ·subst hk; exact .inr ⟨j,h2,h3⟩
   ·exact .inl ⟨k,j,by omega,h2,h3⟩
theorem grd_mem {x : FBook} {f : Nat → Nat → Bool} {w : Work} : w ∈ grdF x f ↔ ∃ k j,k < x.opn.length ∧ j < x.feet.length ∧ f k j = true ∧ w = ⟨x.opn.getD k 0,(j : Int)⟩ := grdTo_mem
theorem pair_getD {l : List Int} (h : l.Pairwise (· < ·)) {i j : Nat} (hij : i < j) (hj : j < l.length) : l.getD i 0 < l.getD j 0 := by
 rw [List.getD_eq_getElem?_getD,List.getD_eq_getElem?_getD,List.getElem?_eq_getElem (by omega),List.getElem?_eq_getElem hj]
 exact List.pairwise_iff_getElem.1 h i j (by omega) hj hij
theorem grdDay_pair {x : FBook} {f : Nat → Nat → Bool} {k : Nat} {l : List Work} (hl : l.Pairwise wlt) (hd : ∀ w ∈ l,w.d < x.opn.getD k 0) : ∀ s,(grdDay x f k l s).Pairwise wlt
 | 0 => hl
 | s + 1 => by
  have ih := grdDay_pair (f := f) hl hd s
  simp only [grdDay]
  split
  ·refine List.pairwise_append.2 ⟨ih,List.pairwise_singleton _ _,fun a ha b hb => ?_⟩
   rw [List.mem_singleton] at hb
   subst hb
   rcases grdDay_mem.1 ha with h | ⟨j,hj,_,rfl⟩
   ·exact .inl (hd a h)
   ·exact .inr ⟨rfl,by show (j : Int) < (s : Int); omega⟩
  ·exact ih
theorem grdTo_pair {x : FBook} (ho : x.opn.Pairwise (· < ·)) (f : Nat → Nat → Bool) : ∀ n,n ≤ x.opn.length → (grdTo x f n).Pairwise wlt
 | 0,_ => List.Pairwise.nil
 | n + 1,hn => by
  refine grdDay_pair (grdTo_pair ho f n (by omega)) (fun w hw => ?_) _
  obtain ⟨k,j,hk,_,_,rfl⟩ := grdTo_mem.1 hw
  exact pair_getD ho hk (by omega)
theorem grd_plan {x : FBook} (hV : FValid x) (f : Nat → Nat → Bool) : IsPlan x (grdF x f) := by
 refine ⟨fun w hw => ?_,grdTo_pair hV.opn.2 f _ (Nat.le_refl _)⟩
 obtain ⟨k,j,hk,hj,_,rfl⟩ := grd_mem.1 hw
 exact ⟨mem_getD 0 hk,by show (0 : Int) ≤ (j : Int); omega,by show (j : Int) < _; omega⟩

/-! ### sound -/
theorem fcheck_val {x : FBook} (hs : FSmall x) : CF 98 [fbookD x] (.int .i64 (if fvalidF x = true then 0 else 70)) := by
 have h := fcheck_con hs
 unfold fcheckF at h
 cases hv : fvalidF x with
 | true => rw [hv] at h; exact h
 | false => rw [hv] at h; exact h
theorem fsound_con {x : FBook} (hs : FSmall x) : CF 72 [fbookD x] (.bool (fvalidF x)) := by
 have hch := fcheck_val hs
 cases hv : fvalidF x with
 | false =>
  rw [hv,if_neg (by decide)] at hch
  have hloop : LF 108 (Code.at [1,1,0,1] (body Tryd.f72)) (fsoundN_S0 x) .normal (fsoundN_S0 x) :=
   LF.each (id := 0) (c := Code.at [1,1,0,1,0,0] (body Tryd.f72)) (by kernel_rfl) 0 (fun _ => fsoundN_S0 x) (fun i hi => by omega) ⟨_,_,_,_,_,_,_,fsoundN_0_end x,trivial,.inl ⟨rfl,rfl⟩,rfl⟩
  exact contract_of_path (GF 108) fsoundN_fn (fsoundN_all x) ⟨hch,hloop,trivial⟩
 | true =>
  rw [hv,if_pos rfl] at hch
  have hV := fvalid_iff.1 hv
  have hC := hV.chain
  have hn := hC.secs
  have hd := hC.days
  have hf := hV.feet
  have hins : ∀ n lo hi : Int,lo ≤ n ∧ n ≤ hi → CF 50 [.int .i64 n,.int .i64 lo,.int .i64 hi] (.bool true) := fun n lo hi h => by
   have := (inside_con n lo hi).up
   rwa [show insideF n lo hi = true from by unfold insideF; simp [h.1,h.2]] at this
  have hloop : LF 108 (Code.at [1,1,0,1] (body Tryd.f72)) (fsoundY_S0 x 0) .normal (fsoundY_S0 x x.feet.length) := by
   refine LF.each (id := 0) (c := Code.at [1,1,0,1,0,0] (body Tryd.f72)) (by kernel_rfl) x.feet.length (fun i => fsoundY_S0 x i) (fun i hi => ?_) ⟨_,_,_,_,_,_,_,fsoundY_0_end x _,⟨lt_false,trivial⟩,.inl ⟨rfl,rfl⟩,rfl⟩
   obtain ⟨q1,q2⟩ := hC.sec (x.chain.secs.getD i sec0) (getD_mem _ _ _ (by omega))
   have hv1 : CF 117 [spD (x.chain.secs.getD i sec0).t,.int .i64 0,.int .i64 200] (.bool true) := by
    have := (validB_con (x.chain.secs.getD i sec0).t 0 200).up
    rwa [show validSF (x.chain.secs.getD i sec0).t 0 200 = true from by unfold validSF; rw [decide_eq_true (by omega),decide_eq_true (by omega),decide_eq_true (by omega)]; rfl] at this
   have hv2 : CF 117 [spD (x.chain.secs.getD i sec0).w,.int .i64 0,.int .i64 3] (.bool true) := by
    have := (validB_con (x.chain.secs.getD i sec0).w 0 3).up
    rwa [show validSF (x.chain.secs.getD i sec0).w 0 3 = true from by unfold validSF; rw [decide_eq_true (by omega),decide_eq_true (by omega),decide_eq_true (by omega)]; rfl] at this
   exact ⟨_,_,_,_,_,_,fsoundY_0_on x i,⟨lt_true hi,⟨by omega,by omega⟩,by omega,⟨by omega,by omega⟩,by omega,hins _ _ _ (hV.each _ (mem_getD 0 hi)),by omega,hv1,by omega,hv2,i64_of (by omega) (by omega),trivial⟩,rfl⟩
  have hc0 : CF 64 [bookD x.chain] (.int .i64 0) := by
   have := (check_small hs.chain).up
   rwa [show checkF x.chain = 0 from by have h := check_zero (b := x.chain); rw [valid_iff.2 hC] at h; simpa using h] at this
  have h1 := hins (x.chain.secs.length : Int) 1 4 (by omega)
  have h2 := hins x.chain.days 1 30 (by omega)
  have h3 := hins x.new 0 200 hV.new
  have h4 := hins x.stock 0 200 hV.stock
  have h5 := hins x.make 0 9 hV.make
  have h6 : ((x.feet.length : Int) == (x.chain.secs.length : Int)) = true := by rw [hf]; simp
  have h7 : decide ((x.chain.turns.length : Int) ≤ 4) = true := decide_eq_true (by have := hC.turns; omega)
  have h8 : decide ((x.opn.length : Int) ≤ 4) = true := decide_eq_true (by have := hV.opnl; omega)
  have h9 : CF 52 [.sl false .int x.opn,.int .i64 (x.chain.days + 1)] (.bool true) := by
   have := (climbs_con x.opn (x.chain.days + 1) (by have := hV.opnl; omega) (by omega)).up
   rwa [show climbsF x.opn (x.chain.days + 1) = true from by
    refine List.all_eq_true.2 fun i hi => ?_
    rw [List.mem_range] at hi
    have h1 := hV.opn.1 _ (mem_getD 0 hi)
    unfold climbAt insideF
    simp only [Bool.and_eq_true,decide_eq_true_eq,Bool.not_eq_true',Bool.and_eq_false_iff,decide_eq_false_iff_not]
    refine ⟨by omega,?_⟩
    by_cases h0 : i > 0
    ·exact .inr (by have := pair_getD hV.opn.2 (i := i - 1) (j := i) (by omega) hi; omega)
    ·exact .inl h0] at this
  have h10 : inI64 (x.chain.days + 1) := i64_of (by omega) (by omega)
  exact contract_of_path (GF 108) fsoundY_fn (fsoundY_all x x.feet.length) (by
   repeat (first | exact trivial | refine ⟨by first | exact hch | exact hc0 | exact h1 | exact h2 | exact h3 | exact h4 | exact h5 | exact h6 | exact h7 | exact h8 | exact h9 | exact h10 | exact hloop | omega,?_⟩))

/-! ### drawn -/
end Go.Di

namespace Go.Di
open Proofs

/-! ### What the laws of forge share -/
theorem inside_t {n lo hi : Int} (h : lo ≤ n ∧ n ≤ hi) : CF 50 [.int .i64 n,.int .i64 lo,.int .i64 hi] (.bool true) := by
 have := (inside_con n lo hi).up
 rwa [show insideF n lo hi = true from by unfold insideF; simp [h.1,h.2]] at this
theorem modU_con (n m : Int) (hm : m ≤ 1000000) : CF 39 [.int .i64 n,.int .i64 m] (.int .i64 (modF n m)) := (modB_con n m (by omega)).up
theorem plan_len {x : FBook} (hV : FValid x) {plan : List Work} (hp : IsPlan x plan) : plan.length ≤ 1000 := (hp.ok hV.inn).1
theorem err_of {x : FBook} (hV : FValid x) : ferrF x true = if canF x.chain = true then 0 else 72 := by
 rcases ferr_cases (x := x) true with ⟨h1,_⟩ | ⟨_,h,_⟩ | ⟨_,_,h3,h2⟩ | ⟨_,_,h3,h2⟩
 ·rw [fvalid_iff.2 hV] at h1; cases h1
 ·cases h
 ·rw [h2,h3]; rfl
 ·rw [h2,h3]; rfl
section
variable {x : FBook} (hV : FValid x) {plan : List Work} (hp : planB x plan = true)
include hV hp
end
/-! ### The first day on which a section is too thin -/
section
variable {x : FBook} {th : List (List Int)} {wr : List Int} {plan : List Work}
end
end Go.Di

/-
 DI,part Z: how a row reads its arguments,and what it asks behind the call.
-/
namespace Go.Di
open Go.RowKit Go.ChangeShapes Go.WideShapes Go.Deep

section
variable {H : Type} {enc : TypeId × Value → H} {P : Program}

/-! ### Behind the call -/
theorem trodAll_below (hl : laidOutB P = true) {W W' : World} (hb : Below W.heap.size W W') {sp : Nat → Bool} : ∀ {ts : List TypeId} {vs : List Value} {ds : List (DataW H)} {ps : List MemPlace},
  (∀ t ∈ ts,P.readableRec t = true ∧ t < P.types.size) → DataW.TrodAll enc P W 0 (fun _ => true) true ts vs ds ps → (∀ x ∈ ps,x.block < W.heap.size) → (∀ x ∈ ps,sp x.block = true) → DataW.TrodAll enc P W' 0 sp true ts vs ds ps
 | [],[],[],ps,_,h,_,_ => h
 | [],[],_ :: _,_,_,h,_,_ => h.elim
 | [],_ :: _,_,_,_,h,_,_ => h.elim
 | _ :: _,[],_,_,_,h,_,_ => h.elim
 | _ :: _,_ :: _,[],_,_,h,_,_ => h.elim
 | t :: ts,v :: vs,d :: ds,ps,ht,⟨p,q,h1,h2,e⟩,hlt,hsp => by
  subst e
  have hx : ∀ x ∈ p,x ∈ p ++ q := fun x hx => List.mem_append_left _ hx
  have hy : ∀ x ∈ q,x ∈ p ++ q := fun x hx => List.mem_append_right _ hx
  obtain ⟨r1,r2⟩ := ht t (by simp)
  exact ⟨p,q,WideElems.Trod_stays hl r1 r2 h1 (fun x h => hb.same (hlt x (hx x h))) (fun x h => hsp x (hx x h)),trodAll_below hl hb (fun u hu => ht u (by simp [hu])) h2 (fun x h => hlt x (hy x h)) (fun x h => hsp x (hy x h)),rfl⟩

theorem law_post {f : Func} {s : ChangeSpec} {apart fresh handsOn again : Bool} {W W' : World} {args : Array Value} {ds gs : List (DataW H)} {before : List MemPlace} {tb : TypeId}
  (hl : laidOutB P = true) (hread : ∀ t ∈ f.params.toList,P.readableRec t = true ∧ t < P.types.size) (hvars : s.vars = []) (hres : f.resultTypes = #[tb]) (htb : P.underlying tb = some .bool)
  (hW : DataW.Whole enc P f.params.toList s.vars apart W args.toList ds gs before) (hspec : s.fn H (ds ++ gs) = { results := [.lit (.bool true)],args := ds }) (hb : Below W.heap.size W W') :
  s.post enc P f apart fresh handsOn again W args (.bool true) W' := by
 have hlt : ∀ x ∈ before,x.block < W.heap.size := fun x hx => by simpa using hW.lt x hx
 have hW0 := hW
 obtain ⟨p,q,h1,h2,rfl,hz,hn⟩ := hW
 have hq : q = [] ∧ gs = [] := by
  rw [hvars] at h2
  cases gs with
  | nil => exact ⟨h2,rfl⟩
  | cons _ _ => exact h2.elim
 obtain ⟨rfl,rfl⟩ := hq
 have hbool : ∀ (b : Nat) (sp : Nat → Bool) (hd : Bool),DataW.TrodAll enc P W' b sp hd f.resultTypes.toList ((Value.bool true).resultList f.resultTypes.size) [.lit (.bool true)] [] := fun b sp hd => by
  rw [hres]
  exact trodAll_cons_mk (shut_bool htb _) trodAll_mk0
 have hargs : ∀ sp : Nat → Bool,(∀ x ∈ p,sp x.block = true) → DataW.TrodAll enc P W' 0 sp true f.params.toList args.toList ds p := fun sp hsp =>
  trodAll_below hl hb hread h1 (fun x hx => hlt x (by simp [hx])) hsp
 have hv : ∀ sp : Nat → Bool,DataW.TrodVars enc P W' sp s.vars ([] : List (DataW H)) [] := fun sp => by rw [hvars]; rfl
 refine ⟨ds,[],p ++ [],[],p,[],hW0,?_,?_,?_,hb.frame _,fun _ => ⟨?_,[.lit (.bool true)] ++ ds,[],[] ++ p,⟨[] ++ p,[],?_,hv (fun _ => true),by simp,?_,?_⟩,?_⟩⟩
 ·rw [hspec]; exact hbool _ _ _
 ·rw [hspec]; exact hargs _ fun x hx => by simpa using hlt x (by simp [hx])
 ·rw [hspec]; exact hv _
 ·exact ok_one hres rfl (okWide_bool_mk htb _)
 ·exact trodAll_append (hargs (fun _ => true) fun _ _ => rfl) (hbool _ _ _)
 ·intro b off hp
  have hp' : MemPlace.cell b off ∈ p := by simpa using hp
  rw [hb.frozen (p := ⟨b,off,none⟩) (hlt (.cell b off) (by simp [hp']))]
  exact hz b off (by simpa using hp')
 ·intro ha
  have := hn ha
  simpa using this
 ·intro x hx _
  simpa using hx

/-! ### Reading arguments -/
variable {w : World} {sp : Nat → Bool} {hd : Bool}
/-- Memory that was there. -/
def Old (w : World) : Foot := fun b _ => b < w.heap.size
theorem cell_old {w : World} {a : Addr} {v : Value} (h : w.cell? a = some v) : a.block < w.heap.size := by
 unfold World.cell? at h
 cases hh : w.heap[a.block]? with
 | none => rw [hh] at h; cases h
 | some o => exact (Array.getElem?_eq_some_iff.1 hh).1

/-- How an element reads. -/
def ReadsE (enc : TypeId × Value → H) (P : Program) (w : World) (sp : Nat → Bool) (hd : Bool) (t : TypeId) (e : E) : Prop := ∀ (fuel : Nat) (cs : List Value) (x : DataW H × List MemPlace),DataW.trod enc P w 0 sp hd fuel t cs = some x → ∃ y : e.α,cs.length = e.sz ∧ RelE (Old w) w e y cs

theorem reads_int {t : TypeId} (ht : P.underlying t = some (.int .i64)) {fuel : Nat} {cs : List Value} {x : DataW H × List MemPlace} (h : DataW.trod enc P w 0 sp hd fuel t cs = some x) : ∃ n,cs = [.int .i64 n] := by
 obtain ⟨n,h1,_⟩ := DataW.trod_int ht h
 exact ⟨n,h1⟩
theorem reads_two {t : TypeId} {f0 f1 : Field} (ht : P.underlying t = some (.struct #[f0,f1])) (hc : P.cellsOf t = 2) (o0 : f0.offset = 0) (o1 : f1.offset = 1) (c0 : P.cellsOf f0.type = 1) (c1 : P.cellsOf f1.type = 1)
  (t0 : P.underlying f0.type = some (.int .i64)) (t1 : P.underlying f1.type = some (.int .i64)) {fuel : Nat} {cs : List Value} {x : DataW H × List MemPlace} (h : DataW.trod enc P w 0 sp hd fuel t cs = some x) : ∃ a b,cs = [.int .i64 a,.int .i64 b] := by
 obtain ⟨xs,k,_,_,hl,hx,hf⟩ := DataW.trod_struct ht h
 rw [hc] at hl
 match xs,hx,cs,hl with
 | [y0,y1],_,[v0,v1],_ =>
  have g0 := hf 0 f0 rfl
  have g1 := hf 1 f1 rfl
  simp [o0,o1,c0,c1] at g0 g1
  obtain ⟨a,ha⟩ := reads_int t0 g0
  obtain ⟨b,hb⟩ := reads_int t1 g1
  simp only [List.cons.injEq,and_true] at ha hb
  exact ⟨a,b,by rw [ha,hb]⟩
theorem reads_four {t : TypeId} {f0 f1 f2 f3 : Field} (ht : P.underlying t = some (.struct #[f0,f1,f2,f3])) (hc : P.cellsOf t = 4) (o0 : f0.offset = 0) (o1 : f1.offset = 1) (o2 : f2.offset = 2) (o3 : f3.offset = 3)
  (c0 : P.cellsOf f0.type = 1) (c1 : P.cellsOf f1.type = 1) (c2 : P.cellsOf f2.type = 1) (c3 : P.cellsOf f3.type = 1) (t0 : P.underlying f0.type = some (.int .i64)) (t1 : P.underlying f1.type = some (.int .i64)) (t2 : P.underlying f2.type = some (.int .i64)) (t3 : P.underlying f3.type = some (.int .i64))
  {fuel : Nat} {cs : List Value} {x : DataW H × List MemPlace} (h : DataW.trod enc P w 0 sp hd fuel t cs = some x) : ∃ a b c d,cs = [.int .i64 a,.int .i64 b,.int .i64 c,.int .i64 d] := by
 obtain ⟨xs,k,_,_,hl,hx,hf⟩ := DataW.trod_struct ht h
 rw [hc] at hl
 match xs,hx,cs,hl with
 | [y0,y1,y2,y3],_,[v0,v1,v2,v3],_ =>
  have g0 := hf 0 f0 rfl
  have g1 := hf 1 f1 rfl
  have g2 := hf 2 f2 rfl
  have g3 := hf 3 f3 rfl
  simp [o0,o1,o2,o3,c0,c1,c2,c3] at g0 g1 g2 g3
  obtain ⟨a,ha⟩ := reads_int t0 g0
  obtain ⟨b,hb⟩ := reads_int t1 g1
  obtain ⟨c,hc⟩ := reads_int t2 g2
  obtain ⟨d,hd⟩ := reads_int t3 g3
  simp only [List.cons.injEq,and_true] at ha hb hc hd
  exact ⟨a,b,c,d,by rw [ha,hb,hc,hd]⟩
theorem reads_sec {t : TypeId} {f0 f1 : Field} (ht : P.underlying t = some (.struct #[f0,f1])) (hc : P.cellsOf t = 4) (o0 : f0.offset = 0) (o1 : f1.offset = 2) (c0 : P.cellsOf f0.type = 2) (c1 : P.cellsOf f1.type = 2)
  (t0 : ∀ (fuel : Nat) (cs : List Value) (x : DataW H × List MemPlace),DataW.trod enc P w 0 sp hd fuel f0.type cs = some x → ∃ a b,cs = [.int .i64 a,.int .i64 b])
  (t1 : ∀ (fuel : Nat) (cs : List Value) (x : DataW H × List MemPlace),DataW.trod enc P w 0 sp hd fuel f1.type cs = some x → ∃ a b,cs = [.int .i64 a,.int .i64 b])
  {fuel : Nat} {cs : List Value} {x : DataW H × List MemPlace} (h : DataW.trod enc P w 0 sp hd fuel t cs = some x) : ∃ a b c d,cs = [.int .i64 a,.int .i64 b,.int .i64 c,.int .i64 d] := by
 obtain ⟨xs,k,_,_,hl,hx,hf⟩ := DataW.trod_struct ht h
 rw [hc] at hl
 match xs,hx,cs,hl with
 | [y0,y1],_,[v0,v1,v2,v3],_ =>
  have g0 := hf 0 f0 rfl
  have g1 := hf 1 f1 rfl
  simp [o0,o1,c0,c1] at g0 g1
  obtain ⟨a,b,hab⟩ := t0 _ _ _ g0
  obtain ⟨c,d,hcd⟩ := t1 _ _ _ g1
  simp only [List.cons.injEq,and_true] at hab hcd
  exact ⟨a,b,c,d,by rw [hab.1,hab.2,hcd.1,hcd.2]⟩
theorem reads_slice {t et : TypeId} {e : E} (ht : P.underlying t = some (.slice et)) (hc : P.cellsOf et = e.sz) (hE : ReadsE enc P w sp hd et e) {fuel : Nat} {cs : List Value} {x : DataW H × List MemPlace} (h : DataW.trod enc P w 0 sp hd fuel t cs = some x) :
  ∃ (v : Value) (xs : List e.α),cs = [v] ∧ SlR (RelE (Old w) w e) e.sz (Old w) w false xs v ∧ xs.length ≤ maxLen := by
 rcases open_slice ht h with ⟨rfl,_⟩ | ⟨a,len,cap,m,n,D,Pl,rfl,hb,hlc,hmx,hm,_,hel⟩
 ·exact ⟨_,[],rfl,sl_nil _ _ _ _ _,by simp⟩
 ·have hlm : len ≤ m := by rw [hm]; split <;> omega
  have hz : Nonempty e.α := ⟨E.z e⟩
  have hget : ∀ i,i < len → ∃ y : e.α,∃ cs',w.cells? 0 (a.add (i * e.sz)) e.sz = some cs' ∧ RelE (Old w) w e y cs' ∧ cs'.length = e.sz := fun i hi => by
   obtain ⟨cs',h1,h2⟩ := hel i (by omega)
   obtain ⟨y,h3,h4⟩ := hE _ _ _ h2
   rw [hc] at h1
   exact ⟨y,cs',h1,h4,h3⟩
  haveI : Inhabited e.α := ⟨E.z e⟩
  obtain ⟨f,hf⟩ := choose_lt hget
  refine ⟨_,(List.range len).map f,rfl,⟨some a,cap,by simp,by simpa using hlc,hmx,fun h => (by cases h),fun hpos => ?_⟩,by simp; omega⟩
  have hlen : 0 < len := by simpa using hpos
  obtain ⟨b,off,spot⟩ := a
  have hszpos : 0 < e.sz := by cases e <;> simp [E.sz]
  have hspot : spot = none := by
   obtain ⟨cs',h1,h2,h3⟩ := hf 0 hlen
   obtain ⟨_,_,hcell⟩ := World.cells?_some h1
   have := hcell 0 hszpos
   rw [Nat.zero_mul] at this
   have h0 : w.cell? ⟨b,off,spot⟩ = cs'[0]? := by simpa [Addr.add] using this
   rw [List.getElem?_eq_getElem (by omega)] at h0
   simpa using World.cell?_spot h0
  subst hspot
  refine ⟨b,off,rfl,fun i y hy => ?_⟩
  have hi : i < len := by
   have := (List.getElem?_eq_some_iff.1 hy).1
   simpa using this
  have hyf : y = f i := by
   rw [List.getElem?_map,List.getElem?_range hi] at hy
   exact (Option.some.inj hy).symm
  subst hyf
  obtain ⟨cs',h1,h2,h3⟩ := hf i hi
  obtain ⟨_,_,hcell⟩ := World.cells?_some h1
  refine ⟨cs',h3,h2,fun j u hu => ?_⟩
  have hj : j < e.sz := by
   have := (List.getElem?_eq_some_iff.1 hu).1
   omega
  have hcj := hcell j hj
  rw [Deep.add_add,hu] at hcj
  have hca : w.cell? ⟨b,off + i * e.sz + j,none⟩ = some u := by
   have : (⟨b,off,none⟩ : Addr).add (i * e.sz + j) = ⟨b,off + i * e.sz + j,none⟩ := by
    unfold Addr.add
    by_cases h0 : i * e.sz + j = 0
    ·rw [if_pos h0]; congr 1; omega
    ·rw [if_neg h0]; congr 1; dsimp only; omega
   rwa [this] at hcj
  exact ⟨cell_old hca,hca⟩
theorem reads_book {t : TypeId} {f0 f1 f2 f3 f4 : Field} (ht : P.underlying t = some (.struct #[f0,f1,f2,f3,f4])) (hc : P.cellsOf t = 5) (o0 : f0.offset = 0) (o1 : f1.offset = 1) (o2 : f2.offset = 2) (o3 : f3.offset = 3) (o4 : f4.offset = 4)
  (c0 : P.cellsOf f0.type = 1) (c1 : P.cellsOf f1.type = 1) (c2 : P.cellsOf f2.type = 1) (c3 : P.cellsOf f3.type = 1) (c4 : P.cellsOf f4.type = 1)
  {e0 e1 e2 : TypeId} (t0 : P.underlying f0.type = some (.slice e0)) (t1 : P.underlying f1.type = some (.slice e1)) (t2 : P.underlying f2.type = some (.slice e2)) (t3 : P.underlying f3.type = some (.int .i64)) (t4 : P.underlying f4.type = some (.int .i64))
  (k0 : P.cellsOf e0 = 4) (k1 : P.cellsOf e1 = 1) (k2 : P.cellsOf e2 = 4) (r0 : ReadsE enc P w sp hd e0 .sec) (r1 : ReadsE enc P w sp hd e1 .int) (r2 : ReadsE enc P w sp hd e2 .sv)
  {fuel : Nat} {cs : List Value} {x : DataW H × List MemPlace} (h : DataW.trod enc P w 0 sp hd fuel t cs = some x) :
  ∃ b : Book,All2 (RelC (Old w) w) [.sl false .sec b.secs,.sl false .int b.turns,.sl false .sv b.svs,.int .i64 b.rule,.int .i64 b.days] cs ∧ b.secs.length ≤ maxLen ∧ b.turns.length ≤ maxLen ∧ b.svs.length ≤ maxLen := by
 obtain ⟨xs,k,_,_,hl,hx,hf⟩ := DataW.trod_struct ht h
 rw [hc] at hl
 match xs,hx,cs,hl with
 | [y0,y1,y2,y3,y4],_,[v0,v1,v2,v3,v4],_ =>
  have g0 := hf 0 f0 rfl
  have g1 := hf 1 f1 rfl
  have g2 := hf 2 f2 rfl
  have g3 := hf 3 f3 rfl
  have g4 := hf 4 f4 rfl
  simp [o0,o1,o2,o3,o4,c0,c1,c2,c3,c4] at g0 g1 g2 g3 g4
  obtain ⟨w0,a,ha,sa,la⟩ := reads_slice (e := .sec) t0 k0 r0 g0
  obtain ⟨w1,b,hb,sb,lb⟩ := reads_slice (e := .int) t1 k1 r1 g1
  obtain ⟨w2,c,hc,sc,lc⟩ := reads_slice (e := .sv) t2 k2 r2 g2
  obtain ⟨d,hd⟩ := reads_int t3 g3
  obtain ⟨e,he⟩ := reads_int t4 g4
  simp only [List.cons.injEq,and_true] at ha hb hc hd he
  subst ha hb hc hd he
  exact ⟨⟨a,b,c,d,e⟩,⟨sa,sb,sc,rfl,rfl,trivial⟩,la,lb,lc⟩
end
end Go.Di

