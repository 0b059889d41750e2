/- Part 23: contracts are proved. No condition. -/
import Derived.Test.YtfkmodcjddfeiaaDoorDi22
import Derived.Deep.Slices
import Derived.Deep.DeepHandedRow
import Derived.Carry
import Derived.LaidMore
import Derived.ProofKit
import Derived.OpenShut
set_option linter.unusedVariables false
set_option linter.unusedSimpArgs false
namespace Go.Di
open Proofs
def Yck (x : FBook) (f : Nat → Nat → Bool) (k : Nat) (l : List Work) : Nat → List Work
 | 0 => l
 | s + 1 => if f k s = true then Yck x f k l s ++ [⟨x.opn.getD k 0,s⟩] else Yck x f k l s
def grdTo (x : FBook) (f : Nat → Nat → Bool) : Nat → List Work
 | 0 => []
 | k + 1 => Yck x f k (grdTo x f k) x.feet.length
def grdF (x : FBook) (f : Nat → Nat → Bool) : List Work := grdTo x f x.opn.length
theorem grdDay_len (x : FBook) (f : Nat → Nat → Bool) (k : Nat) (l : List Work) : ∀ s,(Yck x f k l s).length ≤ l.length + s
 | 0 => Nat.le_refl _
 | s + 1 => by
  have := grdDay_len x f k l s
  simp only [Yck]
  split
  ·rw [List.length_append,List.length_singleton]; omega
  ·omega
theorem grdTo_len (x : FBook) (f : Nat → Nat → Bool) : ∀ k,(grdTo x f k).length ≤ k * x.feet.length
 | 0 => by simp [grdTo]
 | k + 1 => by
  have h1 := grdTo_len x f k
  have h2 := grdDay_len x f k (grdTo x f k) x.feet.length
  simp only [grdTo]
  rw [Nat.succ_mul]
  omega
theorem grdDay_mem {x : FBook} {f : Nat → Nat → Bool} {k : Nat} {l : List Work} {w : Work} : ∀ {s},w ∈ Yck x f k l s ↔ w ∈ l ∨ ∃ j,j < s ∧ f k j = true ∧ w = ⟨x.opn.getD k 0,(j : Int)⟩
 | 0 => ⟨.inl,fun h => h.elim id fun ⟨j,hj,_⟩ => by omega⟩
 | s + 1 => by
  have ih := grdDay_mem (x := x) (f := f) (k := k) (l := l) (w := w) (s := s)
  simp only [Yck]
  cases hb : f k s with
  | true =>
   simp only [if_true,List.mem_append,List.mem_singleton,ih]
   constructor
   ·rintro ((h | ⟨j,hj,h⟩) | h)
    ·exact .inl h
    ·exact .inr ⟨j,by omega,h⟩
    ·exact .inr ⟨s,by omega,hb,h⟩
   ·rintro (h | ⟨j,hj,h1,h2⟩)
    ·exact .inl (.inl h)
    ·by_cases hjs : j = s
     ·subst hjs; exact .inr h2
     ·exact .inl (.inr ⟨j,by omega,h1,h2⟩)
  | false =>
   simp only [Bool.false_eq_true,if_false,ih]
   constructor
   ·rintro (h | ⟨j,hj,h⟩)
    ·exact .inl h
    ·exact .inr ⟨j,by omega,h⟩
   ·rintro (h | ⟨j,hj,h1,h2⟩)
    ·exact .inl h
    ·by_cases hjs : j = s
     ·subst hjs; rw [hb] at h1; cases h1
     ·exact .inr ⟨j,by omega,h1,h2⟩
theorem grdTo_mem {x : FBook} {f : Nat → Nat → Bool} {w : Work} : ∀ {n},w ∈ grdTo x f n ↔ ∃ k j,k < n ∧ j < x.feet.length ∧ f k j = true ∧ w = ⟨x.opn.getD k 0,(j : Int)⟩
 | 0 => ⟨fun h => (by cases h),fun ⟨k,_,hk,_⟩ => by omega⟩
 | n + 1 => by
  simp only [grdTo,grdDay_mem,grdTo_mem (x := x) (f := f) (w := w) (n := n)]
  constructor
  ·rintro (⟨k,j,h1,h2⟩ | ⟨j,h1,h2⟩)
   ·exact ⟨k,j,by omega,h2⟩
   ·exact ⟨n,j,by omega,h1,h2⟩
  ·rintro ⟨k,j,h1,h2,h3⟩
   by_cases hk : k = n
   ·subst hk; exact .inr ⟨j,h2,h3⟩
   ·exact .inl ⟨k,j,by omega,h2,h3⟩
theorem grd_mem {x : FBook} {f : Nat → Nat → Bool} {w : Work} : w ∈ grdF x f ↔ ∃ k j,k < x.opn.length ∧ j < x.feet.length ∧ f k j = true ∧ w = ⟨x.opn.getD k 0,(j : Int)⟩ := grdTo_mem
theorem pair_getD {l : List Int} (h : l.Pairwise (· < ·)) {i j : Nat} (hij : i < j) (hj : j < l.length) : l.getD i 0 < l.getD j 0 := by
 rw [List.getD_eq_getElem?_getD,List.getD_eq_getElem?_getD,List.getElem?_eq_getElem (by omega),List.getElem?_eq_getElem hj]
 exact List.pairwise_iff_getElem.1 h i j (by omega) hj hij
theorem grdDay_pair {x : FBook} {f : Nat → Nat → Bool} {k : Nat} {l : List Work} (hl : l.Pairwise wlt) (hd : ∀ w ∈ l,w.d < x.opn.getD k 0) : ∀ s,(Yck x f k l s).Pairwise wlt
 | 0 => hl
 | s + 1 => by
  have ih := grdDay_pair (f := f) hl hd s
  simp only [Yck]
  split
  ·refine List.pairwise_append.2 ⟨ih,List.pairwise_singleton _ _,fun a ha b hb => ?_⟩
   rw [List.mem_singleton] at hb
   subst hb
   rcases grdDay_mem.1 ha with h | ⟨j,hj,_,rfl⟩
   ·exact .inl (hd a h)
   ·exact .inr ⟨rfl,by show (j : Int) < (s : Int); omega⟩
  ·exact ih
theorem grdTo_pair {x : FBook} (ho : x.opn.Pairwise (· < ·)) (f : Nat → Nat → Bool) : ∀ n,n ≤ x.opn.length → (grdTo x f n).Pairwise wlt
 | 0,_ => List.Pairwise.nil
 | n + 1,hn => by
  refine grdDay_pair (grdTo_pair ho f n (by omega)) (fun w hw => ?_) _
  obtain ⟨k,j,hk,_,_,rfl⟩ := grdTo_mem.1 hw
  exact pair_getD ho hk (by omega)
theorem grd_plan {x : FBook} (hV : FValid x) (f : Nat → Nat → Bool) : IsPlan x (grdF x f) := by
 refine ⟨fun w hw => ?_,grdTo_pair hV.opn.2 f _ (Nat.le_refl _)⟩
 obtain ⟨k,j,hk,hj,_,rfl⟩ := grd_mem.1 hw
 exact ⟨mem_getD 0 hk,by show (0 : Int) ≤ (j : Int); omega,by show (j : Int) < _; omega⟩
theorem fcheck_val {x : FBook} (hs : FSmall x) : CF 98 [Yab x] (.int .i64 (if Ydy x = true then 0 else 70)) := by
 have h := fcheck_con hs
 unfold fcheckF at h
 cases hv : Ydy x with
 | true => rw [hv] at h; exact h
 | false => rw [hv] at h; exact h
theorem fsound_con {x : FBook} (hs : FSmall x) : CF 72 [Yab x] (.bool (Ydy x)) := by
 have hch := fcheck_val hs
 cases hv : Ydy x with
 | false =>
  rw [hv,if_neg (by decide)] at hch
  have hloop : LF 108 (k_72 [1,1,0,1]) (Ydr x) .normal (Ydr x) :=
   LF.each (id := 0) (c := k_72 [1,1,0,1,0,0]) (by kernel_rfl) 0 (fun _ => Ydr x) (fun i hi => by omega) ⟨_,_,_,_,_,_,_,fsoundN_0_end x,trivial,.inl ⟨rfl,rfl⟩,rfl⟩
  exact Yaa (GF 108) fsoundN_fn (fsoundN_all x) ⟨hch,hloop,trivial⟩
 | true =>
  rw [hv,if_pos rfl] at hch
  have hV := Yd9.1 hv
  have hC := hV.chain
  have hn := hC.secs
  have hd := hC.days
  have hf := hV.feet
  have hins : ∀ n lo hi : Int,lo ≤ n ∧ n ≤ hi → CF 50 [.int .i64 n,.int .i64 lo,.int .i64 hi] (.bool true) := fun n lo hi h => by
   have := (Ygo n lo hi).up
   rwa [show Yd6 n lo hi = true from by unfold Yd6; simp [h.1,h.2]] at this
  have hloop : LF 108 (k_72 [1,1,0,1]) (Ycx x 0) .normal (Ycx x x.feet.length) := by
   refine LF.each (id := 0) (c := k_72 [1,1,0,1,0,0]) (by kernel_rfl) x.feet.length (fun i => Ycx x i) (fun i hi => ?_) ⟨_,_,_,_,_,_,_,fsoundY_0_end x _,⟨Yas,trivial⟩,.inl ⟨rfl,rfl⟩,rfl⟩
   obtain ⟨q1,q2⟩ := hC.sec (x.chain.secs.getD i sec0) (Yby _ _ _ (by omega))
   have hv1 : CF 117 [spD (x.chain.secs.getD i sec0).t,.int .i64 0,.int .i64 200] (.bool true) := by
    have := (validB_con (x.chain.secs.getD i sec0).t 0 200).up
    rwa [show validSF (x.chain.secs.getD i sec0).t 0 200 = true from by unfold validSF; rw [decide_eq_true (by omega),decide_eq_true (by omega),decide_eq_true (by omega)]; rfl] at this
   have hv2 : CF 117 [spD (x.chain.secs.getD i sec0).w,.int .i64 0,.int .i64 3] (.bool true) := by
    have := (validB_con (x.chain.secs.getD i sec0).w 0 3).up
    rwa [show validSF (x.chain.secs.getD i sec0).w 0 3 = true from by unfold validSF; rw [decide_eq_true (by omega),decide_eq_true (by omega),decide_eq_true (by omega)]; rfl] at this
   exact ⟨_,_,_,_,_,_,fsoundY_0_on x i,⟨Yak hi,⟨by omega,by omega⟩,by omega,⟨by omega,by omega⟩,by omega,hins _ _ _ (hV.each _ (mem_getD 0 hi)),by omega,hv1,by omega,hv2,Yah (by omega) (by omega),trivial⟩,rfl⟩
  have hc0 : CF 64 [Ybc x.chain] (.int .i64 0) := by
   have := (Yfo hs.chain).up
   rwa [show Yao x.chain = 0 from by have h := check_zero (b := x.chain); rw [Yei.2 hC] at h; simpa using h] at this
  have h1 := hins (x.chain.secs.length : Int) 1 4 (by omega)
  have h2 := hins x.chain.days 1 30 (by omega)
  have h3 := hins x.new 0 200 hV.new
  have h4 := hins x.stock 0 200 hV.stock
  have h5 := hins x.make 0 9 hV.make
  have h6 : ((x.feet.length : Int) == (x.chain.secs.length : Int)) = true := by rw [hf]; simp
  have h7 : decide ((x.chain.turns.length : Int) ≤ 4) = true := decide_eq_true (by have := hC.turns; omega)
  have h8 : decide ((x.opn.length : Int) ≤ 4) = true := decide_eq_true (by have := hV.opnl; omega)
  have h9 : CF 52 [.sl false .int x.opn,.int .i64 (x.chain.days + 1)] (.bool true) := by
   have := (climbs_con x.opn (x.chain.days + 1) (by have := hV.opnl; omega) (by omega)).up
   rwa [show climbsF x.opn (x.chain.days + 1) = true from by
    refine List.all_eq_true.2 fun i hi => ?_
    rw [List.mem_range] at hi
    have h1 := hV.opn.1 _ (mem_getD 0 hi)
    unfold climbAt Yd6
    simp only [Bool.and_eq_true,decide_eq_true_eq,Bool.not_eq_true',Bool.and_eq_false_iff,decide_eq_false_iff_not]
    refine ⟨by omega,?_⟩
    by_cases h0 : i > 0
    ·exact .inr (by have := pair_getD hV.opn.2 (i := i - 1) (j := i) (by omega) hi; omega)
    ·exact .inl h0] at this
  have h10 : Yac (x.chain.days + 1) := Yah (by omega) (by omega)
  exact Yaa (GF 108) fsoundY_fn (fsoundY_all x x.feet.length) (by
   repeat (first | exact trivial | refine ⟨by first | exact hch | exact hc0 | exact h1 | exact h2 | exact h3 | exact h4 | exact h5 | exact h6 | exact h7 | exact h8 | exact h9 | exact h10 | exact hloop | omega,?_⟩))
theorem member_con (s : Int) (k : Nat) : CF 131 [.int .i64 s,.int .i64 (k : Int)] (.bool (bitF s k)) := by
 have := Yaa (GF 10) member_fn (member_all s (k : Int)) ⟨by omega,trivial⟩
 rw [Int.toNat_natCast] at this
 exact this
def drawnZ (x : FBook) (n : Int) : Int := modF n (1 * 2 ^ min (x.opn.length * x.feet.length) 64)
def Yds (x : FBook) (n : Int) : List Work := grdF x fun k s => bitF (drawnZ x n) (k * x.feet.length + s)
def drS0 (x : FBook) (n z : Int) (k : Nat) : List Work → List (Key × Val)
 | [] => Ydc x n z k
 | y :: r => Yet x n z k y r
def drS2 (x : FBook) (n z : Int) (k s : Nat) : List Work → List (Key × Val)
 | [] => Ydb x n z k s
 | y :: r => Ycu x n z k s y r
theorem drawn_con {x : FBook} (hV : FValid x) (n : Int) : CF 76 [Yab x,.int .i64 n] (.sl false .work (Yds x n)) := by
 have hn := hV.inn.n
 have ho := hV.opnl
 obtain ⟨z,hz⟩ : ∃ z,z = drawnZ x n := ⟨_,rfl⟩
 obtain ⟨f,hf⟩ : ∃ f : Nat → Nat → Bool,f = fun k s => bitF z (k * x.feet.length + s) := ⟨_,rfl⟩
 have hloop : LF 53 (k_76 [1,1,1,0,1]) (drS0 x n z 0 (grdTo x f 0)) .normal (drS0 x n z x.opn.length (grdF x f)) := by
  refine LF.each (id := 0) (c := k_76 [1,1,1,0,1,0,0]) (by kernel_rfl) x.opn.length (fun k => drS0 x n z k (grdTo x f k)) (fun k hk => ?_) ?_
  ·have hlen := grdTo_len x f k
   have hlen' : (grdTo x f k).length ≤ 20 := Nat.le_trans hlen (Nat.le_trans (Nat.mul_le_mul (show k ≤ 5 by omega) hn.2) (by decide))
   have hin : ∀ l,l.length ≤ 20 → LF 53 (k_76 [1,1,1,0,1,0,0,1,0,0,1]) (drS2 x n z k 0 l) .normal (drS2 x n z k x.feet.length (Yck x f k l x.feet.length)) := by
    intro l hl
    refine LF.each (id := 2) (c := k_76 [1,1,1,0,1,0,0,1,0,0,1,0,0]) (by kernel_rfl) x.feet.length (fun s => drS2 x n z k s (Yck x f k l s)) (fun s hs => ?_) ?_
    ·have hl2 := grdDay_len x f k l s
     have hkf : k * x.feet.length ≤ 4 * 4 := Nat.mul_le_mul (by omega) hn.2
     have e1 : (k : Int) * (x.feet.length : Int) = ((k * x.feet.length : Nat) : Int) := by rw [Int.natCast_mul]
     have i1 : Yac ((k : Int) * (x.feet.length : Int)) := by rw [e1]; exact Yah (by omega) (by omega)
     have i2 : Yac ((k : Int) * (x.feet.length : Int) + (s : Int)) := by rw [e1]; exact Yah (by omega) (by omega)
     have hm := member_con z (k * x.feet.length + s)
     rw [show (((k * x.feet.length + s : Nat) : Int)) = (k : Int) * (x.feet.length : Int) + (s : Int) by rw [e1]; omega] at hm
     have hw := fwork_con (x.opn.getD k 0) (s : Int)
     cases hb : f k s with
     | true =>
      have hb' : bitF z (k * x.feet.length + s) = true := by rw [hf] at hb; exact hb
      rw [hb'] at hm
      have hn2 : Yck x f k l (s + 1) = Yck x f k l s ++ [⟨x.opn.getD k 0,(s : Int)⟩] := by simp only [Yck,hb,if_true]
      simp only [hn2]
      cases he : Yck x f k l s with
      | nil => exact ⟨_,_,_,_,_,_,drawnA_2_yes x n z k s,⟨Yak hs,i1,i2,hm,⟨by omega,by omega⟩,by omega,hw,by omega,Yah (by omega) (by omega),trivial⟩,rfl⟩
      | cons y r =>
       rw [he] at hl2
       exact ⟨_,_,_,_,_,_,drawnB_2_yes x n z k s y r,⟨Yak hs,i1,i2,hm,⟨by omega,by omega⟩,by omega,hw,rfl,by rw [List.length_append,List.length_singleton]; omega,Yah (by omega) (by omega),trivial⟩,rfl⟩
     | false =>
      have hb' : bitF z (k * x.feet.length + s) = false := by rw [hf] at hb; exact hb
      rw [hb'] at hm
      have hn2 : Yck x f k l (s + 1) = Yck x f k l s := by simp only [Yck,hb,Bool.false_eq_true,if_false]
      simp only [hn2]
      cases he : Yck x f k l s with
      | nil => exact ⟨_,_,_,_,_,_,drawnA_2_no x n z k s,⟨Yak hs,i1,i2,hm,Yah (by omega) (by omega),trivial⟩,rfl⟩
      | cons y r => exact ⟨_,_,_,_,_,_,drawnB_2_no x n z k s y r,⟨Yak hs,i1,i2,hm,Yah (by omega) (by omega),trivial⟩,rfl⟩
    ·cases Yck x f k l x.feet.length with
     | nil => exact ⟨_,_,_,_,_,_,_,drawnA_2_end x n z k _,⟨Yas,trivial⟩,.inl ⟨rfl,rfl⟩,rfl⟩
     | cons y r => exact ⟨_,_,_,_,_,_,_,drawnB_2_end x n z k _ y r,⟨Yas,trivial⟩,.inl ⟨rfl,rfl⟩,rfl⟩
   have hin := hin _ hlen'
   have he : grdTo x f (k + 1) = Yck x f k (grdTo x f k) x.feet.length := rfl
   simp only [he]
   have hk64 : Yac ((k : Int) + 1) := Yah (by omega) (by omega)
   cases h1 : grdTo x f k with
   | nil =>
    rw [h1] at hin
    cases h2 : Yck x f k [] x.feet.length with
    | nil => rw [h2] at hin; exact ⟨_,_,_,_,_,_,drawnA_0_on x n z k _,⟨Yak hk,hin,hk64,trivial⟩,rfl⟩
    | cons y r => rw [h2] at hin; exact ⟨_,_,_,_,_,_,drawnA_0_new x n z k _ y r,⟨Yak hk,hin,hk64,trivial⟩,rfl⟩
   | cons y r =>
    rw [h1] at hin
    cases h2 : Yck x f k (y :: r) x.feet.length with
    | nil =>
     have : ∀ s,(Yck x f k (y :: r) s) ≠ [] := by
      intro s
      induction s with
      | zero => intro h; cases h
      | succ s ih =>
       simp only [Yck]
       split
       ·intro h; simp at h
       ·exact ih
     exact absurd h2 (this _)
    | cons w q => rw [h2] at hin; exact ⟨_,_,_,_,_,_,drawnB_0_on x n z k y r _ w q,⟨Yak hk,hin,hk64,trivial⟩,rfl⟩
  ·show ∃ dec orc lorc ks ps e1 L1,_
   cases h : grdTo x f x.opn.length with
   | nil => exact ⟨_,_,_,_,_,_,_,drawnA_0_end x n z _,⟨Yas,trivial⟩,.inl ⟨rfl,rfl⟩,by unfold grdF; rw [h]; rfl⟩
   | cons y r => exact ⟨_,_,_,_,_,_,_,drawnB_0_end x n z _ y r,⟨Yas,trivial⟩,.inl ⟨rfl,rfl⟩,by unfold grdF; rw [h]; rfl⟩
 have hof : x.opn.length * x.feet.length ≤ 4 * 4 := Nat.mul_le_mul ho hn.2
 have e1 : (x.opn.length : Int) * (x.feet.length : Int) = ((x.opn.length * x.feet.length : Nat) : Int) := by rw [Int.natCast_mul]
 have hp : (2 : Int) ^ (min (x.opn.length * x.feet.length) 64) ≤ 2 ^ 16 := by
  have : (2 : Nat) ^ (min (x.opn.length * x.feet.length) 64) ≤ 2 ^ 16 := Nat.pow_le_pow_right (by decide) (by omega)
  have h2 : ((2 ^ (min (x.opn.length * x.feet.length) 64) : Nat) : Int) ≤ ((2 ^ 16 : Nat) : Int) := Int.ofNat_le.2 this
  simpa using h2
 have hp0 : (0 : Int) < (2 : Int) ^ (min (x.opn.length * x.feet.length) 64) := Int.pow_pos (by decide)
 have i1 : Yac ((x.opn.length : Int) * (x.feet.length : Int)) := by rw [e1]; exact Yah (by omega) (by omega)
 have hmod : CF 39 [.int .i64 n,.int .i64 (1 * 2 ^ min (Int.toNat ((x.opn.length : Int) * (x.feet.length : Int))) 64)] (.int .i64 z) := by
  rw [hz]
  unfold drawnZ
  rw [e1,Int.toNat_natCast]
  exact (modB_con n _ (by omega)).up
 have i2 : Yac ((1 : Int) * 2 ^ min (Int.toNat ((x.opn.length : Int) * (x.feet.length : Int))) 64) := by rw [e1,Int.toNat_natCast]; exact Yah (by omega) (by omega)
 have hfin : Yds x n = grdF x f := by rw [hf,hz]; rfl
 rw [hfin]
 cases hl : grdF x f with
 | nil =>
  rw [hl] at hloop
  exact Contract.weaken (Yaa (GF 53) drawnA_fn (drawnA_none x n z _) ⟨i1,⟨by rw [e1]; omega,i2⟩,hmod,hloop,trivial⟩)
 | cons y r =>
  rw [hl] at hloop
  exact Yaa (GF 53) drawnA_fn (drawnA_some x n z _ y r) ⟨i1,⟨by rw [e1]; omega,i2⟩,hmod,hloop,rfl,trivial⟩
theorem drawn_plan {x : FBook} (hV : FValid x) (n : Int) : IsPlan x (Yds x n) := grd_plan hV _
end Go.Di

namespace Go.Di
open Proofs
theorem inside_t {n lo hi : Int} (h : lo ≤ n ∧ n ≤ hi) : CF 50 [.int .i64 n,.int .i64 lo,.int .i64 hi] (.bool true) := by
 have := (Ygo n lo hi).up
 rwa [show Yd6 n lo hi = true from by unfold Yd6; simp [h.1,h.2]] at this
theorem plan_len {x : FBook} (hV : FValid x) {plan : List Work} (hp : IsPlan x plan) : plan.length ≤ 1000 := (hp.ok hV.inn).1
theorem err_of {x : FBook} (hV : FValid x) : Yc7 x true = if canF x.chain = true then 0 else 72 := by
 rcases ferr_cases (x := x) true with ⟨h1,_⟩ | ⟨_,h,_⟩ | ⟨_,_,h3,h2⟩ | ⟨_,_,h3,h2⟩
 ·rw [Yd9.2 hV] at h1; cases h1
 ·cases h
 ·rw [h2,h3]; rfl
 ·rw [h2,h3]; rfl
theorem least_b {x : FBook} {plan : List Work} (hp : Ygj x plan = true) {s d : Int} (hs : 0 ≤ s ∧ s < x.feet.length) (hd : 0 ≤ d ∧ d ≤ x.chain.days) : leastB x plan s d = true := by
 unfold leastB
 rw [hp,Bool.true_and,Bool.and_eq_true,Ya0,Ya0]
 exact ⟨by omega,hd⟩
abbrev leastV (x : FBook) (plan : List Work) (s d : Int) : Int := Ybk x (Yax x) (Yaw x) plan s d
section
variable {x : FBook} (hV : FValid x) {plan : List Work} (hp : Ygj x plan = true)
include hV hp
theorem fLeast_can (hc : canF x.chain = true) {s d : Int} (hs : 0 ≤ s ∧ s < x.feet.length) (hd : 0 ≤ d ∧ d ≤ x.chain.days) : fLeastF x plan s d = (leastV x plan s d,0) := by
 unfold fLeastF
 rw [least_b hp hs hd,err_of hV,if_pos hc,if_pos rfl]
theorem fFirst_not (hc : canF x.chain = false) : Yc8 x plan = (0,0,72) := by
 unfold Yc8
 rw [hp,err_of hV,hc]
 rfl
theorem fFirst_can (hc : canF x.chain = true) : Yc8 x plan = match Ycc x (Yax x) (Yaw x) plan with
  | some (d,s) => ((d : Int),(s : Int),0)
  | none => (0,0,4) := by
 unfold Yc8
 rw [hp,err_of hV,if_pos hc,if_pos rfl]
 rfl
theorem fSafe_not (hc : canF x.chain = false) : fSafeF x plan = (false,72) := by
 unfold fSafeF
 rw [fFirst_not hV hp hc]
 rfl
theorem fSafe_can (hc : canF x.chain = true) : fSafeF x plan = ((Ycc x (Yax x) (Yaw x) plan).isNone,0) := by
 unfold fSafeF
 rw [fFirst_can hV hp hc]
 cases Ycc x (Yax x) (Yaw x) plan with
 | none => rfl
 | some p => rfl
end
section
variable {x : FBook} {th : List (List Int)} {wr : List Int} {plan : List Work}
theorem fsec_none {d : Nat} (h : fsecF x th wr plan d = none) : ∀ s,s < x.feet.length → Yev x th wr plan d s = false := by
 intro s hs
 unfold fsecF at h
 rw [List.find?_eq_none] at h
 simpa using h s (List.mem_range.2 hs)
theorem fsec_some {d s : Nat} (h : fsecF x th wr plan d = some s) : s < x.feet.length ∧ Yev x th wr plan d s = true ∧ ∀ j,j < s → Yev x th wr plan d j = false := by
 unfold fsecF at h
 rw [List.find?_range_eq_some] at h
 exact ⟨List.mem_range.1 h.2.1,h.1,fun j hj => by simpa using h.2.2 j hj⟩
theorem fthinGo_none : ∀ {k d : Nat},Yeu x th wr plan k d = none → ∀ e,d ≤ e → e < d + k → ∀ s,s < x.feet.length → Yev x th wr plan e s = false
 | 0,d,_,e,h1,h2 => by omega
 | k + 1,d,h,e,h1,h2 => by
  unfold Yeu at h
  cases hs : fsecF x th wr plan d with
  | some s => rw [hs] at h; cases h
  | none =>
   rw [hs] at h
   by_cases hde : e = d
   ·subst hde; exact fsec_none hs
   ·exact fthinGo_none h e (by omega) (by omega)
theorem fthinGo_some : ∀ {k d d0 s0 : Nat},Yeu x th wr plan k d = some (d0,s0) → d ≤ d0 ∧ d0 < d + k ∧ s0 < x.feet.length ∧ Yev x th wr plan d0 s0 = true ∧ (∀ e,d ≤ e → e < d0 → ∀ s,s < x.feet.length → Yev x th wr plan e s = false) ∧ ∀ s,s < s0 → Yev x th wr plan d0 s = false
 | 0,d,d0,s0,h => by cases h
 | k + 1,d,d0,s0,h => by
  unfold Yeu at h
  cases hs : fsecF x th wr plan d with
  | some s =>
   rw [hs] at h
   cases h
   obtain ⟨h1,h2,h3⟩ := fsec_some hs
   exact ⟨Nat.le_refl _,by omega,h1,h2,fun e h4 h5 => by omega,h3⟩
  | none =>
   rw [hs] at h
   obtain ⟨h1,h2,h3,h4,h5,h6⟩ := fthinGo_some h
   refine ⟨by omega,by omega,h3,h4,fun e h7 h8 => ?_,h6⟩
   by_cases hde : e = d
   ·subst hde; exact fsec_none hs
   ·exact h5 e (by omega) h8
theorem fbad_not {d s : Nat} (h : Yev x th wr plan d s = false) : x.chain.rule ≤ Ybk x th wr plan s d := by
 unfold Yev at h
 have := of_decide_eq_false h
 omega
theorem fbad_yes {d s : Nat} (h : Yev x th wr plan d s = true) : Ybk x th wr plan s d < x.chain.rule := of_decide_eq_true h
theorem thinN (h : Ycc x th wr plan = none) {s d : Int} (hs : 0 ≤ s ∧ s < x.feet.length) (hd : 0 ≤ d ∧ d ≤ x.chain.days) : x.chain.rule ≤ Ybk x th wr plan s d := by
 have := fbad_not (fthinGo_none h d.toNat (by omega) (by omega) s.toNat (by omega))
 rwa [Int.toNat_of_nonneg hs.1,Int.toNat_of_nonneg hd.1] at this
theorem thinS {d0 s0 : Nat} (h : Ycc x th wr plan = some (d0,s0)) : (d0 : Int) ≤ x.chain.days ∧ (s0 : Int) < x.feet.length ∧ Ybk x th wr plan s0 d0 < x.chain.rule ∧ ∀ s d : Int,0 ≤ s ∧ s < x.feet.length → 0 ≤ d ∧ d ≤ x.chain.days → Ybk x th wr plan s d < x.chain.rule → (d0 : Int) < d ∨ (d0 : Int) = d ∧ (s0 : Int) ≤ s := by
 obtain ⟨h1,h2,h3,h4,h5,h6⟩ := fthinGo_some h
 refine ⟨by omega,by omega,fbad_yes h4,fun s d hs hd hlt => ?_⟩
 by_cases hlt1 : d < d0
 ·have := fbad_not (h5 d.toNat (by omega) (by omega) s.toNat (by omega))
  rw [Int.toNat_of_nonneg hs.1,Int.toNat_of_nonneg hd.1] at this
  omega
 ·by_cases he : d = d0
  ·refine .inr ⟨he.symm,?_⟩
   by_cases hss : s < s0
   ·have := fbad_not (h6 s.toNat (by omega))
    rw [Int.toNat_of_nonneg hs.1,← he] at this
    omega
   ·omega
  ·exact .inl (by omega)
theorem Ygw : (Ycc x th wr plan).isNone = true ↔ ∀ s d : Int,0 ≤ s ∧ s < x.feet.length → 0 ≤ d ∧ d ≤ x.chain.days → x.chain.rule ≤ Ybk x th wr plan s d := by
 cases h : Ycc x th wr plan with
 | none => exact ⟨fun _ s d hs hd => thinN h hs hd,fun _ => rfl⟩
 | some p =>
  obtain ⟨d0,s0⟩ := p
  obtain ⟨h1,h2,h3,_⟩ := thinS h
  refine ⟨fun h => (by cases h),fun hall => ?_⟩
  have := hall s0 d0 ⟨by omega,h2⟩ ⟨by omega,h1⟩
  omega
end
end Go.Di

namespace Go.Di
open Go.RowKit Go.ChangeShapes Go.WideShapes Go.Deep
section
variable {H : Type} {enc : TypeId × Value → H} {P : Program}
theorem trodAll_below (hl : laidOutB P = true) {W W' : World} (hb : Below W.heap.size W W') {sp : Nat → Bool} : ∀ {ts : List TypeId} {vs : List Value} {ds : List (DataW H)} {ps : List MemPlace},
  (∀ t ∈ ts,P.readableRec t = true ∧ t < P.types.size) → DataW.TrodAll enc P W 0 (fun _ => true) true ts vs ds ps → (∀ x ∈ ps,x.block < W.heap.size) → (∀ x ∈ ps,sp x.block = true) → DataW.TrodAll enc P W' 0 sp true ts vs ds ps
 | [],[],[],ps,_,h,_,_ => h
 | [],[],_ :: _,_,_,h,_,_ => h.elim
 | [],_ :: _,_,_,_,h,_,_ => h.elim
 | _ :: _,[],_,_,_,h,_,_ => h.elim
 | _ :: _,_ :: _,[],_,_,h,_,_ => h.elim
 | t :: ts,v :: vs,d :: ds,ps,ht,⟨p,q,h1,h2,e⟩,hlt,hsp => by
  subst e
  have hx : ∀ x ∈ p,x ∈ p ++ q := fun x hx => List.mem_append_left _ hx
  have hy : ∀ x ∈ q,x ∈ p ++ q := fun x hx => List.mem_append_right _ hx
  obtain ⟨r1,r2⟩ := ht t (by simp)
  exact ⟨p,q,WideElems.Trod_stays hl r1 r2 h1 (fun x h => hb.same (hlt x (hx x h))) (fun x h => hsp x (hx x h)),trodAll_below hl hb (fun u hu => ht u (by simp [hu])) h2 (fun x h => hlt x (hy x h)) (fun x h => hsp x (hy x h)),rfl⟩
theorem law_post {f : Func} {s : ChangeSpec} {apart fresh handsOn again : Bool} {W W' : World} {args : Array Value} {ds gs : List (DataW H)} {before : List MemPlace} {tb : TypeId}
  (hl : laidOutB P = true) (hread : ∀ t ∈ f.params.toList,P.readableRec t = true ∧ t < P.types.size) (hvars : s.vars = []) (hres : f.resultTypes = #[tb]) (htb : P.underlying tb = some .bool)
  (hW : DataW.Whole enc P f.params.toList s.vars apart W args.toList ds gs before) (hspec : s.fn H (ds ++ gs) = { results := [.lit (.bool true)],args := ds }) (hb : Below W.heap.size W W') :
  s.post enc P f apart fresh handsOn again W args (.bool true) W' := by
 have hlt : ∀ x ∈ before,x.block < W.heap.size := fun x hx => by simpa using hW.lt x hx
 have hW0 := hW
 obtain ⟨p,q,h1,h2,rfl,hz,hn⟩ := hW
 have hq : q = [] ∧ gs = [] := by
  rw [hvars] at h2
  cases gs with
  | nil => exact ⟨h2,rfl⟩
  | cons _ _ => exact h2.elim
 obtain ⟨rfl,rfl⟩ := hq
 have hbool : ∀ (b : Nat) (sp : Nat → Bool) (hd : Bool),DataW.TrodAll enc P W' b sp hd f.resultTypes.toList ((Value.bool true).resultList f.resultTypes.size) [.lit (.bool true)] [] := fun b sp hd => by
  rw [hres]
  exact trodAll_cons_mk (shut_bool htb _) trodAll_mk0
 have hargs : ∀ sp : Nat → Bool,(∀ x ∈ p,sp x.block = true) → DataW.TrodAll enc P W' 0 sp true f.params.toList args.toList ds p := fun sp hsp =>
  trodAll_below hl hb hread h1 (fun x hx => hlt x (by simp [hx])) hsp
 have hv : ∀ sp : Nat → Bool,DataW.TrodVars enc P W' sp s.vars ([] : List (DataW H)) [] := fun sp => by rw [hvars]; rfl
 refine ⟨ds,[],p ++ [],[],p,[],hW0,?_,?_,?_,hb.frame _,fun _ => ⟨?_,[.lit (.bool true)] ++ ds,[],[] ++ p,⟨[] ++ p,[],?_,hv (fun _ => true),by simp,?_,?_⟩,?_⟩⟩
 ·rw [hspec]; exact hbool _ _ _
 ·rw [hspec]; exact hargs _ fun x hx => by simpa using hlt x (by simp [hx])
 ·rw [hspec]; exact hv _
 ·exact ok_one hres rfl (okWide_bool_mk htb _)
 ·exact trodAll_append (hargs (fun _ => true) fun _ _ => rfl) (hbool _ _ _)
 ·intro b off hp
  have hp' : MemPlace.cell b off ∈ p := by simpa using hp
  rw [hb.frozen (p := ⟨b,off,none⟩) (hlt (.cell b off) (by simp [hp']))]
  exact hz b off (by simpa using hp')
 ·intro ha
  have := hn ha
  simpa using this
 ·intro x hx _
  simpa using hx
variable {w : World} {sp : Nat → Bool} {hd : Bool}
def Old (w : World) : Foot := fun b _ => b < w.heap.size
theorem Yhg {w : World} {a : Addr} {v : Value} (h : w.cell? a = some v) : a.block < w.heap.size := by
 unfold World.cell? at h
 cases hh : w.heap[a.block]? with
 | none => rw [hh] at h; cases h
 | some o => exact (Array.getElem?_eq_some_iff.1 hh).1
def ReadsE (enc : TypeId × Value → H) (P : Program) (w : World) (sp : Nat → Bool) (hd : Bool) (t : TypeId) (e : E) : Prop := ∀ (fuel : Nat) (cs : List Value) (x : DataW H × List MemPlace),DataW.trod enc P w 0 sp hd fuel t cs = some x → ∃ y : e.α,cs.length = e.sz ∧ RelE (Old w) w e y cs
theorem Ycs {t : TypeId} (ht : P.underlying t = some (.int .i64)) {fuel : Nat} {cs : List Value} {x : DataW H × List MemPlace} (h : DataW.trod enc P w 0 sp hd fuel t cs = some x) : ∃ n,cs = [.int .i64 n] := by
 obtain ⟨n,h1,_⟩ := DataW.trod_int ht h
 exact ⟨n,h1⟩
theorem reads_two {t : TypeId} {f0 f1 : Field} (ht : P.underlying t = some (.struct #[f0,f1])) (hc : P.cellsOf t = 2) (o0 : f0.offset = 0) (o1 : f1.offset = 1) (c0 : P.cellsOf f0.type = 1) (c1 : P.cellsOf f1.type = 1)
  (t0 : P.underlying f0.type = some (.int .i64)) (t1 : P.underlying f1.type = some (.int .i64)) {fuel : Nat} {cs : List Value} {x : DataW H × List MemPlace} (h : DataW.trod enc P w 0 sp hd fuel t cs = some x) : ∃ a b,cs = [.int .i64 a,.int .i64 b] := by
 obtain ⟨xs,k,_,_,hl,hx,hf⟩ := DataW.trod_struct ht h
 rw [hc] at hl
 match xs,hx,cs,hl with
 | [y0,y1],_,[v0,v1],_ =>
  have g0 := hf 0 f0 rfl
  have g1 := hf 1 f1 rfl
  simp [o0,o1,c0,c1] at g0 g1
  obtain ⟨a,ha⟩ := Ycs t0 g0
  obtain ⟨b,hb⟩ := Ycs t1 g1
  simp only [List.cons.injEq,and_true] at ha hb
  exact ⟨a,b,by rw [ha,hb]⟩
theorem reads_four {t : TypeId} {f0 f1 f2 f3 : Field} (ht : P.underlying t = some (.struct #[f0,f1,f2,f3])) (hc : P.cellsOf t = 4) (o0 : f0.offset = 0) (o1 : f1.offset = 1) (o2 : f2.offset = 2) (o3 : f3.offset = 3)
  (c0 : P.cellsOf f0.type = 1) (c1 : P.cellsOf f1.type = 1) (c2 : P.cellsOf f2.type = 1) (c3 : P.cellsOf f3.type = 1) (t0 : P.underlying f0.type = some (.int .i64)) (t1 : P.underlying f1.type = some (.int .i64)) (t2 : P.underlying f2.type = some (.int .i64)) (t3 : P.underlying f3.type = some (.int .i64))
  {fuel : Nat} {cs : List Value} {x : DataW H × List MemPlace} (h : DataW.trod enc P w 0 sp hd fuel t cs = some x) : ∃ a b c d,cs = [.int .i64 a,.int .i64 b,.int .i64 c,.int .i64 d] := by
 obtain ⟨xs,k,_,_,hl,hx,hf⟩ := DataW.trod_struct ht h
 rw [hc] at hl
 match xs,hx,cs,hl with
 | [y0,y1,y2,y3],_,[v0,v1,v2,v3],_ =>
  have g0 := hf 0 f0 rfl
  have g1 := hf 1 f1 rfl
  have g2 := hf 2 f2 rfl
  have g3 := hf 3 f3 rfl
  simp [o0,o1,o2,o3,c0,c1,c2,c3] at g0 g1 g2 g3
  obtain ⟨a,ha⟩ := Ycs t0 g0
  obtain ⟨b,hb⟩ := Ycs t1 g1
  obtain ⟨c,hc⟩ := Ycs t2 g2
  obtain ⟨d,hd⟩ := Ycs t3 g3
  simp only [List.cons.injEq,and_true] at ha hb hc hd
  exact ⟨a,b,c,d,by rw [ha,hb,hc,hd]⟩
theorem reads_sec {t : TypeId} {f0 f1 : Field} (ht : P.underlying t = some (.struct #[f0,f1])) (hc : P.cellsOf t = 4) (o0 : f0.offset = 0) (o1 : f1.offset = 2) (c0 : P.cellsOf f0.type = 2) (c1 : P.cellsOf f1.type = 2)
  (t0 : ∀ (fuel : Nat) (cs : List Value) (x : DataW H × List MemPlace),DataW.trod enc P w 0 sp hd fuel f0.type cs = some x → ∃ a b,cs = [.int .i64 a,.int .i64 b])
  (t1 : ∀ (fuel : Nat) (cs : List Value) (x : DataW H × List MemPlace),DataW.trod enc P w 0 sp hd fuel f1.type cs = some x → ∃ a b,cs = [.int .i64 a,.int .i64 b])
  {fuel : Nat} {cs : List Value} {x : DataW H × List MemPlace} (h : DataW.trod enc P w 0 sp hd fuel t cs = some x) : ∃ a b c d,cs = [.int .i64 a,.int .i64 b,.int .i64 c,.int .i64 d] := by
 obtain ⟨xs,k,_,_,hl,hx,hf⟩ := DataW.trod_struct ht h
 rw [hc] at hl
 match xs,hx,cs,hl with
 | [y0,y1],_,[v0,v1,v2,v3],_ =>
  have g0 := hf 0 f0 rfl
  have g1 := hf 1 f1 rfl
  simp [o0,o1,c0,c1] at g0 g1
  obtain ⟨a,b,hab⟩ := t0 _ _ _ g0
  obtain ⟨c,d,hcd⟩ := t1 _ _ _ g1
  simp only [List.cons.injEq,and_true] at hab hcd
  exact ⟨a,b,c,d,by rw [hab.1,hab.2,hcd.1,hcd.2]⟩
theorem Yd4 {t et : TypeId} {e : E} (ht : P.underlying t = some (.slice et)) (hc : P.cellsOf et = e.sz) (hE : ReadsE enc P w sp hd et e) {fuel : Nat} {cs : List Value} {x : DataW H × List MemPlace} (h : DataW.trod enc P w 0 sp hd fuel t cs = some x) :
  ∃ (v : Value) (xs : List e.α),cs = [v] ∧ SlR (RelE (Old w) w e) e.sz (Old w) w false xs v ∧ xs.length ≤ maxLen := by
 rcases open_slice ht h with ⟨rfl,_⟩ | ⟨a,len,cap,m,n,D,Pl,rfl,hb,hlc,hmx,hm,_,hel⟩
 ·exact ⟨_,[],rfl,sl_nil _ _ _ _ _,by simp⟩
 ·have hlm : len ≤ m := by rw [hm]; split <;> omega
  have hz : Nonempty e.α := ⟨E.z e⟩
  have hget : ∀ i,i < len → ∃ y : e.α,∃ cs',w.cells? 0 (a.add (i * e.sz)) e.sz = some cs' ∧ RelE (Old w) w e y cs' ∧ cs'.length = e.sz := fun i hi => by
   obtain ⟨cs',h1,h2⟩ := hel i (by omega)
   obtain ⟨y,h3,h4⟩ := hE _ _ _ h2
   rw [hc] at h1
   exact ⟨y,cs',h1,h4,h3⟩
  haveI : Inhabited e.α := ⟨E.z e⟩
  obtain ⟨f,hf⟩ := choose_lt hget
  refine ⟨_,(List.range len).map f,rfl,⟨some a,cap,by simp,by simpa using hlc,hmx,fun h => (by cases h),fun hpos => ?_⟩,by simp; omega⟩
  have hlen : 0 < len := by simpa using hpos
  obtain ⟨b,off,spot⟩ := a
  have hszpos : 0 < e.sz := by cases e <;> simp [E.sz]
  have hspot : spot = none := by
   obtain ⟨cs',h1,h2,h3⟩ := hf 0 hlen
   obtain ⟨_,_,hcell⟩ := World.cells?_some h1
   have := hcell 0 hszpos
   rw [Nat.zero_mul] at this
   have h0 : w.cell? ⟨b,off,spot⟩ = cs'[0]? := by simpa [Addr.add] using this
   rw [List.getElem?_eq_getElem (by omega)] at h0
   simpa using World.cell?_spot h0
  subst hspot
  refine ⟨b,off,rfl,fun i y hy => ?_⟩
  have hi : i < len := by
   have := (List.getElem?_eq_some_iff.1 hy).1
   simpa using this
  have hyf : y = f i := by
   rw [List.getElem?_map,List.getElem?_range hi] at hy
   exact (Option.some.inj hy).symm
  subst hyf
  obtain ⟨cs',h1,h2,h3⟩ := hf i hi
  obtain ⟨_,_,hcell⟩ := World.cells?_some h1
  refine ⟨cs',h3,h2,fun j u hu => ?_⟩
  have hj : j < e.sz := by
   have := (List.getElem?_eq_some_iff.1 hu).1
   omega
  have hcj := hcell j hj
  rw [Deep.add_add,hu] at hcj
  have hca : w.cell? ⟨b,off + i * e.sz + j,none⟩ = some u := by
   have : (⟨b,off,none⟩ : Addr).add (i * e.sz + j) = ⟨b,off + i * e.sz + j,none⟩ := by
    unfold Addr.add
    by_cases h0 : i * e.sz + j = 0
    ·rw [if_pos h0]; congr 1; omega
    ·rw [if_neg h0]; congr 1; dsimp only; omega
   rwa [this] at hcj
  exact ⟨Yhg hca,hca⟩
theorem reads_book {t : TypeId} {f0 f1 f2 f3 f4 : Field} (ht : P.underlying t = some (.struct #[f0,f1,f2,f3,f4])) (hc : P.cellsOf t = 5) (o0 : f0.offset = 0) (o1 : f1.offset = 1) (o2 : f2.offset = 2) (o3 : f3.offset = 3) (o4 : f4.offset = 4)
  (c0 : P.cellsOf f0.type = 1) (c1 : P.cellsOf f1.type = 1) (c2 : P.cellsOf f2.type = 1) (c3 : P.cellsOf f3.type = 1) (c4 : P.cellsOf f4.type = 1)
  {e0 e1 e2 : TypeId} (t0 : P.underlying f0.type = some (.slice e0)) (t1 : P.underlying f1.type = some (.slice e1)) (t2 : P.underlying f2.type = some (.slice e2)) (t3 : P.underlying f3.type = some (.int .i64)) (t4 : P.underlying f4.type = some (.int .i64))
  (k0 : P.cellsOf e0 = 4) (k1 : P.cellsOf e1 = 1) (k2 : P.cellsOf e2 = 4) (r0 : ReadsE enc P w sp hd e0 .sec) (r1 : ReadsE enc P w sp hd e1 .int) (r2 : ReadsE enc P w sp hd e2 .sv)
  {fuel : Nat} {cs : List Value} {x : DataW H × List MemPlace} (h : DataW.trod enc P w 0 sp hd fuel t cs = some x) :
  ∃ b : Book,All2 (RelC (Old w) w) [.sl false .sec b.secs,.sl false .int b.turns,.sl false .sv b.svs,.int .i64 b.rule,.int .i64 b.days] cs ∧ b.secs.length ≤ maxLen ∧ b.turns.length ≤ maxLen ∧ b.svs.length ≤ maxLen := by
 obtain ⟨xs,k,_,_,hl,hx,hf⟩ := DataW.trod_struct ht h
 rw [hc] at hl
 match xs,hx,cs,hl with
 | [y0,y1,y2,y3,y4],_,[v0,v1,v2,v3,v4],_ =>
  have g0 := hf 0 f0 rfl
  have g1 := hf 1 f1 rfl
  have g2 := hf 2 f2 rfl
  have g3 := hf 3 f3 rfl
  have g4 := hf 4 f4 rfl
  simp [o0,o1,o2,o3,o4,c0,c1,c2,c3,c4] at g0 g1 g2 g3 g4
  obtain ⟨w0,a,ha,sa,la⟩ := Yd4 (e := .sec) t0 k0 r0 g0
  obtain ⟨w1,b,hb,sb,lb⟩ := Yd4 (e := .int) t1 k1 r1 g1
  obtain ⟨w2,c,hc,sc,lc⟩ := Yd4 (e := .sv) t2 k2 r2 g2
  obtain ⟨d,hd⟩ := Ycs t3 g3
  obtain ⟨e,he⟩ := Ycs t4 g4
  simp only [List.cons.injEq,and_true] at ha hb hc hd he
  subst ha hb hc hd he
  exact ⟨⟨a,b,c,d,e⟩,⟨sa,sb,sc,rfl,rfl,trivial⟩,la,lb,lc⟩
end
end Go.Di

