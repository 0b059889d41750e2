/- Part 25: an interpreter over plain data for this code, with the proof that it says what the model does, and the contracts of the functions. No condition. -/
import Derived.Test.YtfkmodcjddfeiaaDoorDi24
import Derived.Deep.Slices
import Derived.Deep.DeepHandedRow
import Derived.Carry
import Derived.LaidMore
import Derived.ProofKit
import Derived.OpenShut
import Derived.Test.YtfkmodcjddfeiaaDoorCards
import Derived.Test.YtfkmodcjddfeiaaDoorTie
import Derived.SevenTiedAt
import Derived.Stop.Joined
import Derived.Deep.DeepWitnessRowRef
set_option linter.unusedVariables false
set_option linter.unusedSimpArgs false
set_option maxRecDepth 100000
namespace Go.Di
open Proofs

/-! ### A plan by a grid of days and sections -/
/-! ### sound -/
theorem fcheck_val {x : FBook} (hs : FSmall x) : CF 98 [fbookD x] (.int .i64 (if fvalidF x = true then 0 else 70)) := by
 have h := fcheck_con hs
 unfold fcheckF at h
 cases hv : fvalidF x with
 | true => rw [hv] at h; exact h
 | false => rw [hv] at h; exact h
/-! ### drawn -/
end Go.Di

namespace Go.Di
open Proofs

/-! ### What the laws of forge share -/
theorem inside_t {n lo hi : Int} (h : lo ≤ n ∧ n ≤ hi) : CF 50 [.int .i64 n,.int .i64 lo,.int .i64 hi] (.bool true) := by
 have := (inside_con n lo hi).up
 rwa [show insideF n lo hi = true from by unfold insideF; simp [h.1,h.2]] at this
theorem modU_con (n m : Int) (hm : m ≤ 1000000) : CF 39 [.int .i64 n,.int .i64 m] (.int .i64 (modF n m)) := (modB_con n m (by omega)).up
theorem err_of {x : FBook} (hV : FValid x) : ferrF x true = if canF x.chain = true then 0 else 72 := by
 rcases ferr_cases (x := x) true with ⟨h1,_⟩ | ⟨_,h,_⟩ | ⟨_,_,h3,h2⟩ | ⟨_,_,h3,h2⟩
 ·rw [fvalid_iff.2 hV] at h1; cases h1
 ·cases h
 ·rw [h2,h3]; rfl
 ·rw [h2,h3]; rfl
/-- The least of a section on a day,by a plan,of a book that can be true. -/
abbrev leastV (x : FBook) (plan : List Work) (s d : Int) : Int := fleastF x (knowTh x) (knowWr x) plan s d
section
variable {x : FBook} (hV : FValid x) {plan : List Work} (hp : planB x plan = true)
include hV hp
theorem fFirst_not (hc : canF x.chain = false) : fFirstF x plan = (0,0,72) := by
 unfold fFirstF
 rw [hp,err_of hV,hc]
 rfl
theorem fFirst_can (hc : canF x.chain = true) : fFirstF x plan = match fthinF x (knowTh x) (knowWr x) plan with
  | some (d,s) => ((d : Int),(s : Int),0)
  | none => (0,0,4) := by
 unfold fFirstF
 rw [hp,err_of hV,if_pos hc,if_pos rfl]
 rfl
end
/-! ### The first day on which a section is too thin -/
section
variable {x : FBook} {th : List (List Int)} {wr : List Int} {plan : List Work}
theorem fsec_none {d : Nat} (h : fsecF x th wr plan d = none) : ∀ s,s < x.feet.length → fbadF x th wr plan d s = false := by
 intro s hs
 unfold fsecF at h
 rw [List.find?_eq_none] at h
 simpa using h s (List.mem_range.2 hs)
theorem fsec_some {d s : Nat} (h : fsecF x th wr plan d = some s) : s < x.feet.length ∧ fbadF x th wr plan d s = true ∧ ∀ j,j < s → fbadF x th wr plan d j = false := by
 unfold fsecF at h
 rw [List.find?_range_eq_some] at h
 exact ⟨List.mem_range.1 h.2.1,h.1,fun j hj => by simpa using h.2.2 j hj⟩
theorem fthinGo_none : ∀ {k d : Nat},fthinGo x th wr plan k d = none → ∀ e,d ≤ e → e < d + k → ∀ s,s < x.feet.length → fbadF x th wr plan e s = false
 | 0,d,_,e,h1,h2 => by omega
 | k + 1,d,h,e,h1,h2 => by
  unfold fthinGo at h
  cases hs : fsecF x th wr plan d with
  | some s => rw [hs] at h; cases h
  | none =>
   rw [hs] at h
   by_cases hde : e = d
   ·subst hde; exact fsec_none hs
   ·exact fthinGo_none h e (by omega) (by omega)
theorem fthinGo_some : ∀ {k d d0 s0 : Nat},fthinGo x th wr plan k d = some (d0,s0) → d ≤ d0 ∧ d0 < d + k ∧ s0 < x.feet.length ∧ fbadF x th wr plan d0 s0 = true ∧ (∀ e,d ≤ e → e < d0 → ∀ s,s < x.feet.length → fbadF x th wr plan e s = false) ∧ ∀ s,s < s0 → fbadF x th wr plan d0 s = false
 | 0,d,d0,s0,h => by cases h
 | k + 1,d,d0,s0,h => by
  unfold fthinGo at h
  cases hs : fsecF x th wr plan d with
  | some s =>
   rw [hs] at h
   cases h
   obtain ⟨h1,h2,h3⟩ := fsec_some hs
   exact ⟨Nat.le_refl _,by omega,h1,h2,fun e h4 h5 => by omega,h3⟩
  | none =>
   rw [hs] at h
   obtain ⟨h1,h2,h3,h4,h5,h6⟩ := fthinGo_some h
   refine ⟨by omega,by omega,h3,h4,fun e h7 h8 => ?_,h6⟩
   by_cases hde : e = d
   ·subst hde; exact fsec_none hs
   ·exact h5 e (by omega) h8
theorem fbad_not {d s : Nat} (h : fbadF x th wr plan d s = false) : x.chain.rule ≤ fleastF x th wr plan s d := by
 unfold fbadF at h
 have := of_decide_eq_false h
 omega
theorem fbad_yes {d s : Nat} (h : fbadF x th wr plan d s = true) : fleastF x th wr plan s d < x.chain.rule := of_decide_eq_true h
theorem thinN (h : fthinF x th wr plan = none) {s d : Int} (hs : 0 ≤ s ∧ s < x.feet.length) (hd : 0 ≤ d ∧ d ≤ x.chain.days) : x.chain.rule ≤ fleastF x th wr plan s d := by
 have := fbad_not (fthinGo_none h d.toNat (by omega) (by omega) s.toNat (by omega))
 rwa [Int.toNat_of_nonneg hs.1,Int.toNat_of_nonneg hd.1] at this
theorem thinS {d0 s0 : Nat} (h : fthinF x th wr plan = some (d0,s0)) : (d0 : Int) ≤ x.chain.days ∧ (s0 : Int) < x.feet.length ∧ fleastF x th wr plan s0 d0 < x.chain.rule ∧ ∀ s d : Int,0 ≤ s ∧ s < x.feet.length → 0 ≤ d ∧ d ≤ x.chain.days → fleastF x th wr plan s d < x.chain.rule → (d0 : Int) < d ∨ (d0 : Int) = d ∧ (s0 : Int) ≤ s := by
 obtain ⟨h1,h2,h3,h4,h5,h6⟩ := fthinGo_some h
 refine ⟨by omega,by omega,fbad_yes h4,fun s d hs hd hlt => ?_⟩
 by_cases hlt1 : d < d0
 ·have := fbad_not (h5 d.toNat (by omega) (by omega) s.toNat (by omega))
  rw [Int.toNat_of_nonneg hs.1,Int.toNat_of_nonneg hd.1] at this
  omega
 ·by_cases he : d = d0
  ·refine .inr ⟨he.symm,?_⟩
   by_cases hss : s < s0
   ·have := fbad_not (h6 s.toNat (by omega))
    rw [Int.toNat_of_nonneg hs.1,← he] at this
    omega
   ·omega
  ·exact .inl (by omega)
end
end Go.Di

/-
 DI,part Z: how a row reads its arguments,and what it asks behind the call.
-/
namespace Go.Di
open Go.RowKit Go.ChangeShapes Go.WideShapes Go.Deep

section
variable {H : Type} {enc : TypeId × Value → H} {P : Program}

/-! ### Behind the call -/
theorem trodAll_below (hl : laidOutB P = true) {W W' : World} (hb : Below W.heap.size W W') {sp : Nat → Bool} : ∀ {ts : List TypeId} {vs : List Value} {ds : List (DataW H)} {ps : List MemPlace},
  (∀ t ∈ ts,P.readableRec t = true ∧ t < P.types.size) → DataW.TrodAll enc P W 0 (fun _ => true) true ts vs ds ps → (∀ x ∈ ps,x.block < W.heap.size) → (∀ x ∈ ps,sp x.block = true) → DataW.TrodAll enc P W' 0 sp true ts vs ds ps
 | [],[],[],ps,_,h,_,_ => h
 | [],[],_ :: _,_,_,h,_,_ => h.elim
 | [],_ :: _,_,_,_,h,_,_ => h.elim
 | _ :: _,[],_,_,_,h,_,_ => h.elim
 | _ :: _,_ :: _,[],_,_,h,_,_ => h.elim
 | t :: ts,v :: vs,d :: ds,ps,ht,⟨p,q,h1,h2,e⟩,hlt,hsp => by
  subst e
  have hx : ∀ x ∈ p,x ∈ p ++ q := fun x hx => List.mem_append_left _ hx
  have hy : ∀ x ∈ q,x ∈ p ++ q := fun x hx => List.mem_append_right _ hx
  obtain ⟨r1,r2⟩ := ht t (by simp)
  exact ⟨p,q,WideElems.Trod_stays hl r1 r2 h1 (fun x h => hb.same (hlt x (hx x h))) (fun x h => hsp x (hx x h)),trodAll_below hl hb (fun u hu => ht u (by simp [hu])) h2 (fun x h => hlt x (hy x h)) (fun x h => hsp x (hy x h)),rfl⟩

theorem law_post {f : Func} {s : ChangeSpec} {apart fresh handsOn again : Bool} {W W' : World} {args : Array Value} {ds gs : List (DataW H)} {before : List MemPlace} {tb : TypeId}
  (hl : laidOutB P = true) (hread : ∀ t ∈ f.params.toList,P.readableRec t = true ∧ t < P.types.size) (hvars : s.vars = []) (hres : f.resultTypes = #[tb]) (htb : P.underlying tb = some .bool)
  (hW : DataW.Whole enc P f.params.toList s.vars apart W args.toList ds gs before) (hspec : s.fn H (ds ++ gs) = { results := [.lit (.bool true)],args := ds }) (hb : Below W.heap.size W W') :
  s.post enc P f apart fresh handsOn again W args (.bool true) W' := by
 have hlt : ∀ x ∈ before,x.block < W.heap.size := fun x hx => by simpa using hW.lt x hx
 have hW0 := hW
 obtain ⟨p,q,h1,h2,rfl,hz,hn⟩ := hW
 have hq : q = [] ∧ gs = [] := by
  rw [hvars] at h2
  cases gs with
  | nil => exact ⟨h2,rfl⟩
  | cons _ _ => exact h2.elim
 obtain ⟨rfl,rfl⟩ := hq
 have hbool : ∀ (b : Nat) (sp : Nat → Bool) (hd : Bool),DataW.TrodAll enc P W' b sp hd f.resultTypes.toList ((Value.bool true).resultList f.resultTypes.size) [.lit (.bool true)] [] := fun b sp hd => by
  rw [hres]
  exact trodAll_cons_mk (shut_bool htb _) trodAll_mk0
 have hargs : ∀ sp : Nat → Bool,(∀ x ∈ p,sp x.block = true) → DataW.TrodAll enc P W' 0 sp true f.params.toList args.toList ds p := fun sp hsp =>
  trodAll_below hl hb hread h1 (fun x hx => hlt x (by simp [hx])) hsp
 have hv : ∀ sp : Nat → Bool,DataW.TrodVars enc P W' sp s.vars ([] : List (DataW H)) [] := fun sp => by rw [hvars]; rfl
 refine ⟨ds,[],p ++ [],[],p,[],hW0,?_,?_,?_,hb.frame _,fun _ => ⟨?_,[.lit (.bool true)] ++ ds,[],[] ++ p,⟨[] ++ p,[],?_,hv (fun _ => true),by simp,?_,?_⟩,?_⟩⟩
 ·rw [hspec]; exact hbool _ _ _
 ·rw [hspec]; exact hargs _ fun x hx => by simpa using hlt x (by simp [hx])
 ·rw [hspec]; exact hv _
 ·exact ok_one hres rfl (okWide_bool_mk htb _)
 ·exact trodAll_append (hargs (fun _ => true) fun _ _ => rfl) (hbool _ _ _)
 ·intro b off hp
  have hp' : MemPlace.cell b off ∈ p := by simpa using hp
  rw [hb.frozen (p := ⟨b,off,none⟩) (hlt (.cell b off) (by simp [hp']))]
  exact hz b off (by simpa using hp')
 ·intro ha
  have := hn ha
  simpa using this
 ·intro x hx _
  simpa using hx

/-! ### Reading arguments -/
variable {w : World} {sp : Nat → Bool} {hd : Bool}
/-- Memory that was there. -/
def Old (w : World) : Foot := fun b _ => b < w.heap.size
theorem cell_old {w : World} {a : Addr} {v : Value} (h : w.cell? a = some v) : a.block < w.heap.size := by
 unfold World.cell? at h
 cases hh : w.heap[a.block]? with
 | none => rw [hh] at h; cases h
 | some o => exact (Array.getElem?_eq_some_iff.1 hh).1

/-- How an element reads. -/
def ReadsE (enc : TypeId × Value → H) (P : Program) (w : World) (sp : Nat → Bool) (hd : Bool) (t : TypeId) (e : E) : Prop := ∀ (fuel : Nat) (cs : List Value) (x : DataW H × List MemPlace),DataW.trod enc P w 0 sp hd fuel t cs = some x → ∃ y : e.α,cs.length = e.sz ∧ RelE (Old w) w e y cs

theorem reads_int {t : TypeId} (ht : P.underlying t = some (.int .i64)) {fuel : Nat} {cs : List Value} {x : DataW H × List MemPlace} (h : DataW.trod enc P w 0 sp hd fuel t cs = some x) : ∃ n,cs = [.int .i64 n] := by
 obtain ⟨n,h1,_⟩ := DataW.trod_int ht h
 exact ⟨n,h1⟩
theorem reads_two {t : TypeId} {f0 f1 : Field} (ht : P.underlying t = some (.struct #[f0,f1])) (hc : P.cellsOf t = 2) (o0 : f0.offset = 0) (o1 : f1.offset = 1) (c0 : P.cellsOf f0.type = 1) (c1 : P.cellsOf f1.type = 1)
  (t0 : P.underlying f0.type = some (.int .i64)) (t1 : P.underlying f1.type = some (.int .i64)) {fuel : Nat} {cs : List Value} {x : DataW H × List MemPlace} (h : DataW.trod enc P w 0 sp hd fuel t cs = some x) : ∃ a b,cs = [.int .i64 a,.int .i64 b] := by
 obtain ⟨xs,k,_,_,hl,hx,hf⟩ := DataW.trod_struct ht h
 rw [hc] at hl
 match xs,hx,cs,hl with
 | [y0,y1],_,[v0,v1],_ =>
  have g0 := hf 0 f0 rfl
  have g1 := hf 1 f1 rfl
  simp [o0,o1,c0,c1] at g0 g1
  obtain ⟨a,ha⟩ := reads_int t0 g0
  obtain ⟨b,hb⟩ := reads_int t1 g1
  simp only [List.cons.injEq,and_true] at ha hb
  exact ⟨a,b,by rw [ha,hb]⟩
theorem reads_four {t : TypeId} {f0 f1 f2 f3 : Field} (ht : P.underlying t = some (.struct #[f0,f1,f2,f3])) (hc : P.cellsOf t = 4) (o0 : f0.offset = 0) (o1 : f1.offset = 1) (o2 : f2.offset = 2) (o3 : f3.offset = 3)
  (c0 : P.cellsOf f0.type = 1) (c1 : P.cellsOf f1.type = 1) (c2 : P.cellsOf f2.type = 1) (c3 : P.cellsOf f3.type = 1) (t0 : P.underlying f0.type = some (.int .i64)) (t1 : P.underlying f1.type = some (.int .i64)) (t2 : P.underlying f2.type = some (.int .i64)) (t3 : P.underlying f3.type = some (.int .i64))
  {fuel : Nat} {cs : List Value} {x : DataW H × List MemPlace} (h : DataW.trod enc P w 0 sp hd fuel t cs = some x) : ∃ a b c d,cs = [.int .i64 a,.int .i64 b,.int .i64 c,.int .i64 d] := by
 obtain ⟨xs,k,_,_,hl,hx,hf⟩ := DataW.trod_struct ht h
 rw [hc] at hl
 match xs,hx,cs,hl with
 | [y0,y1,y2,y3],_,[v0,v1,v2,v3],_ =>
  have g0 := hf 0 f0 rfl
  have g1 := hf 1 f1 rfl
  have g2 := hf 2 f2 rfl
  have g3 := hf 3 f3 rfl
  simp [o0,o1,o2,o3,c0,c1,c2,c3] at g0 g1 g2 g3
  obtain ⟨a,ha⟩ := reads_int t0 g0
  obtain ⟨b,hb⟩ := reads_int t1 g1
  obtain ⟨c,hc⟩ := reads_int t2 g2
  obtain ⟨d,hd⟩ := reads_int t3 g3
  simp only [List.cons.injEq,and_true] at ha hb hc hd
  exact ⟨a,b,c,d,by rw [ha,hb,hc,hd]⟩
theorem reads_sec {t : TypeId} {f0 f1 : Field} (ht : P.underlying t = some (.struct #[f0,f1])) (hc : P.cellsOf t = 4) (o0 : f0.offset = 0) (o1 : f1.offset = 2) (c0 : P.cellsOf f0.type = 2) (c1 : P.cellsOf f1.type = 2)
  (t0 : ∀ (fuel : Nat) (cs : List Value) (x : DataW H × List MemPlace),DataW.trod enc P w 0 sp hd fuel f0.type cs = some x → ∃ a b,cs = [.int .i64 a,.int .i64 b])
  (t1 : ∀ (fuel : Nat) (cs : List Value) (x : DataW H × List MemPlace),DataW.trod enc P w 0 sp hd fuel f1.type cs = some x → ∃ a b,cs = [.int .i64 a,.int .i64 b])
  {fuel : Nat} {cs : List Value} {x : DataW H × List MemPlace} (h : DataW.trod enc P w 0 sp hd fuel t cs = some x) : ∃ a b c d,cs = [.int .i64 a,.int .i64 b,.int .i64 c,.int .i64 d] := by
 obtain ⟨xs,k,_,_,hl,hx,hf⟩ := DataW.trod_struct ht h
 rw [hc] at hl
 match xs,hx,cs,hl with
 | [y0,y1],_,[v0,v1,v2,v3],_ =>
  have g0 := hf 0 f0 rfl
  have g1 := hf 1 f1 rfl
  simp [o0,o1,c0,c1] at g0 g1
  obtain ⟨a,b,hab⟩ := t0 _ _ _ g0
  obtain ⟨c,d,hcd⟩ := t1 _ _ _ g1
  simp only [List.cons.injEq,and_true] at hab hcd
  exact ⟨a,b,c,d,by rw [hab.1,hab.2,hcd.1,hcd.2]⟩
theorem reads_slice {t et : TypeId} {e : E} (ht : P.underlying t = some (.slice et)) (hc : P.cellsOf et = e.sz) (hE : ReadsE enc P w sp hd et e) {fuel : Nat} {cs : List Value} {x : DataW H × List MemPlace} (h : DataW.trod enc P w 0 sp hd fuel t cs = some x) :
  ∃ (v : Value) (xs : List e.α),cs = [v] ∧ SlR (RelE (Old w) w e) e.sz (Old w) w false xs v ∧ xs.length ≤ maxLen := by
 rcases open_slice ht h with ⟨rfl,_⟩ | ⟨a,len,cap,m,n,D,Pl,rfl,hb,hlc,hmx,hm,_,hel⟩
 ·exact ⟨_,[],rfl,sl_nil _ _ _ _ _,by simp⟩
 ·have hlm : len ≤ m := by rw [hm]; split <;> omega
  have hz : Nonempty e.α := ⟨E.z e⟩
  have hget : ∀ i,i < len → ∃ y : e.α,∃ cs',w.cells? 0 (a.add (i * e.sz)) e.sz = some cs' ∧ RelE (Old w) w e y cs' ∧ cs'.length = e.sz := fun i hi => by
   obtain ⟨cs',h1,h2⟩ := hel i (by omega)
   obtain ⟨y,h3,h4⟩ := hE _ _ _ h2
   rw [hc] at h1
   exact ⟨y,cs',h1,h4,h3⟩
  haveI : Inhabited e.α := ⟨E.z e⟩
  obtain ⟨f,hf⟩ := choose_lt hget
  refine ⟨_,(List.range len).map f,rfl,⟨some a,cap,by simp,by simpa using hlc,hmx,fun h => (by cases h),fun hpos => ?_⟩,by simp; omega⟩
  have hlen : 0 < len := by simpa using hpos
  obtain ⟨b,off,spot⟩ := a
  have hszpos : 0 < e.sz := by cases e <;> simp [E.sz]
  have hspot : spot = none := by
   obtain ⟨cs',h1,h2,h3⟩ := hf 0 hlen
   obtain ⟨_,_,hcell⟩ := World.cells?_some h1
   have := hcell 0 hszpos
   rw [Nat.zero_mul] at this
   have h0 : w.cell? ⟨b,off,spot⟩ = cs'[0]? := by simpa [Addr.add] using this
   rw [List.getElem?_eq_getElem (by omega)] at h0
   simpa using World.cell?_spot h0
  subst hspot
  refine ⟨b,off,rfl,fun i y hy => ?_⟩
  have hi : i < len := by
   have := (List.getElem?_eq_some_iff.1 hy).1
   simpa using this
  have hyf : y = f i := by
   rw [List.getElem?_map,List.getElem?_range hi] at hy
   exact (Option.some.inj hy).symm
  subst hyf
  obtain ⟨cs',h1,h2,h3⟩ := hf i hi
  obtain ⟨_,_,hcell⟩ := World.cells?_some h1
  refine ⟨cs',h3,h2,fun j u hu => ?_⟩
  have hj : j < e.sz := by
   have := (List.getElem?_eq_some_iff.1 hu).1
   omega
  have hcj := hcell j hj
  rw [Deep.add_add,hu] at hcj
  have hca : w.cell? ⟨b,off + i * e.sz + j,none⟩ = some u := by
   have : (⟨b,off,none⟩ : Addr).add (i * e.sz + j) = ⟨b,off + i * e.sz + j,none⟩ := by
    unfold Addr.add
    by_cases h0 : i * e.sz + j = 0
    ·rw [if_pos h0]; congr 1; omega
    ·rw [if_neg h0]; congr 1; dsimp only; omega
   rwa [this] at hcj
  exact ⟨cell_old hca,hca⟩
theorem reads_book {t : TypeId} {f0 f1 f2 f3 f4 : Field} (ht : P.underlying t = some (.struct #[f0,f1,f2,f3,f4])) (hc : P.cellsOf t = 5) (o0 : f0.offset = 0) (o1 : f1.offset = 1) (o2 : f2.offset = 2) (o3 : f3.offset = 3) (o4 : f4.offset = 4)
  (c0 : P.cellsOf f0.type = 1) (c1 : P.cellsOf f1.type = 1) (c2 : P.cellsOf f2.type = 1) (c3 : P.cellsOf f3.type = 1) (c4 : P.cellsOf f4.type = 1)
  {e0 e1 e2 : TypeId} (t0 : P.underlying f0.type = some (.slice e0)) (t1 : P.underlying f1.type = some (.slice e1)) (t2 : P.underlying f2.type = some (.slice e2)) (t3 : P.underlying f3.type = some (.int .i64)) (t4 : P.underlying f4.type = some (.int .i64))
  (k0 : P.cellsOf e0 = 4) (k1 : P.cellsOf e1 = 1) (k2 : P.cellsOf e2 = 4) (r0 : ReadsE enc P w sp hd e0 .sec) (r1 : ReadsE enc P w sp hd e1 .int) (r2 : ReadsE enc P w sp hd e2 .sv)
  {fuel : Nat} {cs : List Value} {x : DataW H × List MemPlace} (h : DataW.trod enc P w 0 sp hd fuel t cs = some x) :
  ∃ b : Book,All2 (RelC (Old w) w) [.sl false .sec b.secs,.sl false .int b.turns,.sl false .sv b.svs,.int .i64 b.rule,.int .i64 b.days] cs ∧ b.secs.length ≤ maxLen ∧ b.turns.length ≤ maxLen ∧ b.svs.length ≤ maxLen := by
 obtain ⟨xs,k,_,_,hl,hx,hf⟩ := DataW.trod_struct ht h
 rw [hc] at hl
 match xs,hx,cs,hl with
 | [y0,y1,y2,y3,y4],_,[v0,v1,v2,v3,v4],_ =>
  have g0 := hf 0 f0 rfl
  have g1 := hf 1 f1 rfl
  have g2 := hf 2 f2 rfl
  have g3 := hf 3 f3 rfl
  have g4 := hf 4 f4 rfl
  simp [o0,o1,o2,o3,o4,c0,c1,c2,c3,c4] at g0 g1 g2 g3 g4
  obtain ⟨w0,a,ha,sa,la⟩ := reads_slice (e := .sec) t0 k0 r0 g0
  obtain ⟨w1,b,hb,sb,lb⟩ := reads_slice (e := .int) t1 k1 r1 g1
  obtain ⟨w2,c,hc,sc,lc⟩ := reads_slice (e := .sv) t2 k2 r2 g2
  obtain ⟨d,hd⟩ := reads_int t3 g3
  obtain ⟨e,he⟩ := reads_int t4 g4
  simp only [List.cons.injEq,and_true] at ha hb hc hd he
  subst ha hb hc hd he
  exact ⟨⟨a,b,c,d,e⟩,⟨sa,sb,sc,rfl,rfl,trivial⟩,la,lb,lc⟩
end
end Go.Di

namespace Go.Di
open Proofs
open Go.RowKit Go.ChangeShapes Go.WideShapes Go.Deep Go.ChangeAt Go.Proofs
open Go.Proofs.YtfkmodcjddfeiaaDoor

/-! ### The program's facts -/
theorem laidOut : laidOutB Tryd.prog = true := by kernel_rfl
theorem own : ownKnob Tryd.prog.godebug = none := by kernel_rfl
theorem gNowhere : Tryd.prog.globalNamed "prow/chain.nowhere" = some 1 := by kernel_rfl
theorem gThins : Tryd.prog.globalNamed "prow/chain.thins" = some 0 := by kernel_rfl
theorem tThins : (Tryd.prog.globals[0]?).map (·.type) = some 136 := by kernel_rfl
theorem gBegin : Tryd.prog.globalNamed "prow/forge.begin" = some 2 := by kernel_rfl
theorem gThicks : Tryd.prog.globalNamed "prow/forge.thicks" = some 3 := by kernel_rfl
theorem tBegin : (Tryd.prog.globals[2]?).map (·.type) = some 108 := by kernel_rfl
theorem tThicks : (Tryd.prog.globals[3]?).map (·.type) = some 192 := by kernel_rfl
theorem tNowhere : (Tryd.prog.globals[1]?).map (·.type) = some 179 := by kernel_rfl

section
variable {H : Type} {enc : TypeId × Value → H} {w : World} {sp : Nat → Bool} {hd : Bool}
theorem reads3 : ReadsE enc Tryd.prog w sp hd 3 .int := fun fuel cs x h => by
 obtain ⟨n,rfl⟩ := reads_int (t := 3) (by kernel_rfl) h
 exact ⟨n,rfl,rfl⟩
/-- The fields of a struct. -/
noncomputable def fld (t i : Nat) : Field := match Tryd.prog.underlying t with
 | some (.struct fs) => fs.getD i default
 | _ => default
theorem reads51 (fuel : Nat) (cs : List Value) (x : DataW H × List MemPlace) (h : DataW.trod enc Tryd.prog w 0 sp hd fuel 51 cs = some x) : ∃ a b,cs = [.int .i64 a,.int .i64 b] :=
 reads_two (t := 51) (f0 := fld 51 0) (f1 := fld 51 1) (by kernel_rfl) (by kernel_rfl) (by kernel_rfl) (by kernel_rfl) (by kernel_rfl) (by kernel_rfl) (by kernel_rfl) (by kernel_rfl) h
theorem reads76 : ReadsE enc Tryd.prog w sp hd 76 .sec := fun fuel cs x h => by
 obtain ⟨a,b,c,d,rfl⟩ := reads_sec (t := 76) (f0 := fld 76 0) (f1 := fld 76 1) (by kernel_rfl) (by kernel_rfl) (by kernel_rfl) (by kernel_rfl) (by kernel_rfl) (by kernel_rfl) (by rw [show (fld 76 0).type = 51 from by kernel_rfl]; exact reads51) (by rw [show (fld 76 1).type = 51 from by kernel_rfl]; exact reads51) h
 exact ⟨(⟨⟨a,b⟩,⟨c,d⟩⟩ : Sec),rfl,rfl⟩
theorem reads34 : ReadsE enc Tryd.prog w sp hd 34 .sv := fun fuel cs x h => by
 obtain ⟨a,b,c,d,rfl⟩ := reads_four (t := 34) (f0 := fld 34 0) (f1 := fld 34 1) (f2 := fld 34 2) (f3 := fld 34 3) (by kernel_rfl) (by kernel_rfl) (by kernel_rfl) (by kernel_rfl) (by kernel_rfl) (by kernel_rfl) (by kernel_rfl) (by kernel_rfl) (by kernel_rfl) (by kernel_rfl) (by kernel_rfl) (by kernel_rfl) (by kernel_rfl) (by kernel_rfl) h
 exact ⟨(⟨a,b,c,d⟩ : Sv),rfl,rfl⟩
end

/-! ### The listed variables -/
theorem trod_arr2 {H : Type} {enc : TypeId × Value → H} {P : Program} {w : World} {sp : Nat → Bool} {hd : Bool} {t et : TypeId} (ht : P.underlying t = some (.array 2 et)) (hc : P.cellsOf t = 2) (ce : P.cellsOf et = 1) {fuel : Nat} {cs : List Value} {d0 d1 : DataW H} {ps : List MemPlace}
  (h : DataW.trod enc P w 0 sp hd fuel t cs = some (.agg [d0,d1],ps)) : ∃ v0 v1 k q0 q1,cs = [v0,v1] ∧ DataW.trod enc P w 0 sp hd k et [v0] = some (d0,q0) ∧ DataW.trod enc P w 0 sp hd k et [v1] = some (d1,q1) := by
 cases fuel with
 | zero => simp [DataW.trod] at h
 | succ k =>
  unfold DataW.trod at h
  rw [ht] at h
  simp only [ce,Nat.mul_one] at h
  split at h
  ·rename_i hl
   rw [hc] at hl
   match cs,hl with
   | [v0,v1],_ =>
    have hr : List.range 2 = [0,1] := rfl
    rw [hr] at h
    simp only [List.mapM_cons,List.mapM_nil] at h
    cases h0 : DataW.trod enc P w 0 sp hd k et (List.take 1 (List.drop 0 [v0,v1])) with
    | none => rw [h0] at h; cases h
    | some x0 =>
     rw [h0] at h
     cases h1 : DataW.trod enc P w 0 sp hd k et (List.take 1 (List.drop 1 [v0,v1])) with
     | none => rw [h1] at h; cases h
     | some x1 =>
      rw [h1] at h
      have h' : (DataW.agg [x0.1,x1.1],x0.2 ++ (x1.2 ++ [])) = (DataW.agg [d0,d1],ps) := Option.some.inj h
      simp only [Prod.mk.injEq,DataW.agg.injEq,List.cons.injEq,and_true] at h'
      obtain ⟨⟨rfl,rfl⟩,_⟩ := h'
      exact ⟨v0,v1,k,x0.2,x1.2,rfl,h0,h1⟩
  ·cases h
theorem trod_pair {H : Type} {enc : TypeId × Value → H} {w : World} {sp : Nat → Bool} {hd : Bool} {fuel : Nat} {cs : List Value} {a b : Int} {ps : List MemPlace}
  (h : DataW.trod enc Tryd.prog w 0 sp hd fuel 179 cs = some (.agg [.lit (.int .i64 a),.lit (.int .i64 b)],ps)) : cs = [.int .i64 a,.int .i64 b] := by
 obtain ⟨xs,k,_,hx,hl,hxl,hf⟩ := DataW.trod_struct (t := 179) (fs := #[fld 179 0,fld 179 1]) (by kernel_rfl) h
 have hc : Tryd.prog.cellsOf 179 = 2 := by kernel_rfl
 rw [hc] at hl
 have c0 : Tryd.prog.cellsOf (fld 179 0).type = 1 := by kernel_rfl
 have c1 : Tryd.prog.cellsOf (fld 179 1).type = 1 := by kernel_rfl
 have o0 : (fld 179 0).offset = 0 := by kernel_rfl
 have o1 : (fld 179 1).offset = 1 := by kernel_rfl
 match xs,hxl,cs,hl with
 | [y0,y1],_,[v0,v1],_ =>
  have g0 := hf 0 (fld 179 0) rfl
  have g1 := hf 1 (fld 179 1) rfl
  simp [o0,o1,c0,c1] at g0 g1
  obtain ⟨n0,e0,e0',_⟩ := DataW.trod_int (k := .i64) (by kernel_rfl) g0
  obtain ⟨n1,e1,e1',_⟩ := DataW.trod_int (k := .i64) (by kernel_rfl) g1
  simp only [List.cons.injEq,and_true] at e0 e1
  simp only [List.map_cons,List.map_nil,Prod.mk.injEq,DataW.agg.injEq,List.cons.injEq,and_true] at hx
  obtain ⟨⟨q0,q1⟩,_⟩ := hx
  rw [e0'] at q0
  rw [e1'] at q1
  simp only [DataW.lit.injEq,Lit.int.injEq,true_and] at q0 q1
  subst q0 q1
  rw [e0,e1]
theorem trod_pairB {H : Type} {enc : TypeId × Value → H} {w : World} {sp : Nat → Bool} {hd : Bool} {fuel : Nat} {cs : List Value} {a b : Int} {ps : List MemPlace}
  (h : DataW.trod enc Tryd.prog w 0 sp hd fuel 108 cs = some (.agg [.lit (.int .i64 a),.lit (.int .i64 b)],ps)) : cs = [.int .i64 a,.int .i64 b] := by
 obtain ⟨xs,k,_,hx,hl,hxl,hf⟩ := DataW.trod_struct (t := 108) (fs := #[fld 108 0,fld 108 1]) (by kernel_rfl) h
 have hc : Tryd.prog.cellsOf 108 = 2 := by kernel_rfl
 rw [hc] at hl
 have c0 : Tryd.prog.cellsOf (fld 108 0).type = 1 := by kernel_rfl
 have c1 : Tryd.prog.cellsOf (fld 108 1).type = 1 := by kernel_rfl
 have o0 : (fld 108 0).offset = 0 := by kernel_rfl
 have o1 : (fld 108 1).offset = 1 := by kernel_rfl
 match xs,hxl,cs,hl with
 | [y0,y1],_,[v0,v1],_ =>
  have g0 := hf 0 (fld 108 0) rfl
  have g1 := hf 1 (fld 108 1) rfl
  simp [o0,o1,c0,c1] at g0 g1
  obtain ⟨n0,e0,e0',_⟩ := DataW.trod_int (k := .i64) (by kernel_rfl) g0
  obtain ⟨n1,e1,e1',_⟩ := DataW.trod_int (k := .i64) (by kernel_rfl) g1
  simp only [List.cons.injEq,and_true] at e0 e1
  simp only [List.map_cons,List.map_nil,Prod.mk.injEq,DataW.agg.injEq,List.cons.injEq,and_true] at hx
  obtain ⟨⟨q0,q1⟩,_⟩ := hx
  rw [e0'] at q0
  rw [e1'] at q1
  simp only [DataW.lit.injEq,Lit.int.injEq,true_and] at q0 q1
  subst q0 q1
  rw [e0,e1]
theorem laid_globF {W : World} (h : laidMetH Tryd.prog [("prow/chain.nowhere",YtfkmodcjddfeiaaDoor.Rows.laid_prow_chain_nowhere),("prow/chain.thins",YtfkmodcjddfeiaaDoor.Rows.laid_prow_chain_thins),("prow/forge.begin",YtfkmodcjddfeiaaDoor.Rows.laid_prow_forge_begin),("prow/forge.thicks",YtfkmodcjddfeiaaDoor.Rows.laid_prow_forge_thicks)] W) :
  ∀ g cs,globF g = some cs → Rel (Old W) W (.ref cs 0) (.pointer (some ⟨g,0,none⟩)) := by
 intro g cs hg
 match g,hg with
 | 0,hg =>
  cases hg
  obtain ⟨g',t,vs,fuel,p,hg',ht,hv,hd⟩ := h.funcs (n := "prow/chain.thins") (List.mem_cons_of_mem _ (List.mem_cons_self ..))
  obtain rfl := Option.some.inj (gThins.symm.trans hg')
  obtain rfl := Option.some.inj (tThins.symm.trans ht)
  obtain ⟨v0,v1,k,q0,q1,e,h0,h1⟩ := trod_arr2 (t := 136) (et := 135) (by kernel_rfl) (by kernel_rfl) (by kernel_rfl) hd
  have hf : Tryd.prog.underlying 135 = some (.func #[137,3] #[4] false) := by kernel_rfl
  obtain rfl := func_of_trod (f0 := 223) hf (by kernel_rfl) h0
  obtain rfl := func_of_trod (f0 := 225) hf (by kernel_rfl) h1
  refine ⟨0,0,rfl,fun j d hj => ?_⟩
  have hc := World.var?_cell hg' hv
  have hs : vs = #[.func (.func 223) #[] #[],.func (.func 225) #[] #[]] := by rw [← Array.toArray_toList (xs := vs),e]
  match j,hj with
  | 0,hj =>
   cases hj
   have h0 := hc 0
   rw [hs] at h0
   exact ⟨_,⟨#[],#[],rfl,trivial,trivial⟩,cell_old h0,h0⟩
  | 1,hj =>
   cases hj
   have h0 := hc 1
   rw [hs] at h0
   exact ⟨_,⟨#[],#[],rfl,trivial,trivial⟩,cell_old h0,h0⟩
 | 1,hg =>
  cases hg
  obtain ⟨⟨ps,⟨g',t,vs,fuel,p,q,hg',ht,hv,hd,_,_⟩,_⟩,_⟩ := h
  obtain rfl := Option.some.inj (gNowhere.symm.trans hg')
  obtain rfl := Option.some.inj (tNowhere.symm.trans ht)
  have e := trod_pair hd
  refine ⟨1,0,rfl,fun j d hj => ?_⟩
  have hc := World.var?_cell hg' hv
  have hs : vs = #[.int .i64 (-1),.int .i64 (-1)] := by rw [← Array.toArray_toList (xs := vs),e]
  match j,hj with
  | 0,hj =>
   cases hj
   have h0 := hc 0
   rw [hs] at h0
   exact ⟨_,rfl,cell_old h0,h0⟩
  | 1,hj =>
   cases hj
   have h0 := hc 1
   rw [hs] at h0
   exact ⟨_,rfl,cell_old h0,h0⟩
 | 2,hg =>
  cases hg
  obtain ⟨⟨ps,⟨_,_,_,_,_,_,_,_,_,_,hrest,_⟩,_⟩,_⟩ := h
  obtain ⟨g',t,vs,fuel,p,q,hg',ht,hv,hd,_,_⟩ := hrest
  obtain rfl := Option.some.inj (gBegin.symm.trans hg')
  obtain rfl := Option.some.inj (tBegin.symm.trans ht)
  have e := trod_pairB hd
  refine ⟨2,0,rfl,fun j d hj => ?_⟩
  have hc := World.var?_cell hg' hv
  have hs : vs = #[.int .i64 (-1),.int .i64 0] := by rw [← Array.toArray_toList (xs := vs),e]
  match j,hj with
  | 0,hj =>
   cases hj
   have h0 := hc 0
   rw [hs] at h0
   exact ⟨_,rfl,cell_old h0,h0⟩
  | 1,hj =>
   cases hj
   have h0 := hc 1
   rw [hs] at h0
   exact ⟨_,rfl,cell_old h0,h0⟩
 | 3,hg =>
  cases hg
  obtain ⟨g',t,vs,fuel,p,hg',ht,hv,hd⟩ := h.funcs (n := "prow/forge.thicks") (List.mem_cons_of_mem _ (List.mem_cons_of_mem _ (List.mem_cons_of_mem _ (List.mem_cons_self ..))))
  obtain rfl := Option.some.inj (gThicks.symm.trans hg')
  obtain rfl := Option.some.inj (tThicks.symm.trans ht)
  obtain ⟨v0,v1,k,q0,q1,e,h0,h1⟩ := trod_arr2 (t := 192) (et := 191) (by kernel_rfl) (by kernel_rfl) (by kernel_rfl) hd
  have hf : Tryd.prog.underlying 191 = some (.func #[151,3,3,3] #[3] false) := by kernel_rfl
  obtain rfl := func_of_trod (f0 := 226) hf (by kernel_rfl) h0
  obtain rfl := func_of_trod (f0 := 227) hf (by kernel_rfl) h1
  refine ⟨3,0,rfl,fun j d hj => ?_⟩
  have hc := World.var?_cell hg' hv
  have hs : vs = #[.func (.func 226) #[] #[],.func (.func 227) #[] #[]] := by rw [← Array.toArray_toList (xs := vs),e]
  match j,hj with
  | 0,hj =>
   cases hj
   have h0 := hc 0
   rw [hs] at h0
   exact ⟨_,⟨#[],#[],rfl,trivial,trivial⟩,cell_old h0,h0⟩
  | 1,hj =>
   cases hj
   have h0 := hc 1
   rw [hs] at h0
   exact ⟨_,⟨#[],#[],rfl,trivial,trivial⟩,cell_old h0,h0⟩

/-! ### A world for the witness -/
def lay0 : Obj → Obj
 | .cells _ t frozen => .cells #[.func (.func 223) #[] #[],.func (.func 225) #[] #[]] t frozen
 | o => o
def lay1 : Obj → Obj
 | .cells _ t frozen => .cells #[.int .i64 (-1),.int .i64 (-1)] t frozen
 | o => o
def lay2 : Obj → Obj
 | .cells _ t frozen => .cells #[.int .i64 (-1),.int .i64 0] t frozen
 | o => o
def lay3 : Obj → Obj
 | .cells _ t frozen => .cells #[.func (.func 226) #[] #[],.func (.func 227) #[] #[]] t frozen
 | o => o
noncomputable def laidWorld (os : Os) : World :=
 { World.holding Tryd.prog os ⟨#[],#[],[]⟩ with heap := ((((World.holding Tryd.prog os ⟨#[],#[],[]⟩).heap.modify 0 lay0).modify 1 lay1).modify 2 lay2).modify 3 lay3 }
def noFBook : Value := .agg #[.slice none 0 0,.slice none 0 0,.slice none 0 0,.int .i64 0,.int .i64 0,.slice none 0 0,.int .i64 0,.slice none 0 0,.int .i64 0,.int .i64 0]
theorem laid_met (os : Os) (args : Array Value) : laidMetH Tryd.prog [("prow/chain.nowhere",Rows.laid_prow_chain_nowhere),("prow/chain.thins",Rows.laid_prow_chain_thins),("prow/forge.begin",Rows.laid_prow_forge_begin),("prow/forge.thicks",Rows.laid_prow_forge_thicks)] ((laidWorld os).forCall (fun _ _ => 0) ⟨#[],args,[]⟩).memory :=
 laidMetH_of_parts3 (fuel := 8) (laidMet_of_run' 8 (by kernel_rfl) (by kernel_rfl)) (by kernel_rfl) (by kernel_rfl)
theorem calls_lawF {f : FuncId} {W : World} {args : Array Value} {ds : List D} (hc : Contract Tryd.prog globF f ds (.bool true)) (hg : ∀ g cs,globF g = some cs → Rel (Old W) W (.ref cs 0) (.pointer (some ⟨g,0,none⟩))) (ha : All2 (Rel (Old W) W) ds args.toList) :
  Calls Tryd.prog f args W fun e W' => e = .returned (.bool true) ∧ Below W.heap.size W W' := by
 have := hc.calls W (Old W) args.toList (fun b o h => h) hg ha
 rw [Array.toArray_toList] at this
 exact this.mono fun e W' ⟨v,he,hb,R',_,_,hr⟩ => ⟨by rw [he,show v = .bool true from hr],hb⟩
theorem under4 : Tryd.prog.underlying 4 = some .bool := by kernel_rfl

/-! ### More kinds of arguments -/
section
variable {H : Type} {enc : TypeId × Value → H} {w : World} {sp : Nat → Bool} {hd : Bool}
theorem reads26 (fuel : Nat) (cs : List Value) (x : DataW H × List MemPlace) (h : DataW.trod enc Tryd.prog w 0 sp hd fuel 26 cs = some x) : ∃ b : Book,All2 (RelC (Old w) w) [.sl false .sec b.secs,.sl false .int b.turns,.sl false .sv b.svs,.int .i64 b.rule,.int .i64 b.days] cs ∧ b.secs.length ≤ maxLen ∧ b.turns.length ≤ maxLen ∧ b.svs.length ≤ maxLen := by
 have hu : Tryd.prog.underlying 26 = some (.struct #[fld 26 0,fld 26 1,fld 26 2,fld 26 3,fld 26 4]) := by kernel_rfl
 exact reads_book (t := 26) hu (by kernel_rfl) (by kernel_rfl) (by kernel_rfl) (by kernel_rfl) (by kernel_rfl) (by kernel_rfl) (by kernel_rfl) (by kernel_rfl) (by kernel_rfl) (by kernel_rfl) (by kernel_rfl) (e0 := 76) (e1 := 3) (e2 := 34) (by kernel_rfl) (by kernel_rfl) (by kernel_rfl) (by kernel_rfl) (by kernel_rfl) (by kernel_rfl) (by kernel_rfl) (by kernel_rfl) reads76 reads3 reads34 h
theorem six {α : Type} {l : List α} (h : l.length = 6) : ∃ a b c d e f,l = [a,b,c,d,e,f] := by
 match l,h with
 | [a,b,c,d,e,f],_ => exact ⟨a,b,c,d,e,f,rfl⟩
theorem five {α : Type} {l : List α} (h : l.length = 10) : ∃ a b c d e f g i j k,l = [a,b,c,d,e,f,g,i,j,k] := by
 match l,h with
 | [a,b,c,d,e,f,g,i,j,k],_ => exact ⟨a,b,c,d,e,f,g,i,j,k,rfl⟩
theorem arg84 {r : Reach} {b0 : Nat} {v : Value} {d : DataW H} {ps : List MemPlace} (hval : Value.okWide Tryd.prog w r b0 84 v) (h : DataW.Trod enc Tryd.prog w 0 sp hd 84 v d ps) : ∃ x : FBook,FSmall x ∧ Rel (Old w) w (fbookD x) v := by
 have hu : Tryd.prog.underlying 84 = some (.struct #[fld 84 0,fld 84 1,fld 84 2,fld 84 3,fld 84 4,fld 84 5]) := by kernel_rfl
 unfold Value.okWide at hval
 rw [hu] at hval
 obtain ⟨cs,rfl,_⟩ := hval
 obtain ⟨fuel,h⟩ := h
 obtain ⟨xs,k,_,_,hl,hx,hf⟩ := DataW.trod_struct hu h
 have hc : Tryd.prog.cellsOf 84 = 10 := by kernel_rfl
 rw [hc] at hl
 obtain ⟨u0,u1,u2,u3,u4,u5,u6,u7,u8,u9,hcs⟩ := five hl
 obtain ⟨y0,y1,y2,y3,y4,y5,hxs⟩ := six hx
 subst hxs
 have g0 := hf 0 (fld 84 0) rfl
 have g1 := hf 1 (fld 84 1) rfl
 have g2 := hf 2 (fld 84 2) rfl
 have g3 := hf 3 (fld 84 3) rfl
 have g4 := hf 4 (fld 84 4) rfl
 have g5 := hf 5 (fld 84 5) rfl
 have hfs : ∀ i,i < 6 → (fld 84 i).offset = [0,5,6,7,8,9].getD i 0 ∧ Tryd.prog.cellsOf (fld 84 i).type = [5,1,1,1,1,1].getD i 0 ∧ (fld 84 i).type = [26,23,3,23,3,3].getD i 0 := by
  intro i hi
  have h6 : i = 0 ∨ i = 1 ∨ i = 2 ∨ i = 3 ∨ i = 4 ∨ i = 5 := by omega
  rcases h6 with rfl | rfl | rfl | rfl | rfl | rfl <;> exact ⟨by kernel_rfl,by kernel_rfl,by kernel_rfl⟩
 obtain ⟨a0,b0,c0⟩ := hfs 0 (by decide)
 obtain ⟨a1,b1,c1⟩ := hfs 1 (by decide)
 obtain ⟨a2,b2,c2⟩ := hfs 2 (by decide)
 obtain ⟨a3,b3,c3⟩ := hfs 3 (by decide)
 obtain ⟨a4,b4,c4⟩ := hfs 4 (by decide)
 obtain ⟨a5,b5,c5⟩ := hfs 5 (by decide)
 rw [a0,b0,c0,hcs] at g0
 rw [a1,b1,c1,hcs] at g1
 rw [a2,b2,c2,hcs] at g2
 rw [a3,b3,c3,hcs] at g3
 rw [a4,b4,c4,hcs] at g4
 rw [a5,b5,c5,hcs] at g5
 simp at g0 g1 g2 g3 g4 g5
 obtain ⟨b,h1,h2,h3,h4⟩ := reads26 _ _ _ g0
 have t23 : Tryd.prog.underlying 23 = some (.slice 3) := by kernel_rfl
 have t3 : Tryd.prog.underlying 3 = some (.int .i64) := by kernel_rfl
 obtain ⟨w1,fe,e1,s1,l1⟩ := reads_slice (e := .int) t23 (by kernel_rfl) reads3 g1
 obtain ⟨nw,e2⟩ := reads_int t3 g2
 obtain ⟨w3,op,e3,s3,l3⟩ := reads_slice (e := .int) t23 (by kernel_rfl) reads3 g3
 obtain ⟨st,e4⟩ := reads_int t3 g4
 obtain ⟨mk,e5⟩ := reads_int t3 g5
 simp only [List.cons.injEq,and_true] at e1 e2 e3 e4 e5
 have hm : maxLen ≤ 9223372036854775807 := by decide
 refine ⟨⟨b,fe,nw,op,st,mk⟩,⟨⟨Nat.le_trans h2 hm,Nat.le_trans h3 hm,Nat.le_trans h4 hm⟩,Nat.le_trans l1 hm,Nat.le_trans l3 hm⟩,cs,rfl,?_⟩
 have hcs' : cs.toList = [u0,u1,u2,u3,u4,u5,u6,u7,u8,u9] := hcs
 rw [hcs']
 obtain ⟨p0,p1,p2,p3,p4,_⟩ := h1
 rw [e1,e2,e3,e4,e5]
 exact ⟨p0,p1,p2,p3,p4,s1,rfl,s3,rfl,rfl,trivial⟩
theorem int_of_ok {t : TypeId} {r : Reach} {b0 : Nat} {v : Value} (hu : Tryd.prog.underlying t = some (.int .i64)) (h : Value.okWide Tryd.prog w r b0 t v) : ∃ n,v = .int .i64 n := by
 unfold Value.okWide at h
 rw [hu] at h
 simp only at h
 unfold Cell.okWide at h
 rw [hu] at h
 unfold Cell.ok at h
 rw [hu] at h
 cases v <;> simp only at h <;> first | exact h.elim | (obtain ⟨rfl,_⟩ := h; exact ⟨_,rfl⟩)
theorem arg3 {r : Reach} {b0 : Nat} {v : Value} {d : DataW H} {ps : List MemPlace} (hval : Value.okWide Tryd.prog w r b0 3 v) (h : DataW.Trod enc Tryd.prog w 0 sp hd 3 v d ps) : ∃ n : Int,Rel (Old w) w (.int .i64 n) v := by
 obtain ⟨n,rfl⟩ := int_of_ok (by kernel_rfl) hval
 exact ⟨n,rfl⟩
end
end Go.Di

namespace Go.Di
open Proofs
end Go.Di

namespace Go.Di
open Proofs

/-! ### works: the days on which a plan changes a section -/
/-! ### The last day on which a section was changed -/
end Go.Di

namespace Go.Di
open Proofs
end Go.Di

namespace Go.Di
open Proofs

/-! ### The stock,work by work -/
end Go.Di

namespace Go.Di
open Proofs

/-! ### What a section's least depends on -/
/-! ### Plans by sets are grids -/
/-! ### Feet and stock of a part -/
/-! ### The order of plans -/
end Go.Di

namespace Go.Di
open Proofs

/-! ### Sets of days as numbers -/
/-! ### The least sets on which a section is to be changed -/
section
variable {x : FBook} {th : List (List Int)} {wr : List Int} {s : Nat}
end

/-! ### All plans that are looked at -/
/-! ### Is it safe? -/
section
variable {x : FBook} (hx : FIn x) (ho : x.opn.Pairwise (· < ·)) (th : List (List Int)) (wr : List Int)
include hx ho
end
end Go.Di

namespace Go.Di
open Proofs
end Go.Di

namespace Go.Di
open Proofs

/-! ### THE LAW OF THE BEST PLAN -/
/-! ### isPlan,good,sooner -/
end Go.Di

namespace Go.Di
open Proofs
/-! ### A book with another stock -/
section
variable (x : FBook) (c : Int)
end
end Go.Di

namespace Go.Di
open Proofs
end Go.Di

namespace Go.Di
open Proofs
end Go.Di

namespace Go.Di
open Proofs
/-! ### Lists that climb are told by their members -/
/-! ### One open day more -/
section
variable {x : FBook} (hV : FValid x) {d : Int} (hd : 0 ≤ d ∧ d ≤ x.chain.days) (hno : d ∉ x.opn)
include hV hd hno
end
section
variable (x : FBook) (l : List Int)
end
end Go.Di

namespace Go.Di
open Proofs
/-! ### The day that is told to rest -/
/-! ### A list of days as the law builds it -/
end Go.Di

namespace Go.Di
open Proofs
theorem leastV_nil (x : FBook) (s d : Int) : leastV x [] s d = oldF (knowTh x) s d := rfl
theorem planB_nil {x : FBook} (hV : FValid x) : planB x [] = true := (isPlan_iff hV).2 ⟨(fun w hw => absurd hw (by simp)),List.Pairwise.nil⟩
end Go.Di

namespace Go.Di
open Proofs
/-! ### Without works -/
theorem knowTh_at {x : FBook} {s d : Int} (hs : 0 ≤ s ∧ s < x.feet.length) (hd : 0 ≤ d ∧ d ≤ x.chain.days) : oldF (knowTh x) s d = thickLo x.chain s d := by
 unfold oldF knowTh
 have e : ((List.range x.feet.length).map fun s => (List.range (x.chain.days + 1).toNat).map fun d => thickLo x.chain (s : Nat) (d : Nat)).getD s.toNat [] = (List.range (x.chain.days + 1).toNat).map fun d => thickLo x.chain (s.toNat : Nat) (d : Nat) := by
  rw [List.getD_eq_getElem?_getD,List.getElem?_map,List.getElem?_range (by omega)]
  rfl
 rw [e,List.getD_eq_getElem?_getD,List.getElem?_map,List.getElem?_range (by omega)]
 show thickLo x.chain (s.toNat : Int) (d.toNat : Int) = _
 rw [Int.toNat_of_nonneg hs.1,Int.toNat_of_nonneg hd.1]
/-- The first day on which a section may be too thin,as chain tells it. -/
def thinK (x : FBook) (k : Nat) : Int := thinF x.chain (truthsF x.chain []) x.chain.turns k
theorem may_bad {x : FBook} {k : Nat} (hk : k < x.feet.length) {d : Nat} (hd : (d : Int) ≤ x.chain.days) : mayF x.chain (truthsF x.chain []) x.chain.turns k d = decide (leastV x [] k d < x.chain.rule) := by
 rw [leastV_nil,knowTh_at (by omega) (by omega)]
 rfl
theorem thinK_spec {x : FBook} (h0 : 0 ≤ x.chain.days) {k : Nat} (hk : k < x.feet.length) : 0 ≤ thinK x k ∧ thinK x k ≤ x.chain.days + 1 ∧ (∀ d : Int,0 ≤ d → d ≤ x.chain.days → d < thinK x k → x.chain.rule ≤ leastV x [] k d) ∧ (thinK x k ≤ x.chain.days → leastV x [] k (thinK x k) < x.chain.rule) := by
 obtain ⟨h1,h2,h3,h4⟩ := findF_spec (mayF x.chain (truthsF x.chain []) x.chain.turns k) (x.chain.days + 1).toNat 0
 have e : thinK x k = ((findF (mayF x.chain (truthsF x.chain []) x.chain.turns k) (x.chain.days + 1).toNat 0 : Nat) : Int) := rfl
 rw [e]
 generalize findF (mayF x.chain (truthsF x.chain []) x.chain.turns k) (x.chain.days + 1).toNat 0 = r at *
 refine ⟨by omega,by omega,fun d d0 d1 d2 => ?_,fun h => ?_⟩
 ·have := h3 d.toNat (by omega) (by omega)
  rw [may_bad hk (by omega),Int.toNat_of_nonneg d0] at this
  have := of_decide_eq_false this
  omega
 ·have := h4 (by omega)
  rw [may_bad hk (by omega)] at this
  exact of_decide_eq_true this
theorem first_none {x : FBook} (h0 : 0 ≤ x.chain.days) (h : fthinF x (knowTh x) (knowWr x) [] = none) {k : Nat} (hk : k < x.feet.length) : thinK x k = x.chain.days + 1 := by
 obtain ⟨h1,h2,h3,h4⟩ := thinK_spec h0 hk
 by_cases hd : thinK x k ≤ x.chain.days
 ·have := h4 hd
  have h5 := thinN h (s := (k : Int)) (d := thinK x k) (by omega) (by omega)
  have e : fleastF x (knowTh x) (knowWr x) [] k (thinK x k) = leastV x [] k (thinK x k) := rfl
  omega
 ·omega
theorem first_some {x : FBook} (h0 : 0 ≤ x.chain.days) {d0 s0 : Nat} (h : fthinF x (knowTh x) (knowWr x) [] = some (d0,s0)) : (d0 : Int) ≤ x.chain.days ∧ s0 < x.feet.length ∧ thinK x s0 = d0 ∧ ∀ k,k < x.feet.length → (d0 : Int) < thinK x k ∨ (d0 : Int) = thinK x k ∧ s0 ≤ k := by
 obtain ⟨h1,h2,h3,h4⟩ := thinS h
 have key : ∀ k,k < x.feet.length → (d0 : Int) < thinK x k ∨ (d0 : Int) = thinK x k ∧ s0 ≤ k := fun k hk => by
  obtain ⟨g1,g2,g3,g4⟩ := thinK_spec h0 hk
  by_cases hd : thinK x k ≤ x.chain.days
  ·have := h4 k (thinK x k) (by omega) (by omega) (g4 hd)
   omega
  ·omega
 have hs : s0 < x.feet.length := by omega
 refine ⟨h1,hs,?_,key⟩
 obtain ⟨g1,g2,g3,g4⟩ := thinK_spec h0 hs
 have := key s0 hs
 by_cases hlt : (d0 : Int) < thinK x s0
 ·have := g3 d0 (by omega) h1 hlt
  have e : fleastF x (knowTh x) (knowWr x) [] s0 d0 = leastV x [] s0 d0 := rfl
  omega
 ·omega
end Go.Di

namespace Go.Di
open Proofs
end Go.Di

namespace Go.Di
open Proofs

/-! ### The law ChainFirst -/
end Go.Di

namespace Go.Di
open Proofs

/-! ### How thick a section can be: from 0 to 200 -/
/-! ### The law ChainEnds -/
end Go.Di

namespace Go.Di
open Proofs

/-! ### What can be of one book can be of another -/
theorem span_ext {s t : Span} (h1 : s.lo = t.lo) (h2 : s.hi = t.hi) : s = t := by
 cases s; cases t; simp only at h1 h2; subst h1 h2; rfl
theorem thick_sub {b b' : Book} (hB : Base b) (hB' : Base b') {but but' turns turns' : List Int} {k k' : Nat} {d : Int} (hk : k < b.secs.length) (hk' : k' < b'.secs.length) (hne' : truthsF b' but' ≠ [])
  (h : ∀ T x,Feas b' but' T x → ∃ T' x',Feas b but T' x' ∧ T' k - wornX b turns x' k d = T k' - wornX b' turns' x k' d) :
  (thickF b (truthsF b but) turns k d).lo ≤ (thickF b' (truthsF b' but') turns' k' d).lo ∧ (thickF b' (truthsF b' but') turns' k' d).hi ≤ (thickF b (truthsF b but) turns k d).hi := by
 obtain ⟨T,x,h1,h2⟩ := thick_lo hB' hne' turns' k' hk' d
 obtain ⟨T',x',h1',h2'⟩ := thick_hi hB' hne' turns' k' hk' d
 obtain ⟨U,y,g1,g2⟩ := h T x h1
 obtain ⟨U',y',g1',g2'⟩ := h T' x' h1'
 have a1 := thick_in hB g1 turns k hk d
 have a2 := thick_in hB g1' turns k hk d
 omega
theorem thick_same {b b' : Book} (hB : Base b) (hB' : Base b') {but but' turns turns' : List Int} {k k' : Nat} {d : Int} (hk : k < b.secs.length) (hk' : k' < b'.secs.length) (hne : truthsF b but ≠ []) (hne' : truthsF b' but' ≠ [])
  (h : ∀ T x,Feas b' but' T x → ∃ T' x',Feas b but T' x' ∧ T' k - wornX b turns x' k d = T k' - wornX b' turns' x k' d)
  (h' : ∀ T x,Feas b but T x → ∃ T' x',Feas b' but' T' x' ∧ T' k' - wornX b' turns' x' k' d = T k - wornX b turns x k d) :
  thickF b (truthsF b but) turns k d = thickF b' (truthsF b' but') turns' k' d := by
 have h1 := thick_sub hB hB' hk hk' hne' h
 have h2 := thick_sub hB' hB hk' hk hne h'
 exact span_ext (by omega) (by omega)
theorem findF_mono {p q : Nat → Bool} : ∀ (n d : Nat),(∀ i,d ≤ i → i < d + n → q i = true → p i = true) → findF p n d ≤ findF q n d
 | 0,d,_ => Nat.le_refl _
 | n + 1,d,h => by
  simp only [findF]
  by_cases hq : q d = true
  ·rw [if_pos (h d (Nat.le_refl _) (by omega) hq),if_pos hq]
   exact Nat.le_refl _
  ·rw [if_neg hq]
   by_cases hp : p d = true
   ·rw [if_pos hp]
    have := (findF_spec q n (d + 1)).1
    omega
   ·rw [if_neg hp]
    exact findF_mono n (d + 1) fun i h1 h2 => h i (by omega) (by omega)
theorem findF_same {p q : Nat → Bool} (n d : Nat) (h : ∀ i,d ≤ i → i < d + n → q i = p i) : findF p n d = findF q n d :=
 Nat.le_antisymm (findF_mono n d fun i h1 h2 hq => by rw [← h i h1 h2]; exact hq) (findF_mono n d fun i h1 h2 hp => by rw [h i h1 h2]; exact hp)
theorem can_true {b : Book} (h : truthsF b [] ≠ []) : canF b = true := by
 unfold canF
 cases hq : truthsF b [] with
 | nil => exact absurd hq h
 | cons x l => rfl
/-! ### Where a section lies,by the number of turns -/
def flips (turns : List Int) (d : Int) : Bool := turns.foldl (fun p t => if t ≤ d then !p else p) false
theorem flips_fold (d : Int) : ∀ (l : List Int) (p : Bool),l.foldl (fun p t => if t ≤ d then !p else p) p = Bool.xor p (flips l d)
 | [],p => by simp [flips]
 | t :: l,p => by
  unfold flips
  simp only [List.foldl_cons]
  rw [flips_fold d l,flips_fold d l]
  by_cases h : t ≤ d
  ·rw [if_pos h,if_pos h]; cases p <;> simp
  ·rw [if_neg h,if_neg h]; simp
theorem flips_append (l m : List Int) (d : Int) : flips (l ++ m) d = Bool.xor (flips l d) (flips m d) := by
 have : flips (l ++ m) d = m.foldl (fun p t => if t ≤ d then !p else p) (flips l d) := by
  unfold flips
  rw [List.foldl_append]
 rw [this,flips_fold]
theorem flips_one (t d : Int) : flips [t] d = decide (t ≤ d) := by
 unfold flips
 simp only [List.foldl_cons,List.foldl_nil]
 by_cases h : t ≤ d
 ·rw [if_pos h]; simp [h]
 ·rw [if_neg h]; simp [h]
theorem place_fold (n d : Int) : ∀ (l : List Int) (s : Int),placeF n l d s = if flips l d = true then n - 1 - s else s
 | [],s => by simp [placeF,flips]
 | t :: l,s => by
  have h1 : placeF n (t :: l) d s = placeF n l d (if t ≤ d then n - 1 - s else s) := rfl
  have h2 : flips (t :: l) d = Bool.xor (decide (t ≤ d)) (flips l d) := by
   have := flips_append [t] l d
   rwa [flips_one] at this
  rw [h1,place_fold n d l,h2]
  by_cases h : t ≤ d
  ·rw [if_pos h,decide_eq_true h]
   cases flips l d <;> simp
   omega
  ·rw [if_neg h,decide_eq_false h]
   cases flips l d <;> simp
theorem worn_flips {n : Int} {x : W4} {l m : List Int} {s : Int} : ∀ d : Nat,(∀ e : Nat,e < d → flips l e = flips m e) → wornF n x.a x.b x.c x.d l s d = wornF n x.a x.b x.c x.d m s d
 | 0,_ => rfl
 | d + 1,h => by
  simp only [wornF]
  rw [worn_flips d fun e he => h e (by omega),place_fold,place_fold,h d (by omega)]

/-! ### What can be,by all surveys -/
theorem svZ_mem {b : Book} {i : Nat} (hi : i < b.svs.length) : svZ b i ∈ b.svs := getD_mem b.svs i sv0 hi
theorem mem_svZ {b : Book} {y : Sv} (hy : y ∈ b.svs) : ∃ i,i < b.svs.length ∧ svZ b i = y := by
 obtain ⟨i,hi,h⟩ := List.getElem_of_mem hy
 refine ⟨i,hi,?_⟩
 show b.svs.getD i sv0 = y
 rw [List.getD_eq_getElem?_getD,List.getElem?_eq_getElem hi,← h]
 rfl
structure Feas0 (b : Book) (T : Nat → Int) (x : W4) : Prop where
 wear : ∀ p < b.secs.length,(b.secs.getD p sec0).w.lo ≤ x.at p ∧ x.at p ≤ (b.secs.getD p sec0).w.hi
 zero : ∀ p,b.secs.length ≤ p → x.at p = 0
 thick : ∀ k < b.secs.length,(b.secs.getD k sec0).t.lo ≤ T k ∧ T k ≤ (b.secs.getD k sec0).t.hi
theorem feas_nil {b : Book} {T : Nat → Int} {x : W4} : Feas b [] T x ↔ Feas0 b T x ∧ ∀ y ∈ b.svs,∀ k : Nat,k < b.secs.length → SatY b x k (T k) y := by
 constructor
 ·intro h
  refine ⟨⟨h.wear,h.zero,h.thick⟩,fun y hy k hk => ?_⟩
  obtain ⟨i,hi,rfl⟩ := mem_svZ hy
  exact h.right i hi (by simp) k hk
 ·rintro ⟨h,h'⟩
  exact ⟨h.wear,h.zero,h.thick,fun i hi _ k hk => h' _ (svZ_mem hi) k hk⟩
end Go.Di

namespace Go.Di
open Proofs

/-! ### A book without some of its surveys -/
/-! ### Lists that climb -/
def Up (n : Int) : Int → List Int → Prop
 | _,[] => True
 | a,x :: l => a ≤ x ∧ x < n ∧ Up n (x + 1) l
theorem Up.snoc {n m x : Int} (hx : m ≤ x) (hn : x < n) (hm : m ≤ n) : ∀ {l : List Int} {a : Int},Up m a l → a ≤ x → Up n a (l ++ [x])
 | [],a,_,ha => ⟨ha,hn,trivial⟩
 | y :: l,a,⟨h1,h2,h3⟩,ha => ⟨h1,by omega,Up.snoc hx hn hm h3 (by omega)⟩
theorem Up.mono {n m : Int} (hm : m ≤ n) : ∀ {l : List Int} {a : Int},Up m a l → Up n a l
 | [],a,_ => trivial
 | y :: l,a,⟨h1,h2,h3⟩ => ⟨h1,by omega,Up.mono hm h3⟩
theorem Up.mem {n : Int} : ∀ {l : List Int} {a x : Int},Up n a l → x ∈ l → a ≤ x ∧ x < n
 | y :: l,a,x,⟨h1,h2,h3⟩,hx => by
  rcases List.mem_cons.1 hx with rfl | hx
  ·exact ⟨h1,h2⟩
  ·have := h3.mem hx
   omega
theorem Up.len {n : Int} : ∀ {l : List Int} {a : Int},Up n a l → a ≤ n → (l.length : Int) ≤ n - a
 | [],a,_,ha => by simp; omega
 | y :: l,a,⟨h1,h2,h3⟩,ha => by
  have := h3.len (by omega)
  simp only [List.length_cons]
  omega
/-! ### The surveys that are told -/
end Go.Di

