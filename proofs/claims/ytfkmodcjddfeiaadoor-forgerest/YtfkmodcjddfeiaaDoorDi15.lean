/- Part 15: an interpreter over plain data for this code, with the proof that it says what the model does, and the contracts of the functions. No condition. -/
import Derived.Test.YtfkmodcjddfeiaaDoorDi14
set_option linter.unusedVariables false
set_option linter.unusedSimpArgs false
namespace Go.Di
open Proofs
open Go.RowKit

theorem Contract.toArgs {P : Program} {glob : Nat → Option (List D)} {f : FuncId} {args args' : List D} {r : D} (h : Contract P glob f args r) (hr : ∀ R w vs,All2 (Rel R w) args' vs → All2 (Rel R w) args vs) : Contract P glob f args' r :=
 ⟨h.form,fun w R vs hs hg ha => h.calls w R vs hs hg (hr R w vs ha)⟩
theorem Contract.toRes {P : Program} {glob : Nat → Option (List D)} {f : FuncId} {args : List D} {r r' : D} (h : Contract P glob f args r) (hr : ∀ R w v,Rel R w r v → Rel R w r' v) : Contract P glob f args r' :=
 ⟨h.form,fun w R vs hs hg ha => (h.calls w R vs hs hg ha).mono fun e w' ⟨v,he,hb,R',h1,h2,h3⟩ => ⟨v,he,hb,R',h1,h2,hr _ _ _ h3⟩⟩

theorem nil_trc {R : Foot} {w : World} {b : Book} {m : D} {v : Value} (h : Rel R w (.agg (bkC b m .nil)) v) : Rel R w (.agg (bkC b m (.sl false .trc []))) v := by
 obtain ⟨vs,hv,h⟩ := h
 have hlen : (bkC b m (.sl false .trc [])).length = vs.toList.length := by have := All2.length h; exact this
 refine ⟨vs,hv,All2.of_get hlen fun i d u hd hu => ?_⟩
 have hi : i < 7 := (List.getElem?_eq_some_iff.1 hd).1
 by_cases h6 : i = 6
 ·subst h6
  cases hd
  obtain ⟨u',hu',hr⟩ := All2.get h 6 .nil rfl
  rw [hu] at hu'
  cases hu'
  have hr : u = .slice none 0 0 := hr
  rw [hr]
  exact sl_nil _ _ _ _ _
 ·have hd' : (bkC b m .nil)[i]? = some d := by
   match i,hi,h6,hd with
   | 0,_,_,hd => exact hd
   | 1,_,_,hd => exact hd
   | 2,_,_,hd => exact hd
   | 3,_,_,hd => exact hd
   | 4,_,_,hd => exact hd
   | 5,_,_,hd => exact hd
   | n + 6,hi,h6,_ => omega
  obtain ⟨u',hu',hr⟩ := All2.get h i d hd'
  rw [hu] at hu'
  cases hu'
  exact hr

theorem getD_mem {α : Type} (l : List α) (i : Nat) (d : α) (h : i < l.length) : l.getD i d ∈ l := by
 rw [List.getD_eq_getElem?_getD,List.getElem?_eq_getElem h]
 exact List.getElem_mem h

/-- All surveys of a place and a day,together. -/
def openStep (but : List Int) (l : List Ent) (i : Nat) (y : Sv) : List Ent :=
 if (i : Int) ∈ but then l else updK l (y.s,y.d) (match lookK l (y.s,y.d) with
  | some old => bothF old ⟨y.r - y.e,y.r + y.e⟩
  | none => ⟨y.r - y.e,y.r + y.e⟩)
def openTo (b : Book) (but : List Int) : Nat → List Ent
 | 0 => [((-1,-1),⟨0,0⟩)]
 | k + 1 => openStep but (openTo b but k) k (svZ b k)
def openF (b : Book) (but : List Int) : List Ent := openTo b but b.svs.length

theorem plain72 : Cfg.plain (mk PR (lookN types) glob 72) := ⟨fun _ h => h,fun _ h => h,rfl⟩

structure SvOk (y : Sv) : Prop where
 d : y.d ≤ 1000
 r : -100000 ≤ y.r ∧ y.r ≤ 100000
 e : -100000 ≤ y.e ∧ y.e ≤ 100000

theorem opened_loop (b : Book) (but : List Int) (hb : but.length ≤ 100000) (hs : b.svs.length ≤ 100000) (hsv : ∀ y ∈ b.svs,SvOk y) :
  WpL PR (mk PR (lookN types) glob 72) (.block 0 (.loop (Code.at [1,1,0,1,0,0] (body Tryd.f119)))) (opS b but (openTo b but 0) 0) (fun e L' => e = .normal ∧ L' = opE b (openF b but)) := by
 have hcon := fun (v : Int) => contains_con but v (by omega)
 refine WpL.block (WpL.loop (S := fun i : {i : Nat // i ≤ b.svs.length} => opS b but (openTo b but i.1) i.1) (fun i => b.svs.length - i.1) ?_ ⟨0,Nat.zero_le _⟩)
 rintro ⟨i,hi⟩
 dsimp only
 by_cases hlt : i < b.svs.length
 ·have hy : SvOk (svZ b i) := hsv _ (getD_mem _ _ _ hlt)
  obtain ⟨_,⟨r1,r2⟩,⟨e1,e2⟩⟩ := hy
  have hgo : WpL PR (mk PR (lookN types) glob 72) (Code.at [1,1,0,1,0,0] (body Tryd.f119)) (opS b but (openTo b but i) i) (fun e L' => e = .normal ∧ L' = opS b but (openTo b but (i + 1)) (i + 1)) := by
   have hst : openTo b but (i + 1) = openStep but (openTo b but i) i (svZ b i) := rfl
   rw [hst]
   unfold openStep
   have hc := hcon i
   by_cases hm : (i : Int) ∈ but
   ·rw [decide_eq_true hm] at hc
    rw [if_pos hm]
    exact WpL.path (G 72) (op_skip b but _ i) ⟨decide_eq_true (by omega),⟨by omega,by omega⟩,by omega,hc,rfl,by simp only [inI64]; omega,trivial⟩ ⟨rfl,rfl⟩
   ·rw [decide_eq_false hm] at hc
    rw [if_neg hm]
    cases hl : lookK (openTo b but i) ((svZ b i).s,(svZ b i).d) with
    | none =>
     exact WpL.path (G 72) (op_new b but _ i) ⟨decide_eq_true (by omega),⟨by omega,by omega⟩,by omega,hc,by omega,by omega,by omega,by omega,by simp only [inI64]; omega,by omega,by omega,by simp only [inI64]; omega,by omega,by rw [hl]; rfl,by omega,by omega,plain72,by simp only [inI64]; omega,trivial⟩ ⟨rfl,rfl⟩
    | some old =>
     have hbo := both_con old ⟨(svZ b i).r - (svZ b i).e,(svZ b i).r + (svZ b i).e⟩
     exact WpL.path (G 72) (op_old b but _ i (bothF old ⟨(svZ b i).r - (svZ b i).e,(svZ b i).r + (svZ b i).e⟩)) ⟨decide_eq_true (by omega),⟨by omega,by omega⟩,by omega,hc,by omega,by omega,by omega,by omega,by simp only [inI64]; omega,by omega,by omega,by simp only [inI64]; omega,by omega,by rw [hl]; rfl,by omega,by omega,by rw [hl]; exact hbo,by omega,by omega,plain72,by simp only [inI64]; omega,trivial⟩ ⟨rfl,rfl⟩
  refine hgo.mono fun e L' hL => ?_
  obtain ⟨rfl,rfl⟩ := hL
  exact ⟨⟨i + 1,hlt⟩,rfl,by dsimp only; omega⟩
 ·have hie : i = b.svs.length := by omega
  refine WpL.path (G 72) (op_end b but _ i) ⟨decide_eq_false (by omega),trivial⟩ ?_
  show (if 0 = 0 then _ else _)
  rw [if_pos rfl]
  exact ⟨rfl,by rw [hie]; rfl⟩

theorem mx_in {a b lo hi : Int} (ha : lo ≤ a ∧ a ≤ hi) (hb : lo ≤ b ∧ b ≤ hi) : lo ≤ mx a b ∧ mx a b ≤ hi := by unfold mx; split <;> omega
theorem mn_in {a b lo hi : Int} (ha : lo ≤ a ∧ a ≤ hi) (hb : lo ≤ b ∧ b ≤ hi) : lo ≤ mn a b ∧ mn a b ≤ hi := by unfold mn; split <;> omega
theorem updK_ok {p : Ent → Prop} : ∀ {l : List Ent} {k : K2} {v : Span},(∀ e ∈ l,p e) → p (k,v) → ∀ e ∈ updK l k v,p e
 | [],k,v,_,h => by simpa [updK] using h
 | (k',u) :: l,k,v,hl,h => by
  intro e he
  simp only [updK] at he
  split at he
  ·rcases List.mem_cons.1 he with rfl | he
   ·exact h
   ·exact hl e (by simp [he])
  ·rcases List.mem_cons.1 he with rfl | he
   ·exact hl _ (by simp)
   ·exact updK_ok (fun e he => hl e (by simp [he])) h e he
theorem lookK_ok {p : Ent → Prop} : ∀ {l : List Ent} {k : K2} {v : Span},(∀ e ∈ l,p e) → lookK l k = some v → p (k,v)
 | (k',u) :: l,k,v,hl,h => by
  simp only [lookK] at h
  split at h
  ·rename_i hk
   cases h
   subst hk
   exact hl _ (by simp)
  ·exact lookK_ok (fun e he => hl e (by simp [he])) h
theorem openTo_ok (b : Book) (but : List Int) (hsv : ∀ y ∈ b.svs,SvOk y) : ∀ k,k ≤ b.svs.length → ∀ e ∈ openTo b but k,EntOk e
 | 0,_ => by
  intro e he
  simp only [openTo,List.mem_singleton] at he
  subst he
  exact ⟨by decide,by decide,by decide⟩
 | k + 1,hk => by
  have ih := openTo_ok b but hsv k (by omega)
  have hy : SvOk (svZ b k) := hsv _ (getD_mem _ _ _ hk)
  obtain ⟨d1,⟨r1,r2⟩,⟨e1,e2⟩⟩ := hy
  show ∀ e ∈ openStep but (openTo b but k) k (svZ b k),EntOk e
  unfold openStep
  split
  ·exact ih
  ·refine updK_ok ih ?_
   split
   ·rename_i old hold
    obtain ⟨_,o1,o2⟩ := lookK_ok ih hold
    refine ⟨d1,?_,?_⟩
    ·exact mx_in o1 (by dsimp only; omega)
    ·exact mn_in o2 (by dsimp only; omega)
   ·exact ⟨d1,by dsimp only; omega,by dsimp only; omega⟩

/-- What is asked of a book. -/
structure BookOk (b : Book) : Prop where
 secs : b.secs.length ≤ 4
 turns : b.turns.length ≤ 1000
 svs : b.svs.length ≤ 100000
 sv : ∀ y ∈ b.svs,SvOk y
 wear : ∀ p < b.secs.length,0 ≤ (b.secs.getD p sec0).w.lo ∧ -1 ≤ (b.secs.getD p sec0).w.hi ∧ (b.secs.getD p sec0).w.hi ≤ 1000
def truthsF (b : Book) (but : List Int) : List TrC := wholeGo b (openF b but) b.secs.length 0 ⟨0,0,0,0⟩

theorem opened_con (b : Book) (hb : BookOk b) (but : List Int) (hbut : but.length ≤ 100000) (hlen : (truthsF b but).length ≤ 1000000) : Contract PR glob 119 [bookD b,.sl false .int but] (bkD b (.spot (openF b but)) (truthsF b but)) := by
 have hent := openTo_ok b but hb.sv b.svs.length (Nat.le_refl _)
 have hwh : Contract PR glob 167 [.agg (bkC b (.map (.spot (openF b but))) .nil)] (opW b (openF b but)) := (whole_con b (.spot (openF b but)) []).toArgs fun R w vs h => by
  obtain ⟨v,l,rfl,h1,h2⟩ := all2_cons h
  exact ⟨nil_trc h1,h2⟩
 have hcode : body Tryd.f119 = .seq (Code.at [0] (body Tryd.f119)) (.seq (Code.at [1,0] (body Tryd.f119)) (.seq (.seq (Code.at [1,1,0,0] (body Tryd.f119)) (.block 0 (.loop (Code.at [1,1,0,1,0,0] (body Tryd.f119)))))
  (.seq (.seq (Code.at [1,1,1,0,0] (body Tryd.f119)) (.block 2 (.rangeFunc (.tmp 63) #[64] (Code.at [1,1,1,0,1,0,0] (body Tryd.f119)) (Code.at [1,1,1,0,1,0,1] (body Tryd.f119))))) (Code.at [1,1,1,1] (body Tryd.f119))))) := by kernel_rfl
 -- up to the loop over all truths
 have hpre : WpL PR (mk PR (lookN types) glob 72) (.seq (Code.at [1,1,0,0] (body Tryd.f119)) (.block 0 (.loop (Code.at [1,1,0,1,0,0] (body Tryd.f119))))) (opB b but) (fun e L' => e = .normal ∧ L' = opE b (openF b but)) :=
  WpL.seq (WpL.path (G 72) (op_2 b but) trivial (opened_loop b but hbut hb.svs hb.sv))
 have hstart : WpL PR (mk PR (lookN types) glob 72) (Code.at [1,1,1,0,0] (body Tryd.f119)) (opE b (openF b but)) (fun e L' => e = .normal ∧ L' = (.tmp 63,.d (opW b (openF b but))) :: opR b (openF b but) []) :=
  WpL.tell (fun _ h => h) (j := 14) (m := .spot (openF b but)) rfl (WpL.path (G 72) (op_12 b (openF b but)) ⟨hwh,trivial⟩ ⟨rfl,rfl⟩)
 have hgoal : ∀ (r : D),(∀ (ke : Nat → Prop) (w1 : World) (ds : List Deferred),WpL PR (mkE PR (lookN types) glob 72 ke w1 ds) (Code.at [1,1,1,1] (body Tryd.f119)) (opR b (openF b but) (truthsF b but)) (fun e L' => e = .ret ∧ ∃ ps,fin (mkE PR (lookN types) glob 72 ke w1 ds) [.cell 4 129] (ofL L') = some (ps,r) ∧ allP ps)) →
   Contract PR glob 119 [bookD b,.sl false .int but] r := by
  intro r hend
  refine contract_of_marks types_ok op_fn ?_
  intro w0 R0 a Q hH hQ
  rw [hcode]
  refine wpIn_seq (WpL.path (G 72) (op_0 b but) trivial (Post := fun e L' => e = .normal ∧ L' = opA b but) ⟨rfl,rfl⟩ w0 R0 a w0 _ none 1 (fun _ => rfl) hH fun e L' a1 W1 hp hH1 => ?_)
  obtain ⟨rfl,rfl⟩ := hp
  show Code.wpIn _ _ _ _ _ _ _
  refine wpIn_seq (WpL.path (G 72) (op_1 b but) ⟨plain72,by omega,plain72,trivial⟩ (Post := fun e L' => e = .normal ∧ L' = opB b but) ⟨rfl,rfl⟩ w0 R0 a1 W1 _ none 1 (fun _ => rfl) hH1 fun e L' a2 W2 hp hH2 => ?_)
  obtain ⟨rfl,rfl⟩ := hp
  show Code.wpIn _ _ _ _ _ _ _
  refine wpIn_seq (hpre w0 R0 a2 W2 _ none 1 (fun _ => rfl) hH2 fun e L' a3 W3 hp hH3 => ?_)
  obtain ⟨rfl,rfl⟩ := hp
  show Code.wpIn _ _ _ _ _ _ _
  refine wpIn_seq (wpIn_seq (hstart w0 R0 a3 W3 _ none 1 (fun _ => rfl) hH3 fun e L' a4 W4 hp hH4 => ?_))
  obtain ⟨rfl,rfl⟩ := hp
  show Code.wpIn _ _ _ _ _ _ _
  refine range_frame (tt := lookN types) (glob := glob) (n := 72) (gf := 192) (caps := [cellsOf (bkD b (.spot (openF b but)) [])]) (Told := fun _ => ToldT) (xs := truthsF b but) (S := opR b (openF b but)) (S1 := opR1 b (openF b but)) (fx := [4,5]) (dx := trD) (L := (.tmp 63,.d (opW b (openF b but))) :: opR b (openF b but) []) (ks := opRK0)
   ?_ ⟨Tryd.f192,by kernel_rfl,by kernel_rfl,by kernel_rfl⟩ ?_ (by decide) (by decide) ?_ ?_ ?_ ?_ rfl (by kernel_rfl) (by kernel_rfl) (fun k => by rfl) ?_ hH4 ?_
  ·intro KE R w lb h1 h2 h3 h4
   obtain ⟨p1,m,e1,h5,h6⟩ := all2_cons h4
   obtain rfl := all2_nil h6
   have hlb : lb = #[p1] := by rw [← Array.toArray_toList (xs := lb),e1]
   subst hlb
   obtain ⟨bb,oo,hp,hr⟩ := h5
   refine whole_seq (ts := []) hb.secs hb.turns hent hb.wear h1 h2 ⟨bb,oo,by rw [hp]; simp,fun j d hd => ?_⟩ h3
   obtain ⟨u,q1,q2,q3⟩ := hr j d hd
   exact ⟨u,RelC.of0 q1,q2,q3⟩
  ·rintro R T x vs W rfl
   exact ⟨trV x,fun _ _ => False,rfl,fun _ _ h => h.elim,⟨_,rfl,rfl,rfl,rfl,rfl,rfl,rfl,rfl,rfl,rfl,rfl,rfl,rfl,trivial⟩⟩
  ·intro pre i hi
   cases pre with
   | nil => exact tmpIn_ok (fx := [4,5]) (by kernel_rfl) i hi
   | cons y r => exact tmpIn_ok (fx := [4,5]) (by kernel_rfl) i hi
  ·intro pre i
   cases pre <;> rfl
  ·rintro pre x ke no w1 fv _
   cases pre with
   | nil => exact WpL.path (goodR mixed_ok types_ok) (op_as0 b _ x ke no w1 fv) trivial ⟨rfl,rfl⟩
   | cons y r => exact WpL.path (goodR mixed_ok types_ok) (op_as1 b _ y r x ke no w1 fv) trivial ⟨rfl,rfl⟩
  ·rintro pre x ke no w1 fv ⟨post,hpost⟩
   have hl : pre.length + 1 ≤ 1000000 := by
    have := congrArg List.length hpost
    simp at this
    omega
   cases pre with
   | nil => exact WpL.path (goodR mixed_ok types_ok) (op_bd0 b _ x ke no w1 fv) ⟨by omega,by decide,rfl,trivial⟩ ⟨rfl,rfl⟩
   | cons y r => exact WpL.path (goodR mixed_ok types_ok) (op_bd1 b _ y r x ke no w1 fv) ⟨by omega,rfl,by simp at hl ⊢; omega,rfl,trivial⟩ ⟨rfl,rfl⟩
  ·exact freeIn_ok (by kernel_rfl)
  ·intro D a5 W5 hD hH5 hWD
   show Code.wpIn _ _ _ _ _ _ _
   refine hend _ _ _ w0 R0 a5 W5 _ none 1 (fun _ => rfl) hH5 fun e L' a6 W6 hp hH6 => ?_
   obtain ⟨rfl,hfin⟩ := hp
   exact hQ D a6 W6 W5 _ L' hD hH6 hWD hfin (.inr rfl)
 cases ht : truthsF b but with
 | nil =>
  refine (hgoal (.agg (bkC b (.map (.spot (openF b but))) .nil)) ?_).toRes fun R w v h => nil_trc h
  intro ke w1 ds
  rw [ht]
  exact WpL.path (goodE mixed_ok types_ok) (op_150 b _ ke w1 ds) trivial ⟨rfl,[],by kernel_rfl,trivial⟩
 | cons y r =>
  refine hgoal _ ?_
  intro ke w1 ds
  rw [ht]
  exact WpL.path (goodE mixed_ok types_ok) (op_151 b _ y r ke w1 ds) ⟨rfl,trivial⟩ ⟨rfl,[(y :: r).length = (y :: r).length],by kernel_rfl,⟨rfl,trivial⟩⟩
end Go.Di

namespace Go.Di
open Proofs
theorem asked_fn : FnOk PR (mk PR (lookN types) glob 25) 121 (body Tryd.f121) [.cell 4 129,.tmp 5] := by refine ⟨Tryd.f121,?_,?_,?_,?_,?_⟩ <;> kernel_rfl
theorem right__fn : FnOk PR (mk PR (lookN types) glob 15) 37 (body Tryd.f37) [.tmp 2,.tmp 3] := by refine ⟨Tryd.f37,?_,?_,?_,?_,?_⟩ <;> kernel_rfl
theorem thickA_fn : FnOk PR (mk PR (lookN types) glob 33) 41 (body Tryd.f41) [.cell 6 51,.tmp 7] := by refine ⟨Tryd.f41,?_,?_,?_,?_,?_⟩ <;> kernel_rfl
theorem wear1_fn : FnOk PR (mk PR (lookN types) glob 13) 126 (body Tryd.f126) [.cell 3 51] := by refine ⟨Tryd.f126,?_,?_,?_,?_,?_⟩ <;> kernel_rfl
theorem wearA_fn : FnOk PR (mk PR (lookN types) glob 23) 42 (body Tryd.f42) [.cell 4 51,.tmp 5] := by refine ⟨Tryd.f42,?_,?_,?_,?_,?_⟩ <;> kernel_rfl
theorem asked_bad (b : Book) (is : Bool) (e : Int) :
  callF (mk PR (lookN types) glob 25) [(11,true)] [(9,.int .i64 e)] [] (body Tryd.f121) [.cell 4 129,.tmp 5] [bookD b,.bool is] =
   some ([Contract PR glob 64 [D.agg (bkCells b)] (D.int .i64 e),(e != (0 : Int)) = true],D.tup [D.agg [D.nil,D.nil,D.nil,D.int .i64 0,D.int .i64 0,D.nilmap,D.nil],D.int .i64 e]) := by kernel_rfl
theorem asked_ask (b : Book) (is : Bool) (e : Int) :
  callF (mk PR (lookN types) glob 25) [(11,false),(15,true)] [(9,.int .i64 e)] [] (body Tryd.f121) [.cell 4 129,.tmp 5] [bookD b,.bool is] =
   some ([Contract PR glob 64 [D.agg (bkCells b)] (D.int .i64 e),(e != (0 : Int)) = false,(!is) = true],D.tup [D.agg [D.nil,D.nil,D.nil,D.int .i64 0,D.int .i64 0,D.nilmap,D.nil],D.int .i64 11]) := by kernel_rfl
theorem asked_false (b : Book) (is : Bool) (e : Int) (m : Mp) (ts : List TrC) :
  callF (mk PR (lookN types) glob 25) [(11,false),(15,false),(22,true)] [(9,.int .i64 e),(18,bkD b m ts)] [] (body Tryd.f121) [.cell 4 129,.tmp 5] [bookD b,.bool is] =
   some ([Contract PR glob 64 [D.agg (bkCells b)] (D.int .i64 e),(e != (0 : Int)) = false,(!is) = false,Contract PR glob 119 [D.agg (bkCells b),D.sl false E.int []] (D.agg [D.sl false E.sec (Book.secs b),D.sl false E.int (Book.turns b),D.sl false E.sv (Book.svs b),D.int .i64 (Book.rule b),D.int .i64 (Book.days b),D.map m,D.sl false E.trc ts]),(((List.length ts : Nat) : Int) == (0 : Int)) = true],D.tup [D.agg [D.sl false E.sec (Book.secs b),D.sl false E.int (Book.turns b),D.sl false E.sv (Book.svs b),D.int .i64 (Book.rule b),D.int .i64 (Book.days b),D.map m,D.sl false E.trc ts],D.int .i64 12]) := by kernel_rfl
theorem asked_ok (b : Book) (is : Bool) (e : Int) (m : Mp) (ts : List TrC) :
  callF (mk PR (lookN types) glob 25) [(11,false),(15,false),(22,false)] [(9,.int .i64 e),(18,bkD b m ts)] [] (body Tryd.f121) [.cell 4 129,.tmp 5] [bookD b,.bool is] =
   some ([Contract PR glob 64 [D.agg (bkCells b)] (D.int .i64 e),(e != (0 : Int)) = false,(!is) = false,Contract PR glob 119 [D.agg (bkCells b),D.sl false E.int []] (D.agg [D.sl false E.sec (Book.secs b),D.sl false E.int (Book.turns b),D.sl false E.sv (Book.svs b),D.int .i64 (Book.rule b),D.int .i64 (Book.days b),D.map m,D.sl false E.trc ts]),(((List.length ts : Nat) : Int) == (0 : Int)) = false],D.tup [D.agg [D.sl false E.sec (Book.secs b),D.sl false E.int (Book.turns b),D.sl false E.sv (Book.svs b),D.int .i64 (Book.rule b),D.int .i64 (Book.days b),D.map m,D.sl false E.trc ts],D.int .i64 0]) := by kernel_rfl
theorem right__bad (b : Book) (e : Int) :
  callF (mk PR (lookN types) glob 15) [(8,true)] [(6,.int .i64 e)] [] (body Tryd.f37) [.tmp 2,.tmp 3] [bookD b] =
   some ([Contract PR glob 64 [D.agg (bkCells b)] (D.int .i64 e),(e != (0 : Int)) = true],D.tup [D.bool false,D.int .i64 e]) := by kernel_rfl
theorem right__ok (b : Book) (e : Int) (m : Mp) (ts : List TrC) :
  callF (mk PR (lookN types) glob 15) [(8,false)] [(6,.int .i64 e),(11,bkD b m ts)] [] (body Tryd.f37) [.tmp 2,.tmp 3] [bookD b] =
   some ([Contract PR glob 64 [D.agg (bkCells b)] (D.int .i64 e),(e != (0 : Int)) = false,Contract PR glob 119 [D.agg (bkCells b),D.sl false E.int []] (D.agg [D.sl false E.sec (Book.secs b),D.sl false E.int (Book.turns b),D.sl false E.sv (Book.svs b),D.int .i64 (Book.rule b),D.int .i64 (Book.days b),D.map m,D.sl false E.trc ts])],D.tup [D.bool (decide (((List.length ts : Nat) : Int) > (0 : Int))),D.int .i64 0]) := by kernel_rfl
theorem thickA_no (b : Book) (s d : Int) (e : Int) :
  callF (mk PR (lookN types) glob 33) [(15,false),(24,true)] [(14,.bool (isSectionF b s)),(18,.bool (isDayF b d)),(20,.tup [zbookD,.int .i64 e])] [] (body Tryd.f41) [.cell 6 51,.tmp 7] [bookD b,.int .i64 s,.int .i64 d] =
   some ([Contract PR glob 124 [D.agg (bkCells b),D.int .i64 s] (D.bool (isSectionF b s)),isSectionF b s = false,isSectionF b s = false,isSectionF b s = false,isSectionF b s = false,Contract PR glob 121 [D.agg (bkCells b),D.bool false] (D.tup [D.agg [D.nil,D.nil,D.nil,D.int .i64 0,D.int .i64 0,D.nilmap,D.nil],D.int .i64 e]),(e != (0 : Int)) = true,0 + 2 ≤ 2],D.tup [D.agg [D.int .i64 0,D.int .i64 0],D.int .i64 e]) := by kernel_rfl
theorem thickA_err (b : Book) (s d : Int) (e : Int) :
  callF (mk PR (lookN types) glob 33) [(15,true),(24,true)] [(14,.bool (isSectionF b s)),(18,.bool (isDayF b d)),(20,.tup [zbookD,.int .i64 e])] [] (body Tryd.f41) [.cell 6 51,.tmp 7] [bookD b,.int .i64 s,.int .i64 d] =
   some ([Contract PR glob 124 [D.agg (bkCells b),D.int .i64 s] (D.bool (isSectionF b s)),isSectionF b s = true,isSectionF b s = true,isSectionF b s = true,Contract PR glob 122 [D.agg (bkCells b),D.int .i64 d] (D.bool (isDayF b d)),isSectionF b s = true,Contract PR glob 121 [D.agg (bkCells b),D.bool (isDayF b d)] (D.tup [D.agg [D.nil,D.nil,D.nil,D.int .i64 0,D.int .i64 0,D.nilmap,D.nil],D.int .i64 e]),(e != (0 : Int)) = true,0 + 2 ≤ 2],D.tup [D.agg [D.int .i64 0,D.int .i64 0],D.int .i64 e]) := by kernel_rfl
theorem thickA_false (b : Book) (s d : Int) (m : Mp) :
  callF (mk PR (lookN types) glob 33) [(15,true)] [(14,.bool (isSectionF b s)),(18,.bool (isDayF b d)),(20,.tup [bkD b m [],.int .i64 12])] [] (body Tryd.f41) [.cell 6 51,.tmp 7] [bookD b,.int .i64 s,.int .i64 d] =
   some ([Contract PR glob 124 [D.agg (bkCells b),D.int .i64 s] (D.bool (isSectionF b s)),isSectionF b s = true,isSectionF b s = true,isSectionF b s = true,Contract PR glob 122 [D.agg (bkCells b),D.int .i64 d] (D.bool (isDayF b d)),isSectionF b s = true,Contract PR glob 121 [D.agg (bkCells b),D.bool (isDayF b d)] (D.tup [D.agg [D.sl false E.sec (Book.secs b),D.sl false E.int (Book.turns b),D.sl false E.sv (Book.svs b),D.int .i64 (Book.rule b),D.int .i64 (Book.days b),D.map m,D.sl false E.trc []],D.int .i64 12]),0 + 2 ≤ 2],D.tup [D.agg [D.int .i64 0,D.int .i64 0],D.int .i64 12]) := by kernel_rfl
theorem thickA_ok (b : Book) (s d : Int) (m : Mp) (ts : List TrC) (o : Span) :
  callF (mk PR (lookN types) glob 33) [(15,true)] [(14,.bool (isSectionF b s)),(18,.bool (isDayF b d)),(20,.tup [bkD b m ts,.int .i64 0]),(32,spD o)] [] (body Tryd.f41) [.cell 6 51,.tmp 7] [bookD b,.int .i64 s,.int .i64 d] =
   some ([Contract PR glob 124 [D.agg (bkCells b),D.int .i64 s] (D.bool (isSectionF b s)),isSectionF b s = true,isSectionF b s = true,isSectionF b s = true,Contract PR glob 122 [D.agg (bkCells b),D.int .i64 d] (D.bool (isDayF b d)),isSectionF b s = true,Contract PR glob 121 [D.agg (bkCells b),D.bool (isDayF b d)] (D.tup [D.agg [D.sl false E.sec (Book.secs b),D.sl false E.int (Book.turns b),D.sl false E.sv (Book.svs b),D.int .i64 (Book.rule b),D.int .i64 (Book.days b),D.map m,D.sl false E.trc ts],D.int .i64 0]),Contract PR glob 123 [D.agg [D.sl false E.sec (Book.secs b),D.sl false E.int (Book.turns b),D.sl false E.sv (Book.svs b),D.int .i64 (Book.rule b),D.int .i64 (Book.days b),D.map m,D.sl false E.trc ts],D.int .i64 s,D.int .i64 d,D.sl false E.int (Book.turns b)] (D.agg [D.int .i64 (Span.lo o),D.int .i64 (Span.hi o)]),0 + 2 ≤ 2],D.tup [D.agg [D.int .i64 (Span.lo o),D.int .i64 (Span.hi o)],D.int .i64 0]) := by kernel_rfl
theorem wear1_all (x : TrC) (p : Int) :
  callF (mk PR (lookN types) glob 13) [] [] [] (body Tryd.f126) [.cell 3 51] [trD x,.ref [.int .i64 p] 0] =
   some ([0 + 1 ≤ 1,(0 : Int) ≤ p ∧ p < (Nat.cast : Nat → Int) 4,0 + 0 + Int.toNat p * 1 + 1 ≤ 12,0 + 1 ≤ 1,(0 : Int) ≤ p ∧ p < (Nat.cast : Nat → Int) 4,0 + 0 + Int.toNat p * 1 + 1 ≤ 12,0 + 2 ≤ 2],D.agg [D.int .i64 (List.getD [TrC.w0 x,TrC.w1 x,TrC.w2 x,TrC.w3 x,Span.lo (TrC.f0 x),Span.hi (TrC.f0 x),Span.lo (TrC.f1 x),Span.hi (TrC.f1 x),Span.lo (TrC.f2 x),Span.hi (TrC.f2 x),Span.lo (TrC.f3 x),Span.hi (TrC.f3 x)] (0 + 0 + Int.toNat p * 1) (0 : Int)),D.int .i64 (List.getD [TrC.w0 x,TrC.w1 x,TrC.w2 x,TrC.w3 x,Span.lo (TrC.f0 x),Span.hi (TrC.f0 x),Span.lo (TrC.f1 x),Span.hi (TrC.f1 x),Span.lo (TrC.f2 x),Span.hi (TrC.f2 x),Span.lo (TrC.f3 x),Span.hi (TrC.f3 x)] (0 + 0 + Int.toNat p * 1) (0 : Int))]) := by kernel_rfl
theorem wearA_err (b : Book) (p : Int) (e : Int) :
  callF (mk PR (lookN types) glob 23) [(17,true)] [(12,.bool (isSectionF b p)),(13,.tup [zbookD,.int .i64 e])] [] (body Tryd.f42) [.cell 4 51,.tmp 5] [bookD b,.int .i64 p] =
   some ([0 + 1 ≤ 1,Contract PR glob 124 [D.agg (bkCells b),D.int .i64 p] (D.bool (isSectionF b p)),Contract PR glob 121 [D.agg (bkCells b),D.bool (isSectionF b p)] (D.tup [D.agg [D.nil,D.nil,D.nil,D.int .i64 0,D.int .i64 0,D.nilmap,D.nil],D.int .i64 e]),(e != (0 : Int)) = true,0 + 2 ≤ 2],D.tup [D.agg [D.int .i64 0,D.int .i64 0],D.int .i64 e]) := by kernel_rfl
theorem wearA_false (b : Book) (p : Int) (m : Mp) :
  callF (mk PR (lookN types) glob 23) [] [(12,.bool (isSectionF b p)),(13,.tup [bkD b m [],.int .i64 12])] [] (body Tryd.f42) [.cell 4 51,.tmp 5] [bookD b,.int .i64 p] =
   some ([0 + 1 ≤ 1,Contract PR glob 124 [D.agg (bkCells b),D.int .i64 p] (D.bool (isSectionF b p)),Contract PR glob 121 [D.agg (bkCells b),D.bool (isSectionF b p)] (D.tup [D.agg [D.sl false E.sec (Book.secs b),D.sl false E.int (Book.turns b),D.sl false E.sv (Book.svs b),D.int .i64 (Book.rule b),D.int .i64 (Book.days b),D.map m,D.sl false E.trc []],D.int .i64 12]),0 + 2 ≤ 2],D.tup [D.agg [D.int .i64 0,D.int .i64 0],D.int .i64 12]) := by kernel_rfl
theorem wearA_ok (b : Book) (p : Int) (m : Mp) (ts : List TrC) (o : Span) :
  callF (mk PR (lookN types) glob 23) [] [(12,.bool (isSectionF b p)),(13,.tup [bkD b m ts,.int .i64 0]),(22,spD o)] [] (body Tryd.f42) [.cell 4 51,.tmp 5] [bookD b,.int .i64 p] =
   some ([0 + 1 ≤ 1,Contract PR glob 124 [D.agg (bkCells b),D.int .i64 p] (D.bool (isSectionF b p)),Contract PR glob 121 [D.agg (bkCells b),D.bool (isSectionF b p)] (D.tup [D.agg [D.sl false E.sec (Book.secs b),D.sl false E.int (Book.turns b),D.sl false E.sv (Book.svs b),D.int .i64 (Book.rule b),D.int .i64 (Book.days b),D.map m,D.sl false E.trc ts],D.int .i64 0]),Contract PR glob 125 [D.agg [D.sl false E.sec (Book.secs b),D.sl false E.int (Book.turns b),D.sl false E.sv (Book.svs b),D.int .i64 (Book.rule b),D.int .i64 (Book.days b),D.map m,D.sl false E.trc ts],D.fn 126 [] [[D.int .i64 p]]] (D.agg [D.int .i64 (Span.lo o),D.int .i64 (Span.hi o)]),0 + 2 ≤ 2],D.tup [D.agg [D.int .i64 (Span.lo o),D.int .i64 (Span.hi o)],D.int .i64 0]) := by kernel_rfl
end Go.Di

namespace Go.Di
open Proofs

/-! ### A book -/
def risesF (days : Int) (l : List Int) : Bool := (l.foldl (turnF days) (true,0)).1
structure Valid (b : Book) : Prop where
 secs : 1 ≤ b.secs.length ∧ b.secs.length ≤ 4
 days : 1 ≤ b.days ∧ b.days ≤ 30
 rule : 0 ≤ b.rule ∧ b.rule ≤ 200
 turns : b.turns.length ≤ 4
 svs : b.svs.length ≤ 8
 sec : ∀ x ∈ b.secs,SecOk x
 thick : ∀ x ∈ b.secs,mostF b.secs * b.days ≤ x.t.lo
 rises : risesF b.days b.turns = true
 sv : ∀ y ∈ b.svs,isSurveyF b y = true
theorem turns_and {days : Int} : ∀ (l : List Int) (p : Bool) (n : Int),(l.foldl (turnF days) (p,n)).1 = (p && (l.foldl (turnF days) (true,n)).1)
 | [],p,n => by simp
 | t :: l,p,n => by
  simp only [List.foldl_cons,turnF]
  rw [turns_and l,turns_and l (true && _),Bool.and_assoc,Bool.true_and]
theorem valid_iff {b : Book} : validF b = true ↔ Valid b := by
 unfold validF
 have h4 : ok4F b b.svs = ((ok3F b b.turns).1 && b.svs.all fun x => isSurveyF b x) := foldl_and _ _ _
 have h3 : (ok3F b b.turns).1 = (ok2F b b.secs && risesF b.days b.turns) := turns_and _ _ _
 rw [h4,h3,ok2_eq,Bool.and_eq_true,Bool.and_eq_true,Bool.and_eq_true,Bool.and_eq_true,ok1_iff,List.all_eq_true,List.all_eq_true]
 constructor
 ·rintro ⟨⟨h0,h1⟩,⟨⟨⟨_,h2⟩,h5⟩,h6⟩⟩
  exact ⟨h0.secs,h0.days,h0.rule,h0.turns,h0.svs,h1,fun x hx => by simpa using h2 x hx,h5,h6⟩
 ·rintro ⟨h1,h2,h3,h4,h5,h6,h7,h8,h9⟩
  exact ⟨⟨⟨h1,h2,h3,h4,h5⟩,h6⟩,⟨⟨⟨⟨⟨h1,h2,h3,h4,h5⟩,h6⟩,fun x hx => by simpa using h7 x hx⟩,h8⟩,h9⟩⟩
theorem survey_iff {b : Book} {y : Sv} : isSurveyF b y = true ↔ (0 ≤ y.s ∧ y.s ≤ b.secs.length - 1) ∧ (0 ≤ y.d ∧ y.d ≤ b.days) ∧ (0 ≤ y.r ∧ y.r ≤ 200) ∧ (0 ≤ y.e ∧ y.e ≤ 5) := by
 simp only [isSurveyF,isSectionF,isDayF,Bool.and_eq_true,within_iff]
 constructor
 ·rintro ⟨⟨⟨h1,h2⟩,h3⟩,h4⟩; exact ⟨h1,h2,h3,h4⟩
 ·rintro ⟨h1,h2,h3,h4⟩; exact ⟨⟨⟨h1,h2⟩,h3⟩,h4⟩
theorem Valid.book {b : Book} (h : Valid b) : BookOk b := by
 refine ⟨h.secs.2,by have := h.turns; omega,by have := h.svs; omega,fun y hy => ?_,fun p hp => ?_⟩
 ·obtain ⟨h1,h2,h3,h4⟩ := survey_iff.1 (h.sv y hy)
  have := h.days
  exact ⟨by omega,by omega,by omega⟩
 ·have := (h.sec _ (getD_mem b.secs p sec0 hp)).w
  omega

/-! ### Its truths are small,and few -/
theorem step_le (b : Book) (x0 x1 x2 x3 k : Int) (s : Span) (e : Ent) : s.lo ≤ (rightStep b x0 x1 x2 x3 k s e).lo ∧ (rightStep b x0 x1 x2 x3 k s e).hi ≤ s.hi := by
 unfold rightStep
 split
 ·exact ⟨mx_ge.1,by simp only [bothF]; unfold mn; split <;> omega⟩
 ·exact ⟨Int.le_refl _,Int.le_refl _⟩
theorem right_le (b : Book) (x0 x1 x2 x3 k : Int) : ∀ (l : List Ent) (s : Span),s.lo ≤ (l.foldl (rightStep b x0 x1 x2 x3 k) s).lo ∧ (l.foldl (rightStep b x0 x1 x2 x3 k) s).hi ≤ s.hi
 | [],s => ⟨Int.le_refl _,Int.le_refl _⟩
 | e :: l,s => by
  have h1 := step_le b x0 x1 x2 x3 k s e
  have h2 := right_le b x0 x1 x2 x3 k l (rightStep b x0 x1 x2 x3 k s e)
  simp only [List.foldl_cons]
  omega
/-- What a truth says is between 0 and 200. -/
def Tr200 (t : TrC) : Prop := (0 ≤ t.f0.lo ∧ t.f0.lo ≤ t.f0.hi ∧ t.f0.hi ≤ 200) ∧ (0 ≤ t.f1.lo ∧ t.f1.lo ≤ t.f1.hi ∧ t.f1.hi ≤ 200) ∧ (0 ≤ t.f2.lo ∧ t.f2.lo ≤ t.f2.hi ∧ t.f2.hi ≤ 200) ∧ (0 ≤ t.f3.lo ∧ t.f3.lo ≤ t.f3.hi ∧ t.f3.hi ≤ 200)
theorem setF_200 {t : TrC} (h : Tr200 t) (i : Nat) {s : Span} (hs : 0 ≤ s.lo ∧ s.lo ≤ s.hi ∧ s.hi ≤ 200) : Tr200 (setF t i s) := by
 obtain ⟨h0,h1,h2,h3⟩ := h
 match i with
 | 0 => exact ⟨hs,h1,h2,h3⟩
 | 1 => exact ⟨h0,hs,h2,h3⟩
 | 2 => exact ⟨h0,h1,hs,h3⟩
 | _ + 3 => exact ⟨h0,h1,h2,hs⟩
theorem setF_w (t : TrC) (i : Nat) (s : Span) : (setF t i s).w0 = t.w0 ∧ (setF t i s).w1 = t.w1 ∧ (setF t i s).w2 = t.w2 ∧ (setF t i s).w3 = t.w3 := by
 match i with
 | 0 => exact ⟨rfl,rfl,rfl,rfl⟩
 | 1 => exact ⟨rfl,rfl,rfl,rfl⟩
 | 2 => exact ⟨rfl,rfl,rfl,rfl⟩
 | _ + 3 => exact ⟨rfl,rfl,rfl,rfl⟩
theorem leafGo_ok {b : Book} (hb : ∀ x ∈ b.secs,SecOk x) (l : List Ent) (x : W4) : ∀ (f i : Nat) (t : TrC),f + i = b.secs.length → Tr200 t → ∀ u ∈ leafGo b l x f i t,Tr200 u ∧ u.w0 = t.w0 ∧ u.w1 = t.w1 ∧ u.w2 = t.w2 ∧ u.w3 = t.w3
 | 0,i,t,_,ht,u,hu => by
  simp only [leafGo,List.mem_singleton] at hu
  subst hu
  exact ⟨ht,rfl,rfl,rfl,rfl⟩
 | f + 1,i,t,hf,ht,u,hu => by
  simp only [leafGo] at hu
  split at hu
  ·rename_i hok
   have h1 := right_le b x.a x.b x.c x.d i l (b.secs.getD i sec0).t
   have h2 := (hb _ (getD_mem b.secs i sec0 (by omega))).t
   have hr : rightF b l x.a x.b x.c x.d i = l.foldl (rightStep b x.a x.b x.c x.d i) (b.secs.getD i sec0).t := rfl
   rw [← hr] at h1
   obtain ⟨g1,g2⟩ := leafGo_ok hb l x f (i + 1) _ (by omega) (setF_200 ht i (s := rightF b l x.a x.b x.c x.d i) (by omega)) u hu
   have h3 := setF_w t i (rightF b l x.a x.b x.c x.d i)
   exact ⟨g1,g2.1.trans h3.1,g2.2.1.trans h3.2.1,g2.2.2.1.trans h3.2.2.1,g2.2.2.2.trans h3.2.2.2⟩
  ·cases hu
theorem leafGo_len (b : Book) (l : List Ent) (x : W4) : ∀ (f i : Nat) (t : TrC),(leafGo b l x f i t).length ≤ 1
 | 0,_,_ => by simp [leafGo]
 | f + 1,i,t => by
  simp only [leafGo]
  split
  ·exact leafGo_len b l x f _ _
  ·simp
theorem flat_len {α β : Type} (g : α → List β) (c : Nat) : ∀ (l : List α),(∀ x ∈ l,(g x).length ≤ c) → (l.flatMap g).length ≤ l.length * c
 | [],_ => by simp
 | x :: l,h => by
  have h1 := h x (by simp)
  have h2 := flat_len g c l (fun y hy => h y (by simp [hy]))
  simp only [List.flatMap_cons,List.length_append,List.length_cons,Nat.add_mul]
  omega
theorem rates_mem {s : Span} {n : Int} : n ∈ ratesF s ↔ (0 ≤ n ∧ s.lo ≤ n ∧ n ≤ s.hi) := by
 unfold ratesF ratesTo
 simp only [List.mem_filter,List.mem_map,List.mem_range,decide_eq_true_eq]
 constructor
 ·rintro ⟨⟨k,hk,rfl⟩,h⟩; omega
 ·rintro ⟨h1,h2,h3⟩; exact ⟨⟨n.toNat,by omega,by omega⟩,h2⟩
theorem rates_len (s : Span) : (ratesF s).length ≤ (s.hi + 1).toNat := by
 unfold ratesF ratesTo
 refine Nat.le_trans (List.length_filter_le _ _) ?_
 simp
theorem wholeGo_len {b : Book} (hb : ∀ x ∈ b.secs,SecOk x) (l : List Ent) : ∀ (f p : Nat) (x : W4),f + p = b.secs.length → (wholeGo b l f p x).length ≤ 4 ^ f
 | 0,p,x,_ => by
  show (leafF b l x).length ≤ 1
  exact leafGo_len _ _ _ _ _ _
 | f + 1,p,x,hf => by
  have h2 := (hb _ (getD_mem b.secs p sec0 (by omega))).w
  have h1 := flat_len (fun n => wholeGo b l f (p + 1) (x.set p n)) (4 ^ f) (ratesF (b.secs.getD p sec0).w) (fun n _ => wholeGo_len hb l f (p + 1) _ (by omega))
  have h3 := rates_len (b.secs.getD p sec0).w
  have h4 : (ratesF (b.secs.getD p sec0).w).length * 4 ^ f ≤ 4 * 4 ^ f := Nat.mul_le_mul_right _ (by omega)
  have h5 : (4 : Nat) ^ (f + 1) = 4 * 4 ^ f := by rw [Nat.pow_succ,Nat.mul_comm]
  rw [h5]
  exact Nat.le_trans h1 h4
theorem wholeGo_ok {b : Book} (hb : ∀ x ∈ b.secs,SecOk x) (l : List Ent) : ∀ (f p : Nat) (x : W4),f + p = b.secs.length → W4Ok x → ∀ t ∈ wholeGo b l f p x,Tr200 t ∧ W4Ok ⟨t.w0,t.w1,t.w2,t.w3⟩
 | 0,p,x,_,hx,t,ht => by
  have ht : t ∈ leafGo b l x b.secs.length 0 (trOf x) := ht
  obtain ⟨h1,h2,h3,h4,h5⟩ := leafGo_ok hb l x b.secs.length 0 (trOf x) (by omega) (by simp [Tr200,trOf]) t ht
  refine ⟨h1,?_⟩
  rw [h2,h3,h4,h5]
  exact hx
 | f + 1,p,x,hf,hx,t,ht => by
  have ht : t ∈ (ratesF (b.secs.getD p sec0).w).flatMap fun n => wholeGo b l f (p + 1) (x.set p n) := ht
  obtain ⟨n,hn,ht⟩ := List.mem_flatMap.1 ht
  have h2 := (hb _ (getD_mem b.secs p sec0 (by omega))).w
  have hn := rates_mem.1 hn
  exact wholeGo_ok hb l f (p + 1) _ (by omega) (hx.set p ⟨by omega,by omega⟩) t ht
theorem zero4 : W4Ok ⟨0,0,0,0⟩ := ⟨by decide,by decide,by decide,by decide⟩
theorem truths_len {b : Book} (hb : Valid b) (but : List Int) : (truthsF b but).length ≤ 256 := by
 have h := wholeGo_len hb.sec (openF b but) b.secs.length 0 ⟨0,0,0,0⟩ (by omega)
 refine Nat.le_trans h ?_
 exact Nat.pow_le_pow_right (by decide) hb.secs.2
theorem truths_ok {b : Book} (hb : Valid b) (but : List Int) : ∀ t ∈ truthsF b but,TrOk t := by
 intro t ht
 obtain ⟨⟨h0,h1,h2,h3⟩,hw⟩ := wholeGo_ok hb.sec (openF b but) b.secs.length 0 ⟨0,0,0,0⟩ (by omega) zero4 t ht
 have w0 := hw.a
 have w1 := hw.b
 have w2 := hw.c
 have w3 := hw.d
 exact ⟨w0,w1,w2,w3,by omega,by omega,by omega,by omega⟩
theorem opened_valid {b : Book} (hb : Valid b) (but : List Int) (hbut : but.length ≤ 100000) : Contract PR glob 119 [bookD b,.sl false .int but] (bkD b (.spot (openF b but)) (truthsF b but)) :=
 opened_con b hb.book but hbut (by have := truths_len hb but; omega)

/-! ### What is asked -/
/-- Lists that fit into memory. -/
structure Small (b : Book) : Prop where
 secs : b.secs.length ≤ 9223372036854775807
 turns : b.turns.length ≤ 9223372036854775807
 svs : b.svs.length ≤ 9223372036854775807
theorem check_small {b : Book} (h : Small b) : Contract PR glob 64 [bookD b] (.int .i64 (checkF b)) := check_con b h.secs h.turns h.svs
def canF (b : Book) : Bool := !(truthsF b []).isEmpty
/-- The error of what is asked. -/
def errF (b : Book) (is : Bool) : Int := if validF b = false then 10 else if is = false then 11 else if canF b = false then 12 else 0
theorem len_pos {b : Book} : decide (((truthsF b []).length : Int) > 0) = canF b := by
 unfold canF
 cases truthsF b [] with
 | nil => rfl
 | cons x l => simp
theorem ne_of_can {b : Book} (h : canF b = true) : truthsF b [] ≠ [] := by
 unfold canF at h
 cases hq : truthsF b [] with
 | nil => rw [hq] at h; cases h
 | cons x l => simp
theorem nil_of_can {b : Book} (h : canF b = false) : truthsF b [] = [] := by
 unfold canF at h
 cases hq : truthsF b [] with
 | nil => rfl
 | cons x l => rw [hq] at h; cases h

theorem asked_bad_con {b : Book} (hs : Small b) (is : Bool) (h : validF b = false) : Contract PR glob 121 [bookD b,.bool is] (.tup [zbookD,.int .i64 10]) := by
 have hc := check_small hs
 unfold checkF at hc
 rw [h] at hc
 exact contract_of_path (G 25) asked_fn (asked_bad b is 10) ⟨hc,rfl,trivial⟩
theorem check_ok {b : Book} (hs : Small b) (h : Valid b) : Contract PR glob 64 [bookD b] (.int .i64 0) := by
 have hc := check_small hs
 unfold checkF at hc
 rw [valid_iff.2 h] at hc
 exact hc
theorem asked_ask_con {b : Book} (hs : Small b) (h : Valid b) : Contract PR glob 121 [bookD b,.bool false] (.tup [zbookD,.int .i64 11]) :=
 contract_of_path (G 25) asked_fn (asked_ask b false 0) ⟨check_ok hs h,rfl,rfl,trivial⟩
theorem asked_false_con {b : Book} (hs : Small b) (h : Valid b) (hc : canF b = false) : Contract PR glob 121 [bookD b,.bool true] (.tup [bkD b (.spot (openF b [])) [],.int .i64 12]) := by
 have ho := opened_valid h [] (by simp)
 rw [nil_of_can hc] at ho
 exact contract_of_path (G 25) asked_fn (asked_false b true 0 (.spot (openF b [])) []) ⟨check_ok hs h,rfl,rfl,ho,rfl,trivial⟩
theorem asked_ok_con {b : Book} (hs : Small b) (h : Valid b) (hc : canF b = true) : Contract PR glob 121 [bookD b,.bool true] (.tup [bkD b (.spot (openF b [])) (truthsF b []),.int .i64 0]) := by
 have ho := opened_valid h [] (by simp)
 refine contract_of_path (G 25) asked_fn (asked_ok b true 0 (.spot (openF b [])) (truthsF b [])) ⟨check_ok hs h,rfl,rfl,ho,?_,trivial⟩
 have := ne_of_can hc
 cases hq : truthsF b [] with
 | nil => exact absurd hq this
 | cons x l => simp; omega
theorem right_con' {b : Book} (hs : Small b) : Contract PR glob 37 [bookD b] (.tup [.bool (validF b && canF b),.int .i64 (checkF b)]) := by
 cases hv : validF b with
 | false =>
  have hc := check_small hs
  unfold checkF at hc ⊢
  rw [hv] at hc ⊢
  exact contract_of_path (G 15) right__fn (right__bad b 10) ⟨hc,rfl,trivial⟩
 | true =>
  have hV := valid_iff.1 hv
  unfold checkF
  rw [hv]
  have := right__ok b 0 (.spot (openF b [])) (truthsF b [])
  rw [len_pos] at this
  exact contract_of_path (G 15) right__fn this ⟨check_ok hs hV,rfl,opened_valid hV [] (by simp),trivial⟩
end Go.Di

namespace Go.Di
open Proofs

def spanOr (e : Int) (s : Span) : Span := if e = 0 then s else ⟨0,0⟩
def askE (b : Book) (s d : Int) : Int := errF b (isSectionF b s && isDayF b d)

theorem err_cases {b : Book} (hs : Small b) (is : Bool) : (errF b is ≠ 0 ∧ (errF b is = 12 → Valid b ∧ is = true ∧ canF b = false) ∧ (errF b is ≠ 12 → Contract PR glob 121 [bookD b,.bool is] (.tup [zbookD,.int .i64 (errF b is)]))) ∨ (errF b is = 0 ∧ Valid b ∧ is = true ∧ canF b = true) := by
 unfold errF
 cases hv : validF b with
 | false =>
  rw [if_pos rfl]
  exact .inl ⟨by decide,fun h => absurd h (by decide),fun _ => asked_bad_con hs is hv⟩
 | true =>
  have hV := valid_iff.1 hv
  cases is with
  | false =>
   refine .inl ⟨by simp,fun h => by simp at h,fun _ => ?_⟩
   simpa using asked_ask_con hs hV
  | true =>
   cases hc : canF b with
   | false => exact .inl ⟨by simp,fun _ => ⟨hV,rfl,rfl⟩,fun h => by simp at h⟩
   | true => exact .inr ⟨by simp,hV,rfl,rfl⟩

theorem thickA_con {b : Book} (hs : Small b) (s d : Int) : Contract PR glob 41 [bookD b,.int .i64 s,.int .i64 d] (.tup [spD (spanOr (askE b s d) (thickF b (truthsF b []) b.turns s d)),.int .i64 (askE b s d)]) := by
 have h1 := isSection_con b s hs.secs
 have h2 := isDay_con b d
 have hc := err_cases hs (isSectionF b s && isDayF b d)
 unfold askE
 generalize he : errF b (isSectionF b s && isDayF b d) = e at hc
 rcases hc with ⟨hne,h12,h3⟩ | ⟨h0,hV,his,hcan⟩
 ·have hz : spanOr e (thickF b (truthsF b []) b.turns s d) = ⟨0,0⟩ := if_neg hne
  rw [hz]
  by_cases e12 : e = 12
  ·obtain ⟨hV,his,hcan⟩ := h12 e12
   have his' := his
   simp only [Bool.and_eq_true] at his'
   have ha := asked_false_con hs hV hcan
   subst e12
   have hr := thickA_false b s d (.spot (openF b []))
   rw [his'.2] at hr h2
   exact contract_of_path (G 33) thickA_fn hr ⟨h1,his'.1,his'.1,his'.1,h2,his'.1,ha,by omega,trivial⟩
  ·have h3 := h3 e12
   have hb : (e != 0) = true := by simpa using hne
   cases hsec : isSectionF b s with
   | false =>
    rw [hsec] at h3
    exact contract_of_path (G 33) thickA_fn (thickA_no b s d e) ⟨h1,hsec,hsec,hsec,hsec,h3,hb,by omega,trivial⟩
   | true =>
    rw [hsec,Bool.true_and] at h3
    exact contract_of_path (G 33) thickA_fn (thickA_err b s d e) ⟨h1,hsec,hsec,hsec,h2,hsec,h3,hb,by omega,trivial⟩
 ·subst h0
  have hz : spanOr 0 (thickF b (truthsF b []) b.turns s d) = thickF b (truthsF b []) b.turns s d := if_pos rfl
  rw [hz]
  have his' := his
  simp only [Bool.and_eq_true] at his'
  have hsec := within_iff.1 his'.1
  have hday := within_iff.1 his'.2
  have ha := asked_ok_con hs hV hcan
  have hdd := hV.days
  have ht := thick_con b (.spot (openF b [])) (truthsF b []) s d b.turns (truths_ok hV []) (ne_of_can hcan) (by have := truths_len hV []; omega) (by omega) hV.secs.2 (by have := hV.turns; omega) (by omega)
  have hr := thickA_ok b s d (.spot (openF b [])) (truthsF b []) (thickF b (truthsF b []) b.turns s d)
  rw [his'.2] at hr h2
  exact contract_of_path (G 33) thickA_fn hr ⟨h1,his'.1,his'.1,his'.1,h2,his'.1,ha,ht,by omega,trivial⟩

/-! ### How much a place wears -/
def wearAt (p : Int) (x : TrC) : Span := ⟨[x.w0,x.w1,x.w2,x.w3].getD p.toNat 0,[x.w0,x.w1,x.w2,x.w3].getD p.toNat 0⟩
theorem wear1_con (x : TrC) (p : Int) (hp : 0 ≤ p ∧ p < 4) : Contract PR glob 126 ([] ++ [trD x] ++ [[.int .i64 p]].map fun cs => .ref cs 0) (spD (wearAt p x)) := by
 have h := wear1_all x p
 obtain ⟨k,hk,h4⟩ : ∃ k : Nat,p.toNat = k ∧ k < 4 := ⟨p.toNat,rfl,by omega⟩
 have hr : (D.agg [D.int .i64 (List.getD [TrC.w0 x,TrC.w1 x,TrC.w2 x,TrC.w3 x,Span.lo (TrC.f0 x),Span.hi (TrC.f0 x),Span.lo (TrC.f1 x),Span.hi (TrC.f1 x),Span.lo (TrC.f2 x),Span.hi (TrC.f2 x),Span.lo (TrC.f3 x),Span.hi (TrC.f3 x)] (0 + 0 + Int.toNat p * 1) (0 : Int)),D.int .i64 (List.getD [TrC.w0 x,TrC.w1 x,TrC.w2 x,TrC.w3 x,Span.lo (TrC.f0 x),Span.hi (TrC.f0 x),Span.lo (TrC.f1 x),Span.hi (TrC.f1 x),Span.lo (TrC.f2 x),Span.hi (TrC.f2 x),Span.lo (TrC.f3 x),Span.hi (TrC.f3 x)] (0 + 0 + Int.toNat p * 1) (0 : Int))]) = spD (wearAt p x) := by
  unfold wearAt
  rw [hk]
  match k,h4 with
  | 0,_ => rfl
  | 1,_ => rfl
  | 2,_ => rfl
  | 3,_ => rfl
 rw [hr] at h
 exact contract_of_path (G 13) wear1_fn h ⟨by omega,by omega,by omega,by omega,by omega,by omega,by omega,trivial⟩
theorem wearA_con {b : Book} (hs : Small b) (p : Int) : Contract PR glob 42 [bookD b,.int .i64 p] (.tup [spD (spanOr (errF b (isSectionF b p)) (toldF (wearAt p) (truthsF b []))),.int .i64 (errF b (isSectionF b p))]) := by
 have h1 := isSection_con b p hs.secs
 have hc := err_cases hs (isSectionF b p)
 generalize he : errF b (isSectionF b p) = e at hc
 rcases hc with ⟨hne,h12,h3⟩ | ⟨h0,hV,his,hcan⟩
 ·rw [show spanOr e (toldF (wearAt p) (truthsF b [])) = ⟨0,0⟩ from if_neg hne]
  by_cases e12 : e = 12
  ·obtain ⟨hV,his,hcan⟩ := h12 e12
   have ha := asked_false_con hs hV hcan
   subst e12
   have hr := wearA_false b p (.spot (openF b []))
   rw [his] at hr h1
   exact contract_of_path (G 23) wearA_fn hr ⟨by omega,h1,ha,by omega,trivial⟩
  ·exact contract_of_path (G 23) wearA_fn (wearA_err b p e) ⟨by omega,h1,h3 e12,by simpa using hne,by omega,trivial⟩
 ·subst h0
  rw [show spanOr 0 (toldF (wearAt p) (truthsF b [])) = toldF (wearAt p) (truthsF b []) from if_pos rfl]
  have hsec := within_iff.1 his
  have hl := hV.secs
  have ha := asked_ok_con hs hV hcan
  have ht := told_con b (.spot (openF b [])) (truthsF b []) 126 [] [[.int .i64 p]] (wearAt p) (fun x _ => wear1_con x p (by omega)) (ne_of_can hcan) (by have := truths_len hV []; omega)
  have hr := wearA_ok b p (.spot (openF b [])) (truthsF b []) (toldF (wearAt p) (truthsF b []))
  rw [his] at hr h1
  refine contract_of_path (G 23) wearA_fn hr ?_
  repeat (first | exact trivial | refine ⟨by first | exact h1 | exact ha | exact ht | omega,?_⟩)

/-! ### The first day -/
/-! ### Does a survey fit? -/
def more (b : Book) (x : Sv) : Book := ⟨b.secs,b.turns,b.svs ++ [x],b.rule,b.days⟩
end Go.Di

namespace Go.Di
open Proofs
end Go.Di

namespace Go.Di
open Proofs

/-! ### Cut -/
/-! ### Turn -/
end Go.Di

namespace Go.Di
open Proofs
end Go.Di

namespace Go.Di
open Proofs

theorem relA_weaken {R : Foot} {w : World} {e : E} {xs : List e.α} {v : Value} (h : RelA R w (.sl true e xs) v) : RelA R w (.sl false e xs) v := by
 obtain ⟨A,c,hv,hc,hm,_,hr⟩ := h
 exact ⟨A,c,hv,hc,hm,fun h => (by cases h),hr⟩

/-! ### Wrong: surveys that are left out -/
end Go.Di

/-
 DI,part Y: a function that captures a box and its own variable.
-/
namespace Go.Di
open Go.RowKit

section
variable {P : Program} {C : Cfg} {w0 w w' : World} {R0 R : Foot} {a : Act} {s : St} {β : Nat → Nat} {σ : Sig} {Q : Exit → Act → World → Prop}

theorem SelfR.make {f : FuncId} {cells : List D} {p v : Value} {b : Nat} (hv : v = .func (.func f) #[] #[p,.pointer (some ⟨b,0,none⟩)]) (hp : RelCap R w cells p) (hR : R b 0) (hc : w.cell? ⟨b,0,none⟩ = some v) : ∀ n,SelfR R w f cells n v
 | 0 => trivial
 | n + 1 => ⟨p,b,0,v,hv,hp,hR,hc,⟨_,_,hv⟩,SelfR.make hv hp hR hc n⟩

end
end Go.Di

namespace Go.Di
open Proofs
end Go.Di

namespace Go.Di
open Proofs

/-! ### Wrong -/
end Go.Di

namespace Go.Di
open Proofs
def insideF (n lo hi : Int) : Bool := decide (n ≥ lo) && decide (n ≤ hi)
end Go.Di

namespace Go.Di
open Proofs
theorem rangeB_fn : FnOk PR (mk PR (lookN types) glob 8) 61 (body Tryd.f61) [.cell 4 51] := by refine ⟨Tryd.f61,?_,?_,?_,?_,?_⟩ <;> kernel_rfl
theorem inside_fn : FnOk PR (mk PR (lookN types) glob 15) 50 (body Tryd.f50) [.tmp 6] := by refine ⟨Tryd.f50,?_,?_,?_,?_,?_⟩ <;> kernel_rfl
theorem validB_fn : FnOk PR (mk PR (lookN types) glob 24) 117 (body Tryd.f117) [.tmp 6] := by refine ⟨Tryd.f117,?_,?_,?_,?_,?_⟩ <;> kernel_rfl
theorem modB_fn : FnOk PR (mk PR (lookN types) glob 17) 39 (body Tryd.f39) [.tmp 4] := by refine ⟨Tryd.f39,?_,?_,?_,?_,?_⟩ <;> kernel_rfl
theorem atB_fn : FnOk PR (mk PR (lookN types) glob 19) 46 (body Tryd.f46) [.tmp 4] := by refine ⟨Tryd.f46,?_,?_,?_,?_,?_⟩ <;> kernel_rfl
theorem climbs_fn : FnOk PR (mk PR (lookN types) glob 36) 52 (body Tryd.f52) [.tmp 4] := by refine ⟨Tryd.f52,?_,?_,?_,?_,?_⟩ <;> kernel_rfl
def atB_S0 (xs : List Int) (v : Int) (i : Nat) : List (Key × Val) :=
 [(.tmp 0,.d (D.sl false E.int xs)),
  (.tmp 1,.d (D.int .i64 v)),
  (.tmp 5,.d (.int .i64 i))]
def atB_K0 : List Key := [.tmp 0,.tmp 1,.tmp 5]
def climbs_S0 (xs : List Int) (m : Int) (i : Nat) : List (Key × Val) :=
 [(.tmp 0,.d (D.sl false E.int xs)),
  (.tmp 1,.d (D.int .i64 m)),
  (.tmp 5,.d (.int .i64 i))]
def climbs_K0 : List Key := [.tmp 0,.tmp 1,.tmp 5]
theorem atB_0_on (xs : List Int) (v : Int) (i : Nat) :
  runK (mk PR (lookN types) glob 19) [(9,true),(17,false)] [] [] (Code.at [1,0,1,0,0] (body Tryd.f46)) (atB_S0 xs v i) atB_K0 =
   some ([decide ((i : Int) < ((List.length xs : Nat) : Int)) = true,(0 : Int) ≤ (i : Int) ∧ (i : Int) < ((List.length xs : Nat) : Int),0 + 1 ≤ 1,(List.getD xs (Int.toNat ((i : Int))) (E.z E.int) == v) = false,inI64 ((i : Int) + (1 : Int))],Ex.normal,[(.tmp 0,.d (D.sl false E.int xs)),(.tmp 1,.d (D.int .i64 v)),(.tmp 5,.d (D.int .i64 ((i : Int) + (1 : Int))))]) := by kernel_rfl
theorem atB_0_hit (xs : List Int) (v : Int) (i : Nat) :
  runK (mk PR (lookN types) glob 19) [(9,true),(17,true)] [] [] (Code.at [1,0,1,0,0] (body Tryd.f46)) (atB_S0 xs v i) [.tmp 0,.tmp 1,.tmp 5,.tmp 4] =
   some ([decide ((i : Int) < ((List.length xs : Nat) : Int)) = true,(0 : Int) ≤ (i : Int) ∧ (i : Int) < ((List.length xs : Nat) : Int),0 + 1 ≤ 1,(List.getD xs (Int.toNat ((i : Int))) (E.z E.int) == v) = true],Ex.ret,[(.tmp 0,.d (D.sl false E.int xs)),(.tmp 1,.d (D.int .i64 v)),(.tmp 5,.d (D.int .i64 ((i : Int)))),(.tmp 4,.d (D.int .i64 ((i : Int))))]) := by kernel_rfl
theorem atB_0_end (xs : List Int) (v : Int) (i : Nat) :
  runK (mk PR (lookN types) glob 19) [(9,false)] [] [] (Code.at [1,0,1,0,0] (body Tryd.f46)) (atB_S0 xs v i) atB_K0 =
   some ([decide ((i : Int) < ((List.length xs : Nat) : Int)) = false],Ex.exit 0,[(.tmp 0,.d (D.sl false E.int xs)),(.tmp 1,.d (D.int .i64 v)),(.tmp 5,.d (D.int .i64 ((i : Int))))]) := by kernel_rfl
theorem climbs_0_on0 (xs : List Int) (m : Int) (i : Nat) :
  runK (mk PR (lookN types) glob 36) [(9,true),(23,false)] [(18,.bool true)] [] (Code.at [1,0,1,0,0] (body Tryd.f52)) (climbs_S0 xs m i) climbs_K0 =
   some ([decide ((i : Int) < ((List.length xs : Nat) : Int)) = true,(0 : Int) ≤ (i : Int) ∧ (i : Int) < ((List.length xs : Nat) : Int),0 + 1 ≤ 1,inI64 (m - (1 : Int)),Contract PR glob 50 [D.int .i64 (List.getD xs (Int.toNat ((i : Int))) (E.z E.int)),D.int .i64 0,D.int .i64 (m - (1 : Int))] (D.bool true),decide ((i : Int) > (0 : Int)) = false,decide ((i : Int) > (0 : Int)) = false,decide ((i : Int) > (0 : Int)) = false,decide ((i : Int) > (0 : Int)) = false,decide ((i : Int) > (0 : Int)) = false,decide ((i : Int) > (0 : Int)) = false,decide ((i : Int) > (0 : Int)) = false,decide ((i : Int) > (0 : Int)) = false,decide ((i : Int) > (0 : Int)) = false,decide ((i : Int) > (0 : Int)) = false,decide ((i : Int) > (0 : Int)) = false,inI64 ((i : Int) + (1 : Int))],Ex.normal,[(.tmp 0,.d (D.sl false E.int xs)),(.tmp 1,.d (D.int .i64 m)),(.tmp 5,.d (D.int .i64 ((i : Int) + (1 : Int))))]) := by kernel_rfl
theorem climbs_0_on1 (xs : List Int) (m : Int) (i : Nat) :
  runK (mk PR (lookN types) glob 36) [(9,true),(23,true),(35,false)] [(18,.bool true)] [] (Code.at [1,0,1,0,0] (body Tryd.f52)) (climbs_S0 xs m i) climbs_K0 =
   some ([decide ((i : Int) < ((List.length xs : Nat) : Int)) = true,(0 : Int) ≤ (i : Int) ∧ (i : Int) < ((List.length xs : Nat) : Int),0 + 1 ≤ 1,inI64 (m - (1 : Int)),Contract PR glob 50 [D.int .i64 (List.getD xs (Int.toNat ((i : Int))) (E.z E.int)),D.int .i64 0,D.int .i64 (m - (1 : Int))] (D.bool true),decide ((i : Int) > (0 : Int)) = true,decide ((i : Int) > (0 : Int)) = true,decide ((i : Int) > (0 : Int)) = true,(0 : Int) ≤ (i : Int) ∧ (i : Int) < ((List.length xs : Nat) : Int),decide ((i : Int) > (0 : Int)) = true,0 + 1 ≤ 1,decide ((i : Int) > (0 : Int)) = true,decide ((i : Int) > (0 : Int)) = true,decide ((i : Int) > (0 : Int)) = true,inI64 ((i : Int) - (1 : Int)),decide ((i : Int) > (0 : Int)) = true,(0 : Int) ≤ (i : Int) - (1 : Int) ∧ (i : Int) - (1 : Int) < ((List.length xs : Nat) : Int),decide ((i : Int) > (0 : Int)) = true,0 + 1 ≤ 1,decide ((i : Int) > (0 : Int)) = true,decide ((i : Int) > (0 : Int)) = true,decide (List.getD xs (Int.toNat ((i : Int))) (E.z E.int) ≤ List.getD xs (Int.toNat ((i : Int) - (1 : Int))) (E.z E.int)) = false,inI64 ((i : Int) + (1 : Int))],Ex.normal,[(.tmp 0,.d (D.sl false E.int xs)),(.tmp 1,.d (D.int .i64 m)),(.tmp 5,.d (D.int .i64 ((i : Int) + (1 : Int))))]) := by kernel_rfl
theorem climbs_0_out (xs : List Int) (m : Int) (i : Nat) :
  runK (mk PR (lookN types) glob 36) [(9,true)] [(18,.bool false)] [] (Code.at [1,0,1,0,0] (body Tryd.f52)) (climbs_S0 xs m i) [.tmp 0,.tmp 1,.tmp 5,.tmp 4] =
   some ([decide ((i : Int) < ((List.length xs : Nat) : Int)) = true,(0 : Int) ≤ (i : Int) ∧ (i : Int) < ((List.length xs : Nat) : Int),0 + 1 ≤ 1,inI64 (m - (1 : Int)),Contract PR glob 50 [D.int .i64 (List.getD xs (Int.toNat ((i : Int))) (E.z E.int)),D.int .i64 0,D.int .i64 (m - (1 : Int))] (D.bool false)],Ex.ret,[(.tmp 0,.d (D.sl false E.int xs)),(.tmp 1,.d (D.int .i64 m)),(.tmp 5,.d (D.int .i64 ((i : Int)))),(.tmp 4,.d (D.bool false))]) := by kernel_rfl
theorem climbs_0_low (xs : List Int) (m : Int) (i : Nat) :
  runK (mk PR (lookN types) glob 36) [(9,true),(23,true),(35,true)] [(18,.bool true)] [] (Code.at [1,0,1,0,0] (body Tryd.f52)) (climbs_S0 xs m i) [.tmp 0,.tmp 1,.tmp 5,.tmp 4] =
   some ([decide ((i : Int) < ((List.length xs : Nat) : Int)) = true,(0 : Int) ≤ (i : Int) ∧ (i : Int) < ((List.length xs : Nat) : Int),0 + 1 ≤ 1,inI64 (m - (1 : Int)),Contract PR glob 50 [D.int .i64 (List.getD xs (Int.toNat ((i : Int))) (E.z E.int)),D.int .i64 0,D.int .i64 (m - (1 : Int))] (D.bool true),decide ((i : Int) > (0 : Int)) = true,decide ((i : Int) > (0 : Int)) = true,decide ((i : Int) > (0 : Int)) = true,(0 : Int) ≤ (i : Int) ∧ (i : Int) < ((List.length xs : Nat) : Int),decide ((i : Int) > (0 : Int)) = true,0 + 1 ≤ 1,decide ((i : Int) > (0 : Int)) = true,decide ((i : Int) > (0 : Int)) = true,decide ((i : Int) > (0 : Int)) = true,inI64 ((i : Int) - (1 : Int)),decide ((i : Int) > (0 : Int)) = true,(0 : Int) ≤ (i : Int) - (1 : Int) ∧ (i : Int) - (1 : Int) < ((List.length xs : Nat) : Int),decide ((i : Int) > (0 : Int)) = true,0 + 1 ≤ 1,decide ((i : Int) > (0 : Int)) = true,decide ((i : Int) > (0 : Int)) = true,decide (List.getD xs (Int.toNat ((i : Int))) (E.z E.int) ≤ List.getD xs (Int.toNat ((i : Int) - (1 : Int))) (E.z E.int)) = true],Ex.ret,[(.tmp 0,.d (D.sl false E.int xs)),(.tmp 1,.d (D.int .i64 m)),(.tmp 5,.d (D.int .i64 ((i : Int)))),(.tmp 4,.d (D.bool false))]) := by kernel_rfl
theorem climbs_0_end (xs : List Int) (m : Int) (i : Nat) :
  runK (mk PR (lookN types) glob 36) [(9,false)] [] [] (Code.at [1,0,1,0,0] (body Tryd.f52)) (climbs_S0 xs m i) climbs_K0 =
   some ([decide ((i : Int) < ((List.length xs : Nat) : Int)) = false],Ex.exit 0,[(.tmp 0,.d (D.sl false E.int xs)),(.tmp 1,.d (D.int .i64 m)),(.tmp 5,.d (D.int .i64 ((i : Int))))]) := by kernel_rfl
def atB_T0_hit (xs : List Int) (v : Int) (i : Nat)  : List (Key × Val) :=
 [(.tmp 0,.d (D.sl false E.int xs)),(.tmp 1,.d (D.int .i64 v)),(.tmp 5,.d (D.int .i64 ((i : Int)))),(.tmp 4,.d (D.int .i64 ((i : Int))))]
def climbs_T0_out (xs : List Int) (m : Int) (i : Nat)  : List (Key × Val) :=
 [(.tmp 0,.d (D.sl false E.int xs)),(.tmp 1,.d (D.int .i64 m)),(.tmp 5,.d (D.int .i64 ((i : Int)))),(.tmp 4,.d (D.bool false))]
def climbs_T0_low (xs : List Int) (m : Int) (i : Nat)  : List (Key × Val) :=
 [(.tmp 0,.d (D.sl false E.int xs)),(.tmp 1,.d (D.int .i64 m)),(.tmp 5,.d (D.int .i64 ((i : Int)))),(.tmp 4,.d (D.bool false))]
theorem rangeB_all (a c : Int) :
  callF (mk PR (lookN types) glob 8) [] [] [] (body Tryd.f61) [.cell 4 51] [.int .i64 a,.int .i64 c] =
   some ([0 + 2 ≤ 2],D.agg [D.int .i64 a,D.int .i64 c]) := by kernel_rfl
theorem inside_no (n lo hi : Int) :
  callF (mk PR (lookN types) glob 15) [(10,false)] [] [] (body Tryd.f50) [.tmp 6] [.int .i64 n,.int .i64 lo,.int .i64 hi] =
   some ([decide (n ≥ lo) = false,decide (n ≥ lo) = false,decide (n ≥ lo) = false,decide (n ≥ lo) = false],D.bool false) := by kernel_rfl
theorem inside_yes (n lo hi : Int) :
  callF (mk PR (lookN types) glob 15) [(10,true)] [] [] (body Tryd.f50) [.tmp 6] [.int .i64 n,.int .i64 lo,.int .i64 hi] =
   some ([decide (n ≥ lo) = true,decide (n ≥ lo) = true,decide (n ≥ lo) = true,decide (n ≥ lo) = true],D.bool (decide (n ≤ hi))) := by kernel_rfl
theorem validB_a (s : Span) (lo hi : Int) :
  callF (mk PR (lookN types) glob 24) [(11,false)] [] [] (body Tryd.f117) [.tmp 6] [spD s,.int .i64 lo,.int .i64 hi] =
   some ([0 + 0 + 1 ≤ 2,decide (Span.lo s ≥ lo) = false,decide (Span.lo s ≥ lo) = false,decide (Span.lo s ≥ lo) = false,decide (Span.lo s ≥ lo) = false,decide (Span.lo s ≥ lo) = false,decide (Span.lo s ≥ lo) = false],D.bool false) := by kernel_rfl
theorem validB_b (s : Span) (lo hi : Int) :
  callF (mk PR (lookN types) glob 24) [(11,true),(18,false)] [] [] (body Tryd.f117) [.tmp 6] [spD s,.int .i64 lo,.int .i64 hi] =
   some ([0 + 0 + 1 ≤ 2,decide (Span.lo s ≥ lo) = true,decide (Span.lo s ≥ lo) = true,0 + 0 + 1 ≤ 2,decide (Span.lo s ≥ lo) = true,decide (Span.lo s ≥ lo) = true,0 + 1 + 1 ≤ 2,decide (Span.lo s ≥ lo) = true,decide (Span.lo s ≥ lo) = true,decide (Span.lo s ≤ Span.hi s) = false,decide (Span.lo s ≤ Span.hi s) = false,decide (Span.lo s ≤ Span.hi s) = false,decide (Span.lo s ≤ Span.hi s) = false,decide (Span.lo s ≤ Span.hi s) = false],D.bool false) := by kernel_rfl
theorem validB_c (s : Span) (lo hi : Int) :
  callF (mk PR (lookN types) glob 24) [(11,true),(18,true)] [] [] (body Tryd.f117) [.tmp 6] [spD s,.int .i64 lo,.int .i64 hi] =
   some ([0 + 0 + 1 ≤ 2,decide (Span.lo s ≥ lo) = true,decide (Span.lo s ≥ lo) = true,0 + 0 + 1 ≤ 2,decide (Span.lo s ≥ lo) = true,decide (Span.lo s ≥ lo) = true,0 + 1 + 1 ≤ 2,decide (Span.lo s ≥ lo) = true,decide (Span.lo s ≥ lo) = true,decide (Span.lo s ≤ Span.hi s) = true,decide (Span.lo s ≤ Span.hi s) = true,0 + 1 + 1 ≤ 2,decide (Span.lo s ≤ Span.hi s) = true,decide (Span.lo s ≤ Span.hi s) = true,decide (Span.lo s ≤ Span.hi s) = true],D.bool (decide (Span.hi s ≤ hi))) := by kernel_rfl
theorem modB_zero (n m : Int) :
  callF (mk PR (lookN types) glob 17) [(7,true)] [] [] (body Tryd.f39) [.tmp 4] [.int .i64 n,.int .i64 m] =
   some ([decide (m ≤ (0 : Int)) = true],D.int .i64 0) := by kernel_rfl
theorem modB_neg (n m : Int) :
  callF (mk PR (lookN types) glob 17) [(7,false),(12,true)] [] [] (body Tryd.f39) [.tmp 4] [.int .i64 n,.int .i64 m] =
   some ([decide (m ≤ (0 : Int)) = false,m ≠ (0 : Int),decide (Int.tmod n m < (0 : Int)) = true,inI64 (Int.tmod n m + m)],D.int .i64 (Int.tmod n m + m)) := by kernel_rfl
theorem modB_pos (n m : Int) :
  callF (mk PR (lookN types) glob 17) [(7,false),(12,false)] [] [] (body Tryd.f39) [.tmp 4] [.int .i64 n,.int .i64 m] =
   some ([decide (m ≤ (0 : Int)) = false,m ≠ (0 : Int),decide (Int.tmod n m < (0 : Int)) = false],D.int .i64 (Int.tmod n m)) := by kernel_rfl
theorem atB_hit (xs : List Int) (v : Int) (i : Nat) :
  callF (mk PR (lookN types) glob 19) [] [] [(0,(atB_K0,(.ret,atB_T0_hit xs v i)))] (body Tryd.f46) [.tmp 4] [.sl false .int xs,.int .i64 v] =
   some ([LoopT PR glob 19 (Code.at [1,0,1] (body Tryd.f46)) [(.tmp 0,.d (D.sl false E.int xs)),(.tmp 1,.d (D.int .i64 v)),(.tmp 5,.d (D.int .i64 0))] Ex.ret (atB_T0_hit xs v i)],D.int .i64 ((i : Int))) := by kernel_rfl
theorem atB_end (xs : List Int) (v : Int) (i : Nat) :
  callF (mk PR (lookN types) glob 19) [] [] [(0,(atB_K0,(.normal,atB_S0 xs v i)))] (body Tryd.f46) [.tmp 4] [.sl false .int xs,.int .i64 v] =
   some ([LoopT PR glob 19 (Code.at [1,0,1] (body Tryd.f46)) [(.tmp 0,.d (D.sl false E.int xs)),(.tmp 1,.d (D.int .i64 v)),(.tmp 5,.d (D.int .i64 0))] Ex.normal (atB_S0 xs v i)],D.int .i64 (-(1 : Int))) := by kernel_rfl
theorem climbs_out (xs : List Int) (m : Int) (i : Nat) :
  callF (mk PR (lookN types) glob 36) [] [] [(0,(climbs_K0,(.ret,climbs_T0_out xs m i)))] (body Tryd.f52) [.tmp 4] [.sl false .int xs,.int .i64 m] =
   some ([LoopT PR glob 36 (Code.at [1,0,1] (body Tryd.f52)) [(.tmp 0,.d (D.sl false E.int xs)),(.tmp 1,.d (D.int .i64 m)),(.tmp 5,.d (D.int .i64 0))] Ex.ret (climbs_T0_out xs m i)],D.bool false) := by kernel_rfl
theorem climbs_low (xs : List Int) (m : Int) (i : Nat) :
  callF (mk PR (lookN types) glob 36) [] [] [(0,(climbs_K0,(.ret,climbs_T0_low xs m i)))] (body Tryd.f52) [.tmp 4] [.sl false .int xs,.int .i64 m] =
   some ([LoopT PR glob 36 (Code.at [1,0,1] (body Tryd.f52)) [(.tmp 0,.d (D.sl false E.int xs)),(.tmp 1,.d (D.int .i64 m)),(.tmp 5,.d (D.int .i64 0))] Ex.ret (climbs_T0_low xs m i)],D.bool false) := by kernel_rfl
theorem climbs_end (xs : List Int) (m : Int) (i : Nat) :
  callF (mk PR (lookN types) glob 36) [] [] [(0,(climbs_K0,(.normal,climbs_S0 xs m i)))] (body Tryd.f52) [.tmp 4] [.sl false .int xs,.int .i64 m] =
   some ([LoopT PR glob 36 (Code.at [1,0,1] (body Tryd.f52)) [(.tmp 0,.d (D.sl false E.int xs)),(.tmp 1,.d (D.int .i64 m)),(.tmp 5,.d (D.int .i64 0))] Ex.normal (climbs_S0 xs m i)],D.bool true) := by kernel_rfl
end Go.Di

