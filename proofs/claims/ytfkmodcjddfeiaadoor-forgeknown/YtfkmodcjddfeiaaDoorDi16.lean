/- Part 16: an interpreter over plain data for this code, with the proof that it says what the model does, and the contracts of the functions. No condition. -/
import Derived.Test.YtfkmodcjddfeiaaDoorDi15
set_option linter.unusedVariables false
set_option linter.unusedSimpArgs false
namespace Go.Di
open Proofs
open Go.RowKit

theorem Contract.toArgs {P : Program} {glob : Nat → Option (List D)} {f : FuncId} {args args' : List D} {r : D} (h : Contract P glob f args r) (hr : ∀ R w vs,All2 (Rel R w) args' vs → All2 (Rel R w) args vs) : Contract P glob f args' r :=
 ⟨h.form,fun w R vs hs hg ha => h.calls w R vs hs hg (hr R w vs ha)⟩
theorem Contract.toRes {P : Program} {glob : Nat → Option (List D)} {f : FuncId} {args : List D} {r r' : D} (h : Contract P glob f args r) (hr : ∀ R w v,Rel R w r v → Rel R w r' v) : Contract P glob f args r' :=
 ⟨h.form,fun w R vs hs hg ha => (h.calls w R vs hs hg ha).mono fun e w' ⟨v,he,hb,R',h1,h2,h3⟩ => ⟨v,he,hb,R',h1,h2,hr _ _ _ h3⟩⟩

theorem nil_trc {R : Foot} {w : World} {b : Book} {m : D} {v : Value} (h : Rel R w (.agg (bkC b m .nil)) v) : Rel R w (.agg (bkC b m (.sl false .trc []))) v := by
 obtain ⟨vs,hv,h⟩ := h
 have hlen : (bkC b m (.sl false .trc [])).length = vs.toList.length := by have := All2.length h; exact this
 refine ⟨vs,hv,All2.of_get hlen fun i d u hd hu => ?_⟩
 have hi : i < 7 := (List.getElem?_eq_some_iff.1 hd).1
 by_cases h6 : i = 6
 ·subst h6
  cases hd
  obtain ⟨u',hu',hr⟩ := All2.get h 6 .nil rfl
  rw [hu] at hu'
  cases hu'
  have hr : u = .slice none 0 0 := hr
  rw [hr]
  exact sl_nil _ _ _ _ _
 ·have hd' : (bkC b m .nil)[i]? = some d := by
   match i,hi,h6,hd with
   | 0,_,_,hd => exact hd
   | 1,_,_,hd => exact hd
   | 2,_,_,hd => exact hd
   | 3,_,_,hd => exact hd
   | 4,_,_,hd => exact hd
   | 5,_,_,hd => exact hd
   | n + 6,hi,h6,_ => omega
  obtain ⟨u',hu',hr⟩ := All2.get h i d hd'
  rw [hu] at hu'
  cases hu'
  exact hr

theorem getD_mem {α : Type} (l : List α) (i : Nat) (d : α) (h : i < l.length) : l.getD i d ∈ l := by
 rw [List.getD_eq_getElem?_getD,List.getElem?_eq_getElem h]
 exact List.getElem_mem h

/-- All surveys of a place and a day,together. -/
def openStep (but : List Int) (l : List Ent) (i : Nat) (y : Sv) : List Ent :=
 if (i : Int) ∈ but then l else updK l (y.s,y.d) (match lookK l (y.s,y.d) with
  | some old => bothF old ⟨y.r - y.e,y.r + y.e⟩
  | none => ⟨y.r - y.e,y.r + y.e⟩)
def openTo (b : Book) (but : List Int) : Nat → List Ent
 | 0 => [((-1,-1),⟨0,0⟩)]
 | k + 1 => openStep but (openTo b but k) k (svZ b k)
def openF (b : Book) (but : List Int) : List Ent := openTo b but b.svs.length

theorem plain72 : Cfg.plain (mk PR (lookN types) glob 72) := ⟨fun _ h => h,fun _ h => h,rfl⟩

structure SvOk (y : Sv) : Prop where
 d : y.d ≤ 1000
 r : -100000 ≤ y.r ∧ y.r ≤ 100000
 e : -100000 ≤ y.e ∧ y.e ≤ 100000

theorem opened_loop (b : Book) (but : List Int) (hb : but.length ≤ 100000) (hs : b.svs.length ≤ 100000) (hsv : ∀ y ∈ b.svs,SvOk y) :
  WpL PR (mk PR (lookN types) glob 72) (.block 0 (.loop (Code.at [1,1,0,1,0,0] (body Tryd.f119)))) (opS b but (openTo b but 0) 0) (fun e L' => e = .normal ∧ L' = opE b (openF b but)) := by
 have hcon := fun (v : Int) => contains_con but v (by omega)
 refine WpL.block (WpL.loop (S := fun i : {i : Nat // i ≤ b.svs.length} => opS b but (openTo b but i.1) i.1) (fun i => b.svs.length - i.1) ?_ ⟨0,Nat.zero_le _⟩)
 rintro ⟨i,hi⟩
 dsimp only
 by_cases hlt : i < b.svs.length
 ·have hy : SvOk (svZ b i) := hsv _ (getD_mem _ _ _ hlt)
  obtain ⟨_,⟨r1,r2⟩,⟨e1,e2⟩⟩ := hy
  have hgo : WpL PR (mk PR (lookN types) glob 72) (Code.at [1,1,0,1,0,0] (body Tryd.f119)) (opS b but (openTo b but i) i) (fun e L' => e = .normal ∧ L' = opS b but (openTo b but (i + 1)) (i + 1)) := by
   have hst : openTo b but (i + 1) = openStep but (openTo b but i) i (svZ b i) := rfl
   rw [hst]
   unfold openStep
   have hc := hcon i
   by_cases hm : (i : Int) ∈ but
   ·rw [decide_eq_true hm] at hc
    rw [if_pos hm]
    exact WpL.path (G 72) (op_skip b but _ i) ⟨decide_eq_true (by omega),⟨by omega,by omega⟩,by omega,hc,rfl,by simp only [inI64]; omega,trivial⟩ ⟨rfl,rfl⟩
   ·rw [decide_eq_false hm] at hc
    rw [if_neg hm]
    cases hl : lookK (openTo b but i) ((svZ b i).s,(svZ b i).d) with
    | none =>
     exact WpL.path (G 72) (op_new b but _ i) ⟨decide_eq_true (by omega),⟨by omega,by omega⟩,by omega,hc,by omega,by omega,by omega,by omega,by simp only [inI64]; omega,by omega,by omega,by simp only [inI64]; omega,by omega,by rw [hl]; rfl,by omega,by omega,plain72,by simp only [inI64]; omega,trivial⟩ ⟨rfl,rfl⟩
    | some old =>
     have hbo := both_con old ⟨(svZ b i).r - (svZ b i).e,(svZ b i).r + (svZ b i).e⟩
     exact WpL.path (G 72) (op_old b but _ i (bothF old ⟨(svZ b i).r - (svZ b i).e,(svZ b i).r + (svZ b i).e⟩)) ⟨decide_eq_true (by omega),⟨by omega,by omega⟩,by omega,hc,by omega,by omega,by omega,by omega,by simp only [inI64]; omega,by omega,by omega,by simp only [inI64]; omega,by omega,by rw [hl]; rfl,by omega,by omega,by rw [hl]; exact hbo,by omega,by omega,plain72,by simp only [inI64]; omega,trivial⟩ ⟨rfl,rfl⟩
  refine hgo.mono fun e L' hL => ?_
  obtain ⟨rfl,rfl⟩ := hL
  exact ⟨⟨i + 1,hlt⟩,rfl,by dsimp only; omega⟩
 ·have hie : i = b.svs.length := by omega
  refine WpL.path (G 72) (op_end b but _ i) ⟨decide_eq_false (by omega),trivial⟩ ?_
  show (if 0 = 0 then _ else _)
  rw [if_pos rfl]
  exact ⟨rfl,by rw [hie]; rfl⟩

theorem mx_in {a b lo hi : Int} (ha : lo ≤ a ∧ a ≤ hi) (hb : lo ≤ b ∧ b ≤ hi) : lo ≤ mx a b ∧ mx a b ≤ hi := by unfold mx; split <;> omega
theorem mn_in {a b lo hi : Int} (ha : lo ≤ a ∧ a ≤ hi) (hb : lo ≤ b ∧ b ≤ hi) : lo ≤ mn a b ∧ mn a b ≤ hi := by unfold mn; split <;> omega
theorem updK_ok {p : Ent → Prop} : ∀ {l : List Ent} {k : K2} {v : Span},(∀ e ∈ l,p e) → p (k,v) → ∀ e ∈ updK l k v,p e
 | [],k,v,_,h => by simpa [updK] using h
 | (k',u) :: l,k,v,hl,h => by
  intro e he
  simp only [updK] at he
  split at he
  ·rcases List.mem_cons.1 he with rfl | he
   ·exact h
   ·exact hl e (by simp [he])
  ·rcases List.mem_cons.1 he with rfl | he
   ·exact hl _ (by simp)
   ·exact updK_ok (fun e he => hl e (by simp [he])) h e he
theorem lookK_ok {p : Ent → Prop} : ∀ {l : List Ent} {k : K2} {v : Span},(∀ e ∈ l,p e) → lookK l k = some v → p (k,v)
 | (k',u) :: l,k,v,hl,h => by
  simp only [lookK] at h
  split at h
  ·rename_i hk
   cases h
   subst hk
   exact hl _ (by simp)
  ·exact lookK_ok (fun e he => hl e (by simp [he])) h
theorem openTo_ok (b : Book) (but : List Int) (hsv : ∀ y ∈ b.svs,SvOk y) : ∀ k,k ≤ b.svs.length → ∀ e ∈ openTo b but k,EntOk e
 | 0,_ => by
  intro e he
  simp only [openTo,List.mem_singleton] at he
  subst he
  exact ⟨by decide,by decide,by decide⟩
 | k + 1,hk => by
  have ih := openTo_ok b but hsv k (by omega)
  have hy : SvOk (svZ b k) := hsv _ (getD_mem _ _ _ hk)
  obtain ⟨d1,⟨r1,r2⟩,⟨e1,e2⟩⟩ := hy
  show ∀ e ∈ openStep but (openTo b but k) k (svZ b k),EntOk e
  unfold openStep
  split
  ·exact ih
  ·refine updK_ok ih ?_
   split
   ·rename_i old hold
    obtain ⟨_,o1,o2⟩ := lookK_ok ih hold
    refine ⟨d1,?_,?_⟩
    ·exact mx_in o1 (by dsimp only; omega)
    ·exact mn_in o2 (by dsimp only; omega)
   ·exact ⟨d1,by dsimp only; omega,by dsimp only; omega⟩

/-- What is asked of a book. -/
structure BookOk (b : Book) : Prop where
 secs : b.secs.length ≤ 4
 turns : b.turns.length ≤ 1000
 svs : b.svs.length ≤ 100000
 sv : ∀ y ∈ b.svs,SvOk y
 wear : ∀ p < b.secs.length,0 ≤ (b.secs.getD p sec0).w.lo ∧ -1 ≤ (b.secs.getD p sec0).w.hi ∧ (b.secs.getD p sec0).w.hi ≤ 1000
def truthsF (b : Book) (but : List Int) : List TrC := wholeGo b (openF b but) b.secs.length 0 ⟨0,0,0,0⟩

theorem opened_con (b : Book) (hb : BookOk b) (but : List Int) (hbut : but.length ≤ 100000) (hlen : (truthsF b but).length ≤ 1000000) : Contract PR glob 119 [bookD b,.sl false .int but] (bkD b (.spot (openF b but)) (truthsF b but)) := by
 have hent := openTo_ok b but hb.sv b.svs.length (Nat.le_refl _)
 have hwh : Contract PR glob 167 [.agg (bkC b (.map (.spot (openF b but))) .nil)] (opW b (openF b but)) := (whole_con b (.spot (openF b but)) []).toArgs fun R w vs h => by
  obtain ⟨v,l,rfl,h1,h2⟩ := all2_cons h
  exact ⟨nil_trc h1,h2⟩
 have hcode : body Tryd.f119 = .seq (Code.at [0] (body Tryd.f119)) (.seq (Code.at [1,0] (body Tryd.f119)) (.seq (.seq (Code.at [1,1,0,0] (body Tryd.f119)) (.block 0 (.loop (Code.at [1,1,0,1,0,0] (body Tryd.f119)))))
  (.seq (.seq (Code.at [1,1,1,0,0] (body Tryd.f119)) (.block 2 (.rangeFunc (.tmp 63) #[64] (Code.at [1,1,1,0,1,0,0] (body Tryd.f119)) (Code.at [1,1,1,0,1,0,1] (body Tryd.f119))))) (Code.at [1,1,1,1] (body Tryd.f119))))) := by kernel_rfl
 -- up to the loop over all truths
 have hpre : WpL PR (mk PR (lookN types) glob 72) (.seq (Code.at [1,1,0,0] (body Tryd.f119)) (.block 0 (.loop (Code.at [1,1,0,1,0,0] (body Tryd.f119))))) (opB b but) (fun e L' => e = .normal ∧ L' = opE b (openF b but)) :=
  WpL.seq (WpL.path (G 72) (op_2 b but) trivial (opened_loop b but hbut hb.svs hb.sv))
 have hstart : WpL PR (mk PR (lookN types) glob 72) (Code.at [1,1,1,0,0] (body Tryd.f119)) (opE b (openF b but)) (fun e L' => e = .normal ∧ L' = (.tmp 63,.d (opW b (openF b but))) :: opR b (openF b but) []) :=
  WpL.tell (fun _ h => h) (j := 14) (m := .spot (openF b but)) rfl (WpL.path (G 72) (op_12 b (openF b but)) ⟨hwh,trivial⟩ ⟨rfl,rfl⟩)
 have hgoal : ∀ (r : D),(∀ (ke : Nat → Prop) (w1 : World) (ds : List Deferred),WpL PR (mkE PR (lookN types) glob 72 ke w1 ds) (Code.at [1,1,1,1] (body Tryd.f119)) (opR b (openF b but) (truthsF b but)) (fun e L' => e = .ret ∧ ∃ ps,fin (mkE PR (lookN types) glob 72 ke w1 ds) [.cell 4 129] (ofL L') = some (ps,r) ∧ allP ps)) →
   Contract PR glob 119 [bookD b,.sl false .int but] r := by
  intro r hend
  refine contract_of_marks types_ok op_fn ?_
  intro w0 R0 a Q hH hQ
  rw [hcode]
  refine wpIn_seq (WpL.path (G 72) (op_0 b but) trivial (Post := fun e L' => e = .normal ∧ L' = opA b but) ⟨rfl,rfl⟩ w0 R0 a w0 _ none 1 (fun _ => rfl) hH fun e L' a1 W1 hp hH1 => ?_)
  obtain ⟨rfl,rfl⟩ := hp
  show Code.wpIn _ _ _ _ _ _ _
  refine wpIn_seq (WpL.path (G 72) (op_1 b but) ⟨plain72,by omega,plain72,trivial⟩ (Post := fun e L' => e = .normal ∧ L' = opB b but) ⟨rfl,rfl⟩ w0 R0 a1 W1 _ none 1 (fun _ => rfl) hH1 fun e L' a2 W2 hp hH2 => ?_)
  obtain ⟨rfl,rfl⟩ := hp
  show Code.wpIn _ _ _ _ _ _ _
  refine wpIn_seq (hpre w0 R0 a2 W2 _ none 1 (fun _ => rfl) hH2 fun e L' a3 W3 hp hH3 => ?_)
  obtain ⟨rfl,rfl⟩ := hp
  show Code.wpIn _ _ _ _ _ _ _
  refine wpIn_seq (wpIn_seq (hstart w0 R0 a3 W3 _ none 1 (fun _ => rfl) hH3 fun e L' a4 W4 hp hH4 => ?_))
  obtain ⟨rfl,rfl⟩ := hp
  show Code.wpIn _ _ _ _ _ _ _
  refine range_frame (tt := lookN types) (glob := glob) (n := 72) (gf := 192) (caps := [cellsOf (bkD b (.spot (openF b but)) [])]) (Told := fun _ => ToldT) (xs := truthsF b but) (S := opR b (openF b but)) (S1 := opR1 b (openF b but)) (fx := [4,5]) (dx := trD) (L := (.tmp 63,.d (opW b (openF b but))) :: opR b (openF b but) []) (ks := opRK0)
   ?_ ⟨Tryd.f192,by kernel_rfl,by kernel_rfl,by kernel_rfl⟩ ?_ (by decide) (by decide) ?_ ?_ ?_ ?_ rfl (by kernel_rfl) (by kernel_rfl) (fun k => by rfl) ?_ hH4 ?_
  ·intro KE R w lb h1 h2 h3 h4
   obtain ⟨p1,m,e1,h5,h6⟩ := all2_cons h4
   obtain rfl := all2_nil h6
   have hlb : lb = #[p1] := by rw [← Array.toArray_toList (xs := lb),e1]
   subst hlb
   obtain ⟨bb,oo,hp,hr⟩ := h5
   refine whole_seq (ts := []) hb.secs hb.turns hent hb.wear h1 h2 ⟨bb,oo,by rw [hp]; simp,fun j d hd => ?_⟩ h3
   obtain ⟨u,q1,q2,q3⟩ := hr j d hd
   exact ⟨u,RelC.of0 q1,q2,q3⟩
  ·rintro R T x vs W rfl
   exact ⟨trV x,fun _ _ => False,rfl,fun _ _ h => h.elim,⟨_,rfl,rfl,rfl,rfl,rfl,rfl,rfl,rfl,rfl,rfl,rfl,rfl,rfl,trivial⟩⟩
  ·intro pre i hi
   cases pre with
   | nil => exact tmpIn_ok (fx := [4,5]) (by kernel_rfl) i hi
   | cons y r => exact tmpIn_ok (fx := [4,5]) (by kernel_rfl) i hi
  ·intro pre i
   cases pre <;> rfl
  ·rintro pre x ke no w1 fv _
   cases pre with
   | nil => exact WpL.path (goodR mixed_ok types_ok) (op_as0 b _ x ke no w1 fv) trivial ⟨rfl,rfl⟩
   | cons y r => exact WpL.path (goodR mixed_ok types_ok) (op_as1 b _ y r x ke no w1 fv) trivial ⟨rfl,rfl⟩
  ·rintro pre x ke no w1 fv ⟨post,hpost⟩
   have hl : pre.length + 1 ≤ 1000000 := by
    have := congrArg List.length hpost
    simp at this
    omega
   cases pre with
   | nil => exact WpL.path (goodR mixed_ok types_ok) (op_bd0 b _ x ke no w1 fv) ⟨by omega,by decide,rfl,trivial⟩ ⟨rfl,rfl⟩
   | cons y r => exact WpL.path (goodR mixed_ok types_ok) (op_bd1 b _ y r x ke no w1 fv) ⟨by omega,rfl,by simp at hl ⊢; omega,rfl,trivial⟩ ⟨rfl,rfl⟩
  ·exact freeIn_ok (by kernel_rfl)
  ·intro D a5 W5 hD hH5 hWD
   show Code.wpIn _ _ _ _ _ _ _
   refine hend _ _ _ w0 R0 a5 W5 _ none 1 (fun _ => rfl) hH5 fun e L' a6 W6 hp hH6 => ?_
   obtain ⟨rfl,hfin⟩ := hp
   exact hQ D a6 W6 W5 _ L' hD hH6 hWD hfin (.inr rfl)
 cases ht : truthsF b but with
 | nil =>
  refine (hgoal (.agg (bkC b (.map (.spot (openF b but))) .nil)) ?_).toRes fun R w v h => nil_trc h
  intro ke w1 ds
  rw [ht]
  exact WpL.path (goodE mixed_ok types_ok) (op_150 b _ ke w1 ds) trivial ⟨rfl,[],by kernel_rfl,trivial⟩
 | cons y r =>
  refine hgoal _ ?_
  intro ke w1 ds
  rw [ht]
  exact WpL.path (goodE mixed_ok types_ok) (op_151 b _ y r ke w1 ds) ⟨rfl,trivial⟩ ⟨rfl,[(y :: r).length = (y :: r).length],by kernel_rfl,⟨rfl,trivial⟩⟩
end Go.Di

namespace Go.Di
open Proofs
theorem asked_fn : FnOk PR (mk PR (lookN types) glob 25) 121 (body Tryd.f121) [.cell 4 129,.tmp 5] := by refine ⟨Tryd.f121,?_,?_,?_,?_,?_⟩ <;> kernel_rfl
theorem right__fn : FnOk PR (mk PR (lookN types) glob 15) 37 (body Tryd.f37) [.tmp 2,.tmp 3] := by refine ⟨Tryd.f37,?_,?_,?_,?_,?_⟩ <;> kernel_rfl
theorem thickA_fn : FnOk PR (mk PR (lookN types) glob 33) 41 (body Tryd.f41) [.cell 6 51,.tmp 7] := by refine ⟨Tryd.f41,?_,?_,?_,?_,?_⟩ <;> kernel_rfl
theorem wear1_fn : FnOk PR (mk PR (lookN types) glob 13) 126 (body Tryd.f126) [.cell 3 51] := by refine ⟨Tryd.f126,?_,?_,?_,?_,?_⟩ <;> kernel_rfl
theorem wearA_fn : FnOk PR (mk PR (lookN types) glob 23) 42 (body Tryd.f42) [.cell 4 51,.tmp 5] := by refine ⟨Tryd.f42,?_,?_,?_,?_,?_⟩ <;> kernel_rfl
theorem asked_bad (b : Book) (is : Bool) (e : Int) :
  callF (mk PR (lookN types) glob 25) [(11,true)] [(9,.int .i64 e)] [] (body Tryd.f121) [.cell 4 129,.tmp 5] [bookD b,.bool is] =
   some ([Contract PR glob 64 [D.agg (bkCells b)] (D.int .i64 e),(e != (0 : Int)) = true],D.tup [D.agg [D.nil,D.nil,D.nil,D.int .i64 0,D.int .i64 0,D.nilmap,D.nil],D.int .i64 e]) := by kernel_rfl
theorem asked_ask (b : Book) (is : Bool) (e : Int) :
  callF (mk PR (lookN types) glob 25) [(11,false),(15,true)] [(9,.int .i64 e)] [] (body Tryd.f121) [.cell 4 129,.tmp 5] [bookD b,.bool is] =
   some ([Contract PR glob 64 [D.agg (bkCells b)] (D.int .i64 e),(e != (0 : Int)) = false,(!is) = true],D.tup [D.agg [D.nil,D.nil,D.nil,D.int .i64 0,D.int .i64 0,D.nilmap,D.nil],D.int .i64 11]) := by kernel_rfl
theorem asked_false (b : Book) (is : Bool) (e : Int) (m : Mp) (ts : List TrC) :
  callF (mk PR (lookN types) glob 25) [(11,false),(15,false),(22,true)] [(9,.int .i64 e),(18,bkD b m ts)] [] (body Tryd.f121) [.cell 4 129,.tmp 5] [bookD b,.bool is] =
   some ([Contract PR glob 64 [D.agg (bkCells b)] (D.int .i64 e),(e != (0 : Int)) = false,(!is) = false,Contract PR glob 119 [D.agg (bkCells b),D.sl false E.int []] (D.agg [D.sl false E.sec (Book.secs b),D.sl false E.int (Book.turns b),D.sl false E.sv (Book.svs b),D.int .i64 (Book.rule b),D.int .i64 (Book.days b),D.map m,D.sl false E.trc ts]),(((List.length ts : Nat) : Int) == (0 : Int)) = true],D.tup [D.agg [D.sl false E.sec (Book.secs b),D.sl false E.int (Book.turns b),D.sl false E.sv (Book.svs b),D.int .i64 (Book.rule b),D.int .i64 (Book.days b),D.map m,D.sl false E.trc ts],D.int .i64 12]) := by kernel_rfl
theorem asked_ok (b : Book) (is : Bool) (e : Int) (m : Mp) (ts : List TrC) :
  callF (mk PR (lookN types) glob 25) [(11,false),(15,false),(22,false)] [(9,.int .i64 e),(18,bkD b m ts)] [] (body Tryd.f121) [.cell 4 129,.tmp 5] [bookD b,.bool is] =
   some ([Contract PR glob 64 [D.agg (bkCells b)] (D.int .i64 e),(e != (0 : Int)) = false,(!is) = false,Contract PR glob 119 [D.agg (bkCells b),D.sl false E.int []] (D.agg [D.sl false E.sec (Book.secs b),D.sl false E.int (Book.turns b),D.sl false E.sv (Book.svs b),D.int .i64 (Book.rule b),D.int .i64 (Book.days b),D.map m,D.sl false E.trc ts]),(((List.length ts : Nat) : Int) == (0 : Int)) = false],D.tup [D.agg [D.sl false E.sec (Book.secs b),D.sl false E.int (Book.turns b),D.sl false E.sv (Book.svs b),D.int .i64 (Book.rule b),D.int .i64 (Book.days b),D.map m,D.sl false E.trc ts],D.int .i64 0]) := by kernel_rfl
theorem right__bad (b : Book) (e : Int) :
  callF (mk PR (lookN types) glob 15) [(8,true)] [(6,.int .i64 e)] [] (body Tryd.f37) [.tmp 2,.tmp 3] [bookD b] =
   some ([Contract PR glob 64 [D.agg (bkCells b)] (D.int .i64 e),(e != (0 : Int)) = true],D.tup [D.bool false,D.int .i64 e]) := by kernel_rfl
theorem right__ok (b : Book) (e : Int) (m : Mp) (ts : List TrC) :
  callF (mk PR (lookN types) glob 15) [(8,false)] [(6,.int .i64 e),(11,bkD b m ts)] [] (body Tryd.f37) [.tmp 2,.tmp 3] [bookD b] =
   some ([Contract PR glob 64 [D.agg (bkCells b)] (D.int .i64 e),(e != (0 : Int)) = false,Contract PR glob 119 [D.agg (bkCells b),D.sl false E.int []] (D.agg [D.sl false E.sec (Book.secs b),D.sl false E.int (Book.turns b),D.sl false E.sv (Book.svs b),D.int .i64 (Book.rule b),D.int .i64 (Book.days b),D.map m,D.sl false E.trc ts])],D.tup [D.bool (decide (((List.length ts : Nat) : Int) > (0 : Int))),D.int .i64 0]) := by kernel_rfl
theorem thickA_no (b : Book) (s d : Int) (e : Int) :
  callF (mk PR (lookN types) glob 33) [(15,false),(24,true)] [(14,.bool (isSectionF b s)),(18,.bool (isDayF b d)),(20,.tup [zbookD,.int .i64 e])] [] (body Tryd.f41) [.cell 6 51,.tmp 7] [bookD b,.int .i64 s,.int .i64 d] =
   some ([Contract PR glob 124 [D.agg (bkCells b),D.int .i64 s] (D.bool (isSectionF b s)),isSectionF b s = false,isSectionF b s = false,isSectionF b s = false,isSectionF b s = false,Contract PR glob 121 [D.agg (bkCells b),D.bool false] (D.tup [D.agg [D.nil,D.nil,D.nil,D.int .i64 0,D.int .i64 0,D.nilmap,D.nil],D.int .i64 e]),(e != (0 : Int)) = true,0 + 2 ≤ 2],D.tup [D.agg [D.int .i64 0,D.int .i64 0],D.int .i64 e]) := by kernel_rfl
theorem thickA_err (b : Book) (s d : Int) (e : Int) :
  callF (mk PR (lookN types) glob 33) [(15,true),(24,true)] [(14,.bool (isSectionF b s)),(18,.bool (isDayF b d)),(20,.tup [zbookD,.int .i64 e])] [] (body Tryd.f41) [.cell 6 51,.tmp 7] [bookD b,.int .i64 s,.int .i64 d] =
   some ([Contract PR glob 124 [D.agg (bkCells b),D.int .i64 s] (D.bool (isSectionF b s)),isSectionF b s = true,isSectionF b s = true,isSectionF b s = true,Contract PR glob 122 [D.agg (bkCells b),D.int .i64 d] (D.bool (isDayF b d)),isSectionF b s = true,Contract PR glob 121 [D.agg (bkCells b),D.bool (isDayF b d)] (D.tup [D.agg [D.nil,D.nil,D.nil,D.int .i64 0,D.int .i64 0,D.nilmap,D.nil],D.int .i64 e]),(e != (0 : Int)) = true,0 + 2 ≤ 2],D.tup [D.agg [D.int .i64 0,D.int .i64 0],D.int .i64 e]) := by kernel_rfl
theorem thickA_false (b : Book) (s d : Int) (m : Mp) :
  callF (mk PR (lookN types) glob 33) [(15,true)] [(14,.bool (isSectionF b s)),(18,.bool (isDayF b d)),(20,.tup [bkD b m [],.int .i64 12])] [] (body Tryd.f41) [.cell 6 51,.tmp 7] [bookD b,.int .i64 s,.int .i64 d] =
   some ([Contract PR glob 124 [D.agg (bkCells b),D.int .i64 s] (D.bool (isSectionF b s)),isSectionF b s = true,isSectionF b s = true,isSectionF b s = true,Contract PR glob 122 [D.agg (bkCells b),D.int .i64 d] (D.bool (isDayF b d)),isSectionF b s = true,Contract PR glob 121 [D.agg (bkCells b),D.bool (isDayF b d)] (D.tup [D.agg [D.sl false E.sec (Book.secs b),D.sl false E.int (Book.turns b),D.sl false E.sv (Book.svs b),D.int .i64 (Book.rule b),D.int .i64 (Book.days b),D.map m,D.sl false E.trc []],D.int .i64 12]),0 + 2 ≤ 2],D.tup [D.agg [D.int .i64 0,D.int .i64 0],D.int .i64 12]) := by kernel_rfl
theorem thickA_ok (b : Book) (s d : Int) (m : Mp) (ts : List TrC) (o : Span) :
  callF (mk PR (lookN types) glob 33) [(15,true)] [(14,.bool (isSectionF b s)),(18,.bool (isDayF b d)),(20,.tup [bkD b m ts,.int .i64 0]),(32,spD o)] [] (body Tryd.f41) [.cell 6 51,.tmp 7] [bookD b,.int .i64 s,.int .i64 d] =
   some ([Contract PR glob 124 [D.agg (bkCells b),D.int .i64 s] (D.bool (isSectionF b s)),isSectionF b s = true,isSectionF b s = true,isSectionF b s = true,Contract PR glob 122 [D.agg (bkCells b),D.int .i64 d] (D.bool (isDayF b d)),isSectionF b s = true,Contract PR glob 121 [D.agg (bkCells b),D.bool (isDayF b d)] (D.tup [D.agg [D.sl false E.sec (Book.secs b),D.sl false E.int (Book.turns b),D.sl false E.sv (Book.svs b),D.int .i64 (Book.rule b),D.int .i64 (Book.days b),D.map m,D.sl false E.trc ts],D.int .i64 0]),Contract PR glob 123 [D.agg [D.sl false E.sec (Book.secs b),D.sl false E.int (Book.turns b),D.sl false E.sv (Book.svs b),D.int .i64 (Book.rule b),D.int .i64 (Book.days b),D.map m,D.sl false E.trc ts],D.int .i64 s,D.int .i64 d,D.sl false E.int (Book.turns b)] (D.agg [D.int .i64 (Span.lo o),D.int .i64 (Span.hi o)]),0 + 2 ≤ 2],D.tup [D.agg [D.int .i64 (Span.lo o),D.int .i64 (Span.hi o)],D.int .i64 0]) := by kernel_rfl
theorem wear1_all (x : TrC) (p : Int) :
  callF (mk PR (lookN types) glob 13) [] [] [] (body Tryd.f126) [.cell 3 51] [trD x,.ref [.int .i64 p] 0] =
   some ([0 + 1 ≤ 1,(0 : Int) ≤ p ∧ p < (Nat.cast : Nat → Int) 4,0 + 0 + Int.toNat p * 1 + 1 ≤ 12,0 + 1 ≤ 1,(0 : Int) ≤ p ∧ p < (Nat.cast : Nat → Int) 4,0 + 0 + Int.toNat p * 1 + 1 ≤ 12,0 + 2 ≤ 2],D.agg [D.int .i64 (List.getD [TrC.w0 x,TrC.w1 x,TrC.w2 x,TrC.w3 x,Span.lo (TrC.f0 x),Span.hi (TrC.f0 x),Span.lo (TrC.f1 x),Span.hi (TrC.f1 x),Span.lo (TrC.f2 x),Span.hi (TrC.f2 x),Span.lo (TrC.f3 x),Span.hi (TrC.f3 x)] (0 + 0 + Int.toNat p * 1) (0 : Int)),D.int .i64 (List.getD [TrC.w0 x,TrC.w1 x,TrC.w2 x,TrC.w3 x,Span.lo (TrC.f0 x),Span.hi (TrC.f0 x),Span.lo (TrC.f1 x),Span.hi (TrC.f1 x),Span.lo (TrC.f2 x),Span.hi (TrC.f2 x),Span.lo (TrC.f3 x),Span.hi (TrC.f3 x)] (0 + 0 + Int.toNat p * 1) (0 : Int))]) := by kernel_rfl
theorem wearA_err (b : Book) (p : Int) (e : Int) :
  callF (mk PR (lookN types) glob 23) [(17,true)] [(12,.bool (isSectionF b p)),(13,.tup [zbookD,.int .i64 e])] [] (body Tryd.f42) [.cell 4 51,.tmp 5] [bookD b,.int .i64 p] =
   some ([0 + 1 ≤ 1,Contract PR glob 124 [D.agg (bkCells b),D.int .i64 p] (D.bool (isSectionF b p)),Contract PR glob 121 [D.agg (bkCells b),D.bool (isSectionF b p)] (D.tup [D.agg [D.nil,D.nil,D.nil,D.int .i64 0,D.int .i64 0,D.nilmap,D.nil],D.int .i64 e]),(e != (0 : Int)) = true,0 + 2 ≤ 2],D.tup [D.agg [D.int .i64 0,D.int .i64 0],D.int .i64 e]) := by kernel_rfl
theorem wearA_false (b : Book) (p : Int) (m : Mp) :
  callF (mk PR (lookN types) glob 23) [] [(12,.bool (isSectionF b p)),(13,.tup [bkD b m [],.int .i64 12])] [] (body Tryd.f42) [.cell 4 51,.tmp 5] [bookD b,.int .i64 p] =
   some ([0 + 1 ≤ 1,Contract PR glob 124 [D.agg (bkCells b),D.int .i64 p] (D.bool (isSectionF b p)),Contract PR glob 121 [D.agg (bkCells b),D.bool (isSectionF b p)] (D.tup [D.agg [D.sl false E.sec (Book.secs b),D.sl false E.int (Book.turns b),D.sl false E.sv (Book.svs b),D.int .i64 (Book.rule b),D.int .i64 (Book.days b),D.map m,D.sl false E.trc []],D.int .i64 12]),0 + 2 ≤ 2],D.tup [D.agg [D.int .i64 0,D.int .i64 0],D.int .i64 12]) := by kernel_rfl
theorem wearA_ok (b : Book) (p : Int) (m : Mp) (ts : List TrC) (o : Span) :
  callF (mk PR (lookN types) glob 23) [] [(12,.bool (isSectionF b p)),(13,.tup [bkD b m ts,.int .i64 0]),(22,spD o)] [] (body Tryd.f42) [.cell 4 51,.tmp 5] [bookD b,.int .i64 p] =
   some ([0 + 1 ≤ 1,Contract PR glob 124 [D.agg (bkCells b),D.int .i64 p] (D.bool (isSectionF b p)),Contract PR glob 121 [D.agg (bkCells b),D.bool (isSectionF b p)] (D.tup [D.agg [D.sl false E.sec (Book.secs b),D.sl false E.int (Book.turns b),D.sl false E.sv (Book.svs b),D.int .i64 (Book.rule b),D.int .i64 (Book.days b),D.map m,D.sl false E.trc ts],D.int .i64 0]),Contract PR glob 125 [D.agg [D.sl false E.sec (Book.secs b),D.sl false E.int (Book.turns b),D.sl false E.sv (Book.svs b),D.int .i64 (Book.rule b),D.int .i64 (Book.days b),D.map m,D.sl false E.trc ts],D.fn 126 [] [[D.int .i64 p]]] (D.agg [D.int .i64 (Span.lo o),D.int .i64 (Span.hi o)]),0 + 2 ≤ 2],D.tup [D.agg [D.int .i64 (Span.lo o),D.int .i64 (Span.hi o)],D.int .i64 0]) := by kernel_rfl
end Go.Di

namespace Go.Di
open Proofs

/-! ### A book -/
def risesF (days : Int) (l : List Int) : Bool := (l.foldl (turnF days) (true,0)).1
structure Valid (b : Book) : Prop where
 secs : 1 ≤ b.secs.length ∧ b.secs.length ≤ 4
 days : 1 ≤ b.days ∧ b.days ≤ 30
 rule : 0 ≤ b.rule ∧ b.rule ≤ 200
 turns : b.turns.length ≤ 4
 svs : b.svs.length ≤ 8
 sec : ∀ x ∈ b.secs,SecOk x
 thick : ∀ x ∈ b.secs,mostF b.secs * b.days ≤ x.t.lo
 rises : risesF b.days b.turns = true
 sv : ∀ y ∈ b.svs,isSurveyF b y = true
theorem turns_and {days : Int} : ∀ (l : List Int) (p : Bool) (n : Int),(l.foldl (turnF days) (p,n)).1 = (p && (l.foldl (turnF days) (true,n)).1)
 | [],p,n => by simp
 | t :: l,p,n => by
  simp only [List.foldl_cons,turnF]
  rw [turns_and l,turns_and l (true && _),Bool.and_assoc,Bool.true_and]
theorem valid_iff {b : Book} : validF b = true ↔ Valid b := by
 unfold validF
 have h4 : ok4F b b.svs = ((ok3F b b.turns).1 && b.svs.all fun x => isSurveyF b x) := foldl_and _ _ _
 have h3 : (ok3F b b.turns).1 = (ok2F b b.secs && risesF b.days b.turns) := turns_and _ _ _
 rw [h4,h3,ok2_eq,Bool.and_eq_true,Bool.and_eq_true,Bool.and_eq_true,Bool.and_eq_true,ok1_iff,List.all_eq_true,List.all_eq_true]
 constructor
 ·rintro ⟨⟨h0,h1⟩,⟨⟨⟨_,h2⟩,h5⟩,h6⟩⟩
  exact ⟨h0.secs,h0.days,h0.rule,h0.turns,h0.svs,h1,fun x hx => by simpa using h2 x hx,h5,h6⟩
 ·rintro ⟨h1,h2,h3,h4,h5,h6,h7,h8,h9⟩
  exact ⟨⟨⟨h1,h2,h3,h4,h5⟩,h6⟩,⟨⟨⟨⟨⟨h1,h2,h3,h4,h5⟩,h6⟩,fun x hx => by simpa using h7 x hx⟩,h8⟩,h9⟩⟩
theorem survey_iff {b : Book} {y : Sv} : isSurveyF b y = true ↔ (0 ≤ y.s ∧ y.s ≤ b.secs.length - 1) ∧ (0 ≤ y.d ∧ y.d ≤ b.days) ∧ (0 ≤ y.r ∧ y.r ≤ 200) ∧ (0 ≤ y.e ∧ y.e ≤ 5) := by
 simp only [isSurveyF,isSectionF,isDayF,Bool.and_eq_true,within_iff]
 constructor
 ·rintro ⟨⟨⟨h1,h2⟩,h3⟩,h4⟩; exact ⟨h1,h2,h3,h4⟩
 ·rintro ⟨h1,h2,h3,h4⟩; exact ⟨⟨⟨h1,h2⟩,h3⟩,h4⟩
theorem Valid.book {b : Book} (h : Valid b) : BookOk b := by
 refine ⟨h.secs.2,by have := h.turns; omega,by have := h.svs; omega,fun y hy => ?_,fun p hp => ?_⟩
 ·obtain ⟨h1,h2,h3,h4⟩ := survey_iff.1 (h.sv y hy)
  have := h.days
  exact ⟨by omega,by omega,by omega⟩
 ·have := (h.sec _ (getD_mem b.secs p sec0 hp)).w
  omega

/-! ### Its truths are small,and few -/
theorem step_le (b : Book) (x0 x1 x2 x3 k : Int) (s : Span) (e : Ent) : s.lo ≤ (rightStep b x0 x1 x2 x3 k s e).lo ∧ (rightStep b x0 x1 x2 x3 k s e).hi ≤ s.hi := by
 unfold rightStep
 split
 ·exact ⟨mx_ge.1,by simp only [bothF]; unfold mn; split <;> omega⟩
 ·exact ⟨Int.le_refl _,Int.le_refl _⟩
theorem right_le (b : Book) (x0 x1 x2 x3 k : Int) : ∀ (l : List Ent) (s : Span),s.lo ≤ (l.foldl (rightStep b x0 x1 x2 x3 k) s).lo ∧ (l.foldl (rightStep b x0 x1 x2 x3 k) s).hi ≤ s.hi
 | [],s => ⟨Int.le_refl _,Int.le_refl _⟩
 | e :: l,s => by
  have h1 := step_le b x0 x1 x2 x3 k s e
  have h2 := right_le b x0 x1 x2 x3 k l (rightStep b x0 x1 x2 x3 k s e)
  simp only [List.foldl_cons]
  omega
/-- What a truth says is between 0 and 200. -/
def Tr200 (t : TrC) : Prop := (0 ≤ t.f0.lo ∧ t.f0.lo ≤ t.f0.hi ∧ t.f0.hi ≤ 200) ∧ (0 ≤ t.f1.lo ∧ t.f1.lo ≤ t.f1.hi ∧ t.f1.hi ≤ 200) ∧ (0 ≤ t.f2.lo ∧ t.f2.lo ≤ t.f2.hi ∧ t.f2.hi ≤ 200) ∧ (0 ≤ t.f3.lo ∧ t.f3.lo ≤ t.f3.hi ∧ t.f3.hi ≤ 200)
theorem setF_200 {t : TrC} (h : Tr200 t) (i : Nat) {s : Span} (hs : 0 ≤ s.lo ∧ s.lo ≤ s.hi ∧ s.hi ≤ 200) : Tr200 (setF t i s) := by
 obtain ⟨h0,h1,h2,h3⟩ := h
 match i with
 | 0 => exact ⟨hs,h1,h2,h3⟩
 | 1 => exact ⟨h0,hs,h2,h3⟩
 | 2 => exact ⟨h0,h1,hs,h3⟩
 | _ + 3 => exact ⟨h0,h1,h2,hs⟩
theorem setF_w (t : TrC) (i : Nat) (s : Span) : (setF t i s).w0 = t.w0 ∧ (setF t i s).w1 = t.w1 ∧ (setF t i s).w2 = t.w2 ∧ (setF t i s).w3 = t.w3 := by
 match i with
 | 0 => exact ⟨rfl,rfl,rfl,rfl⟩
 | 1 => exact ⟨rfl,rfl,rfl,rfl⟩
 | 2 => exact ⟨rfl,rfl,rfl,rfl⟩
 | _ + 3 => exact ⟨rfl,rfl,rfl,rfl⟩
theorem leafGo_ok {b : Book} (hb : ∀ x ∈ b.secs,SecOk x) (l : List Ent) (x : W4) : ∀ (f i : Nat) (t : TrC),f + i = b.secs.length → Tr200 t → ∀ u ∈ leafGo b l x f i t,Tr200 u ∧ u.w0 = t.w0 ∧ u.w1 = t.w1 ∧ u.w2 = t.w2 ∧ u.w3 = t.w3
 | 0,i,t,_,ht,u,hu => by
  simp only [leafGo,List.mem_singleton] at hu
  subst hu
  exact ⟨ht,rfl,rfl,rfl,rfl⟩
 | f + 1,i,t,hf,ht,u,hu => by
  simp only [leafGo] at hu
  split at hu
  ·rename_i hok
   have h1 := right_le b x.a x.b x.c x.d i l (b.secs.getD i sec0).t
   have h2 := (hb _ (getD_mem b.secs i sec0 (by omega))).t
   have hr : rightF b l x.a x.b x.c x.d i = l.foldl (rightStep b x.a x.b x.c x.d i) (b.secs.getD i sec0).t := rfl
   rw [← hr] at h1
   obtain ⟨g1,g2⟩ := leafGo_ok hb l x f (i + 1) _ (by omega) (setF_200 ht i (s := rightF b l x.a x.b x.c x.d i) (by omega)) u hu
   have h3 := setF_w t i (rightF b l x.a x.b x.c x.d i)
   exact ⟨g1,g2.1.trans h3.1,g2.2.1.trans h3.2.1,g2.2.2.1.trans h3.2.2.1,g2.2.2.2.trans h3.2.2.2⟩
  ·cases hu
theorem leafGo_len (b : Book) (l : List Ent) (x : W4) : ∀ (f i : Nat) (t : TrC),(leafGo b l x f i t).length ≤ 1
 | 0,_,_ => by simp [leafGo]
 | f + 1,i,t => by
  simp only [leafGo]
  split
  ·exact leafGo_len b l x f _ _
  ·simp
theorem flat_len {α β : Type} (g : α → List β) (c : Nat) : ∀ (l : List α),(∀ x ∈ l,(g x).length ≤ c) → (l.flatMap g).length ≤ l.length * c
 | [],_ => by simp
 | x :: l,h => by
  have h1 := h x (by simp)
  have h2 := flat_len g c l (fun y hy => h y (by simp [hy]))
  simp only [List.flatMap_cons,List.length_append,List.length_cons,Nat.add_mul]
  omega
theorem rates_mem {s : Span} {n : Int} : n ∈ ratesF s ↔ (0 ≤ n ∧ s.lo ≤ n ∧ n ≤ s.hi) := by
 unfold ratesF ratesTo
 simp only [List.mem_filter,List.mem_map,List.mem_range,decide_eq_true_eq]
 constructor
 ·rintro ⟨⟨k,hk,rfl⟩,h⟩; omega
 ·rintro ⟨h1,h2,h3⟩; exact ⟨⟨n.toNat,by omega,by omega⟩,h2⟩
theorem rates_len (s : Span) : (ratesF s).length ≤ (s.hi + 1).toNat := by
 unfold ratesF ratesTo
 refine Nat.le_trans (List.length_filter_le _ _) ?_
 simp
theorem wholeGo_len {b : Book} (hb : ∀ x ∈ b.secs,SecOk x) (l : List Ent) : ∀ (f p : Nat) (x : W4),f + p = b.secs.length → (wholeGo b l f p x).length ≤ 4 ^ f
 | 0,p,x,_ => by
  show (leafF b l x).length ≤ 1
  exact leafGo_len _ _ _ _ _ _
 | f + 1,p,x,hf => by
  have h2 := (hb _ (getD_mem b.secs p sec0 (by omega))).w
  have h1 := flat_len (fun n => wholeGo b l f (p + 1) (x.set p n)) (4 ^ f) (ratesF (b.secs.getD p sec0).w) (fun n _ => wholeGo_len hb l f (p + 1) _ (by omega))
  have h3 := rates_len (b.secs.getD p sec0).w
  have h4 : (ratesF (b.secs.getD p sec0).w).length * 4 ^ f ≤ 4 * 4 ^ f := Nat.mul_le_mul_right _ (by omega)
  have h5 : (4 : Nat) ^ (f + 1) = 4 * 4 ^ f := by rw [Nat.pow_succ,Nat.mul_comm]
  rw [h5]
  exact Nat.le_trans h1 h4
theorem wholeGo_ok {b : Book} (hb : ∀ x ∈ b.secs,SecOk x) (l : List Ent) : ∀ (f p : Nat) (x : W4),f + p = b.secs.length → W4Ok x → ∀ t ∈ wholeGo b l f p x,Tr200 t ∧ W4Ok ⟨t.w0,t.w1,t.w2,t.w3⟩
 | 0,p,x,_,hx,t,ht => by
  have ht : t ∈ leafGo b l x b.secs.length 0 (trOf x) := ht
  obtain ⟨h1,h2,h3,h4,h5⟩ := leafGo_ok hb l x b.secs.length 0 (trOf x) (by omega) (by simp [Tr200,trOf]) t ht
  refine ⟨h1,?_⟩
  rw [h2,h3,h4,h5]
  exact hx
 | f + 1,p,x,hf,hx,t,ht => by
  have ht : t ∈ (ratesF (b.secs.getD p sec0).w).flatMap fun n => wholeGo b l f (p + 1) (x.set p n) := ht
  obtain ⟨n,hn,ht⟩ := List.mem_flatMap.1 ht
  have h2 := (hb _ (getD_mem b.secs p sec0 (by omega))).w
  have hn := rates_mem.1 hn
  exact wholeGo_ok hb l f (p + 1) _ (by omega) (hx.set p ⟨by omega,by omega⟩) t ht
theorem zero4 : W4Ok ⟨0,0,0,0⟩ := ⟨by decide,by decide,by decide,by decide⟩
theorem truths_len {b : Book} (hb : Valid b) (but : List Int) : (truthsF b but).length ≤ 256 := by
 have h := wholeGo_len hb.sec (openF b but) b.secs.length 0 ⟨0,0,0,0⟩ (by omega)
 refine Nat.le_trans h ?_
 exact Nat.pow_le_pow_right (by decide) hb.secs.2
theorem truths_ok {b : Book} (hb : Valid b) (but : List Int) : ∀ t ∈ truthsF b but,TrOk t := by
 intro t ht
 obtain ⟨⟨h0,h1,h2,h3⟩,hw⟩ := wholeGo_ok hb.sec (openF b but) b.secs.length 0 ⟨0,0,0,0⟩ (by omega) zero4 t ht
 have w0 := hw.a
 have w1 := hw.b
 have w2 := hw.c
 have w3 := hw.d
 exact ⟨w0,w1,w2,w3,by omega,by omega,by omega,by omega⟩
theorem opened_valid {b : Book} (hb : Valid b) (but : List Int) (hbut : but.length ≤ 100000) : Contract PR glob 119 [bookD b,.sl false .int but] (bkD b (.spot (openF b but)) (truthsF b but)) :=
 opened_con b hb.book but hbut (by have := truths_len hb but; omega)

/-! ### What is asked -/
/-- Lists that fit into memory. -/
structure Small (b : Book) : Prop where
 secs : b.secs.length ≤ 9223372036854775807
 turns : b.turns.length ≤ 9223372036854775807
 svs : b.svs.length ≤ 9223372036854775807
theorem check_small {b : Book} (h : Small b) : Contract PR glob 64 [bookD b] (.int .i64 (checkF b)) := check_con b h.secs h.turns h.svs
def canF (b : Book) : Bool := !(truthsF b []).isEmpty
/-- The error of what is asked. -/
def errF (b : Book) (is : Bool) : Int := if validF b = false then 10 else if is = false then 11 else if canF b = false then 12 else 0
theorem len_pos {b : Book} : decide (((truthsF b []).length : Int) > 0) = canF b := by
 unfold canF
 cases truthsF b [] with
 | nil => rfl
 | cons x l => simp
theorem ne_of_can {b : Book} (h : canF b = true) : truthsF b [] ≠ [] := by
 unfold canF at h
 cases hq : truthsF b [] with
 | nil => rw [hq] at h; cases h
 | cons x l => simp
theorem nil_of_can {b : Book} (h : canF b = false) : truthsF b [] = [] := by
 unfold canF at h
 cases hq : truthsF b [] with
 | nil => rfl
 | cons x l => rw [hq] at h; cases h

theorem asked_bad_con {b : Book} (hs : Small b) (is : Bool) (h : validF b = false) : Contract PR glob 121 [bookD b,.bool is] (.tup [zbookD,.int .i64 10]) := by
 have hc := check_small hs
 unfold checkF at hc
 rw [h] at hc
 exact contract_of_path (G 25) asked_fn (asked_bad b is 10) ⟨hc,rfl,trivial⟩
theorem check_ok {b : Book} (hs : Small b) (h : Valid b) : Contract PR glob 64 [bookD b] (.int .i64 0) := by
 have hc := check_small hs
 unfold checkF at hc
 rw [valid_iff.2 h] at hc
 exact hc
theorem asked_ask_con {b : Book} (hs : Small b) (h : Valid b) : Contract PR glob 121 [bookD b,.bool false] (.tup [zbookD,.int .i64 11]) :=
 contract_of_path (G 25) asked_fn (asked_ask b false 0) ⟨check_ok hs h,rfl,rfl,trivial⟩
theorem asked_false_con {b : Book} (hs : Small b) (h : Valid b) (hc : canF b = false) : Contract PR glob 121 [bookD b,.bool true] (.tup [bkD b (.spot (openF b [])) [],.int .i64 12]) := by
 have ho := opened_valid h [] (by simp)
 rw [nil_of_can hc] at ho
 exact contract_of_path (G 25) asked_fn (asked_false b true 0 (.spot (openF b [])) []) ⟨check_ok hs h,rfl,rfl,ho,rfl,trivial⟩
theorem asked_ok_con {b : Book} (hs : Small b) (h : Valid b) (hc : canF b = true) : Contract PR glob 121 [bookD b,.bool true] (.tup [bkD b (.spot (openF b [])) (truthsF b []),.int .i64 0]) := by
 have ho := opened_valid h [] (by simp)
 refine contract_of_path (G 25) asked_fn (asked_ok b true 0 (.spot (openF b [])) (truthsF b [])) ⟨check_ok hs h,rfl,rfl,ho,?_,trivial⟩
 have := ne_of_can hc
 cases hq : truthsF b [] with
 | nil => exact absurd hq this
 | cons x l => simp; omega
theorem right_con' {b : Book} (hs : Small b) : Contract PR glob 37 [bookD b] (.tup [.bool (validF b && canF b),.int .i64 (checkF b)]) := by
 cases hv : validF b with
 | false =>
  have hc := check_small hs
  unfold checkF at hc ⊢
  rw [hv] at hc ⊢
  exact contract_of_path (G 15) right__fn (right__bad b 10) ⟨hc,rfl,trivial⟩
 | true =>
  have hV := valid_iff.1 hv
  unfold checkF
  rw [hv]
  have := right__ok b 0 (.spot (openF b [])) (truthsF b [])
  rw [len_pos] at this
  exact contract_of_path (G 15) right__fn this ⟨check_ok hs hV,rfl,opened_valid hV [] (by simp),trivial⟩
end Go.Di

namespace Go.Di
open Proofs

def spanOr (e : Int) (s : Span) : Span := if e = 0 then s else ⟨0,0⟩
def askE (b : Book) (s d : Int) : Int := errF b (isSectionF b s && isDayF b d)

theorem err_cases {b : Book} (hs : Small b) (is : Bool) : (errF b is ≠ 0 ∧ (errF b is = 12 → Valid b ∧ is = true ∧ canF b = false) ∧ (errF b is ≠ 12 → Contract PR glob 121 [bookD b,.bool is] (.tup [zbookD,.int .i64 (errF b is)]))) ∨ (errF b is = 0 ∧ Valid b ∧ is = true ∧ canF b = true) := by
 unfold errF
 cases hv : validF b with
 | false =>
  rw [if_pos rfl]
  exact .inl ⟨by decide,fun h => absurd h (by decide),fun _ => asked_bad_con hs is hv⟩
 | true =>
  have hV := valid_iff.1 hv
  cases is with
  | false =>
   refine .inl ⟨by simp,fun h => by simp at h,fun _ => ?_⟩
   simpa using asked_ask_con hs hV
  | true =>
   cases hc : canF b with
   | false => exact .inl ⟨by simp,fun _ => ⟨hV,rfl,rfl⟩,fun h => by simp at h⟩
   | true => exact .inr ⟨by simp,hV,rfl,rfl⟩

theorem thickA_con {b : Book} (hs : Small b) (s d : Int) : Contract PR glob 41 [bookD b,.int .i64 s,.int .i64 d] (.tup [spD (spanOr (askE b s d) (thickF b (truthsF b []) b.turns s d)),.int .i64 (askE b s d)]) := by
 have h1 := isSection_con b s hs.secs
 have h2 := isDay_con b d
 have hc := err_cases hs (isSectionF b s && isDayF b d)
 unfold askE
 generalize he : errF b (isSectionF b s && isDayF b d) = e at hc
 rcases hc with ⟨hne,h12,h3⟩ | ⟨h0,hV,his,hcan⟩
 ·have hz : spanOr e (thickF b (truthsF b []) b.turns s d) = ⟨0,0⟩ := if_neg hne
  rw [hz]
  by_cases e12 : e = 12
  ·obtain ⟨hV,his,hcan⟩ := h12 e12
   have his' := his
   simp only [Bool.and_eq_true] at his'
   have ha := asked_false_con hs hV hcan
   subst e12
   have hr := thickA_false b s d (.spot (openF b []))
   rw [his'.2] at hr h2
   exact contract_of_path (G 33) thickA_fn hr ⟨h1,his'.1,his'.1,his'.1,h2,his'.1,ha,by omega,trivial⟩
  ·have h3 := h3 e12
   have hb : (e != 0) = true := by simpa using hne
   cases hsec : isSectionF b s with
   | false =>
    rw [hsec] at h3
    exact contract_of_path (G 33) thickA_fn (thickA_no b s d e) ⟨h1,hsec,hsec,hsec,hsec,h3,hb,by omega,trivial⟩
   | true =>
    rw [hsec,Bool.true_and] at h3
    exact contract_of_path (G 33) thickA_fn (thickA_err b s d e) ⟨h1,hsec,hsec,hsec,h2,hsec,h3,hb,by omega,trivial⟩
 ·subst h0
  have hz : spanOr 0 (thickF b (truthsF b []) b.turns s d) = thickF b (truthsF b []) b.turns s d := if_pos rfl
  rw [hz]
  have his' := his
  simp only [Bool.and_eq_true] at his'
  have hsec := within_iff.1 his'.1
  have hday := within_iff.1 his'.2
  have ha := asked_ok_con hs hV hcan
  have hdd := hV.days
  have ht := thick_con b (.spot (openF b [])) (truthsF b []) s d b.turns (truths_ok hV []) (ne_of_can hcan) (by have := truths_len hV []; omega) (by omega) hV.secs.2 (by have := hV.turns; omega) (by omega)
  have hr := thickA_ok b s d (.spot (openF b [])) (truthsF b []) (thickF b (truthsF b []) b.turns s d)
  rw [his'.2] at hr h2
  exact contract_of_path (G 33) thickA_fn hr ⟨h1,his'.1,his'.1,his'.1,h2,his'.1,ha,ht,by omega,trivial⟩

/-! ### How much a place wears -/
def wearAt (p : Int) (x : TrC) : Span := ⟨[x.w0,x.w1,x.w2,x.w3].getD p.toNat 0,[x.w0,x.w1,x.w2,x.w3].getD p.toNat 0⟩
theorem wear1_con (x : TrC) (p : Int) (hp : 0 ≤ p ∧ p < 4) : Contract PR glob 126 ([] ++ [trD x] ++ [[.int .i64 p]].map fun cs => .ref cs 0) (spD (wearAt p x)) := by
 have h := wear1_all x p
 obtain ⟨k,hk,h4⟩ : ∃ k : Nat,p.toNat = k ∧ k < 4 := ⟨p.toNat,rfl,by omega⟩
 have hr : (D.agg [D.int .i64 (List.getD [TrC.w0 x,TrC.w1 x,TrC.w2 x,TrC.w3 x,Span.lo (TrC.f0 x),Span.hi (TrC.f0 x),Span.lo (TrC.f1 x),Span.hi (TrC.f1 x),Span.lo (TrC.f2 x),Span.hi (TrC.f2 x),Span.lo (TrC.f3 x),Span.hi (TrC.f3 x)] (0 + 0 + Int.toNat p * 1) (0 : Int)),D.int .i64 (List.getD [TrC.w0 x,TrC.w1 x,TrC.w2 x,TrC.w3 x,Span.lo (TrC.f0 x),Span.hi (TrC.f0 x),Span.lo (TrC.f1 x),Span.hi (TrC.f1 x),Span.lo (TrC.f2 x),Span.hi (TrC.f2 x),Span.lo (TrC.f3 x),Span.hi (TrC.f3 x)] (0 + 0 + Int.toNat p * 1) (0 : Int))]) = spD (wearAt p x) := by
  unfold wearAt
  rw [hk]
  match k,h4 with
  | 0,_ => rfl
  | 1,_ => rfl
  | 2,_ => rfl
  | 3,_ => rfl
 rw [hr] at h
 exact contract_of_path (G 13) wear1_fn h ⟨by omega,by omega,by omega,by omega,by omega,by omega,by omega,trivial⟩
theorem wearA_con {b : Book} (hs : Small b) (p : Int) : Contract PR glob 42 [bookD b,.int .i64 p] (.tup [spD (spanOr (errF b (isSectionF b p)) (toldF (wearAt p) (truthsF b []))),.int .i64 (errF b (isSectionF b p))]) := by
 have h1 := isSection_con b p hs.secs
 have hc := err_cases hs (isSectionF b p)
 generalize he : errF b (isSectionF b p) = e at hc
 rcases hc with ⟨hne,h12,h3⟩ | ⟨h0,hV,his,hcan⟩
 ·rw [show spanOr e (toldF (wearAt p) (truthsF b [])) = ⟨0,0⟩ from if_neg hne]
  by_cases e12 : e = 12
  ·obtain ⟨hV,his,hcan⟩ := h12 e12
   have ha := asked_false_con hs hV hcan
   subst e12
   have hr := wearA_false b p (.spot (openF b []))
   rw [his] at hr h1
   exact contract_of_path (G 23) wearA_fn hr ⟨by omega,h1,ha,by omega,trivial⟩
  ·exact contract_of_path (G 23) wearA_fn (wearA_err b p e) ⟨by omega,h1,h3 e12,by simpa using hne,by omega,trivial⟩
 ·subst h0
  rw [show spanOr 0 (toldF (wearAt p) (truthsF b [])) = toldF (wearAt p) (truthsF b []) from if_pos rfl]
  have hsec := within_iff.1 his
  have hl := hV.secs
  have ha := asked_ok_con hs hV hcan
  have ht := told_con b (.spot (openF b [])) (truthsF b []) 126 [] [[.int .i64 p]] (wearAt p) (fun x _ => wear1_con x p (by omega)) (ne_of_can hcan) (by have := truths_len hV []; omega)
  have hr := wearA_ok b p (.spot (openF b [])) (truthsF b []) (toldF (wearAt p) (truthsF b []))
  rw [his] at hr h1
  refine contract_of_path (G 23) wearA_fn hr ?_
  repeat (first | exact trivial | refine ⟨by first | exact h1 | exact ha | exact ht | omega,?_⟩)

/-! ### The first day -/
/-! ### Does a survey fit? -/
def more (b : Book) (x : Sv) : Book := ⟨b.secs,b.turns,b.svs ++ [x],b.rule,b.days⟩
end Go.Di

namespace Go.Di
open Proofs
end Go.Di

namespace Go.Di
open Proofs

/-! ### Cut -/
/-! ### Turn -/
end Go.Di

namespace Go.Di
open Proofs
end Go.Di

namespace Go.Di
open Proofs

theorem relA_weaken {R : Foot} {w : World} {e : E} {xs : List e.α} {v : Value} (h : RelA R w (.sl true e xs) v) : RelA R w (.sl false e xs) v := by
 obtain ⟨A,c,hv,hc,hm,_,hr⟩ := h
 exact ⟨A,c,hv,hc,hm,fun h => (by cases h),hr⟩

/-! ### Wrong: surveys that are left out -/
end Go.Di

/-
 DI,part Y: a function that captures a box and its own variable.
-/
namespace Go.Di
open Go.RowKit

section
variable {P : Program} {C : Cfg} {w0 w w' : World} {R0 R : Foot} {a : Act} {s : St} {β : Nat → Nat} {σ : Sig} {Q : Exit → Act → World → Prop}

theorem SelfR.make {f : FuncId} {cells : List D} {p v : Value} {b : Nat} (hv : v = .func (.func f) #[] #[p,.pointer (some ⟨b,0,none⟩)]) (hp : RelCap R w cells p) (hR : R b 0) (hc : w.cell? ⟨b,0,none⟩ = some v) : ∀ n,SelfR R w f cells n v
 | 0 => trivial
 | n + 1 => ⟨p,b,0,v,hv,hp,hR,hc,⟨_,_,hv⟩,SelfR.make hv hp hR hc n⟩

end
end Go.Di

namespace Go.Di
open Proofs
end Go.Di

namespace Go.Di
open Proofs

/-! ### Wrong -/
end Go.Di

namespace Go.Di
open Proofs
end Go.Di

namespace Go.Di
open Proofs
theorem rangeB_fn : FnOk PR (mk PR (lookN types) glob 8) 61 (body Tryd.f61) [.cell 4 51] := by refine ⟨Tryd.f61,?_,?_,?_,?_,?_⟩ <;> kernel_rfl
theorem rangeB_all (a c : Int) :
  callF (mk PR (lookN types) glob 8) [] [] [] (body Tryd.f61) [.cell 4 51] [.int .i64 a,.int .i64 c] =
   some ([0 + 2 ≤ 2],D.agg [D.int .i64 a,D.int .i64 c]) := by kernel_rfl
end Go.Di

namespace Go.Di
open Proofs

theorem find_first (p : Nat → Bool) : ∀ n,(∃ k,k < n ∧ p k = true ∧ ∀ i < k,p i = false) ∨ ∀ i < n,p i = false
 | 0 => .inr fun i h => by omega
 | n + 1 => by
  rcases find_first p n with ⟨k,h1,h2,h3⟩ | h
  ·exact .inl ⟨k,by omega,h2,h3⟩
  ·cases hn : p n with
   | true => exact .inl ⟨n,by omega,hn,h⟩
   | false =>
    refine .inr fun i hi => ?_
    by_cases e : i = n
    ·subst e; exact hn
    ·exact h i (by omega)
theorem Contract.toWeak {P : Program} {glob : Nat → Option (List D)} {f : FuncId} {args : List D} {r : D} (h : Contract P glob f args r) : Contract P glob f args (weak r) := h.toRes fun _ _ _ => weak_rel

/-! ### Small functions of the laws -/
theorem rangeB_con (a c : Int) : Contract PR glob 61 [.int .i64 a,.int .i64 c] (spD ⟨a,c⟩) := contract_of_path (G 8) rangeB_fn (rangeB_all a c) ⟨by omega,trivial⟩
end Go.Di

namespace Go.Di
open Proofs
/-- The types of package forge,and those of package chain. -/
def typesF : List (Nat × TI) :=
 [(84,⟨.struct [(0,26),(5,23),(6,3),(7,23),(8,3),(9,3)],10,160,[.nil,.nil,.nil,.int .i64 0,.int .i64 0,.nil,.int .i64 0,.nil,.int .i64 0,.int .i64 0],some .fbook,false⟩),
  (151,⟨.struct [(0,84),(10,149),(11,40),(12,23)],13,216,[.nil,.nil,.nil,.int .i64 0,.int .i64 0,.nil,.int .i64 0,.nil,.int .i64 0,.int .i64 0,.nilmap,.nil,.nil],none,false⟩),
  (149,⟨.map 108 4 false,1,8,[.nilmap],none,false⟩),
  (90,⟨.slice 108,1,24,[.nil],some (.list .work),false⟩),
  (163,⟨.other,1,8,[.nilfn],none,false⟩),
  (154,⟨.other,1,8,[.nilfn],none,false⟩),
  (157,⟨.other,1,8,[.nilfn],none,false⟩),
  (110,⟨.other,1,8,[.nilfn],none,false⟩),
  (188,⟨.struct [(0,110)],1,8,[.nilfn],none,false⟩),
  (190,⟨.other,1,8,[.nilfn],none,false⟩),
  (191,⟨.other,1,8,[.nilfn],none,false⟩),
  (192,⟨.array 2 191,2,16,[.nilfn,.nilfn],none,false⟩),
  (101,⟨.array 3 3,3,24,[.int .i64 0,.int .i64 0,.int .i64 0],none,true⟩),
  (195,⟨.other,1,8,[.nilfn],none,false⟩)] ++ types
theorem typesF_ok : TabOk PR (lookN typesF) := tabOk (by kernel_rfl)
/-- The listed variables of both. -/
def globF : Nat → Option (List D)
 | 2 => some [.int .i64 (-1),.int .i64 0]
 | 3 => some [.fn 226 [] [],.fn 227 [] []]
 | g => glob g
/-- The program; its configurations,contracts and loops. -/
noncomputable abbrev PRG : Program := PR
noncomputable abbrev MF (n : Nat) : Cfg := mk PRG (lookN typesF) globF n
abbrev CF (f : FuncId) (args : List D) (r : D) : Prop := Contract PRG globF f args r
abbrev LF (n : Nat) (c : Code) (L : List (Key × Val)) (e : Ex) (L' : List (Key × Val)) : Prop := LoopT PRG globF n c L e L'
theorem GF (n : Nat) : Good PR (mk PR (lookN typesF) globF n) := good mixed_ok typesF_ok
theorem glob_up {g : Nat} {cs : List D} (h : glob g = some cs) : globF g = some cs := by
 match g,h with
 | 1,h => exact h
theorem Contract.up {P : Program} {f : FuncId} {args : List D} {r : D} (h : Contract P glob f args r) : Contract P globF f args r :=
 ⟨h.form,fun w R vs h1 h2 h3 => h.calls w R vs h1 (fun g cs hg => h2 g cs (glob_up hg)) h3⟩
end Go.Di

namespace Go.Di
open Proofs

/-! ### Package forge: values -/
def fbookD (x : FBook) : D := .agg [.sl false .sec x.chain.secs,.sl false .int x.chain.turns,.sl false .sv x.chain.svs,.int .i64 x.chain.rule,.int .i64 x.chain.days,.sl false .int x.feet,.int .i64 x.new,.sl false .int x.opn,.int .i64 x.stock,.int .i64 x.make]
def fbkD (x : FBook) (m : Mp) (th : List (List Int)) (wr : List Int) : D := .agg [.sl false .sec x.chain.secs,.sl false .int x.chain.turns,.sl false .sv x.chain.svs,.int .i64 x.chain.rule,.int .i64 x.chain.days,.sl false .int x.feet,.int .i64 x.new,.sl false .int x.opn,.int .i64 x.stock,.int .i64 x.make,.map m,.sl false (.list .int) th,.sl false .int wr]
def wkD (x : Work) : D := .agg [.int .i64 x.d,.int .i64 x.s]
def work0 : Work := ⟨0,0⟩
def setsD (x : W4) : D := wD x.a x.b x.c x.d
def W4.get (x : W4) (s : Nat) : Int := [x.a,x.b,x.c,x.d].getD s 0

/-! ### Check -/
def fok0F (x : FBook) : Bool := (checkF x.chain == 0) && decide ((x.feet.length : Int) = x.chain.secs.length) && withinF x.new 0 200 && decide (x.opn.length ≤ 4) && withinF x.stock 0 200 && withinF x.make 0 9
def fok1F (x : FBook) (l : List Int) : Bool := l.foldl (fun ok n => ok && withinF n 1 30) (fok0F x)
def fok2F (x : FBook) (l : List Int) : Bool × Int := l.foldl (turnF x.chain.days) (fok1F x x.feet,-1)
/-- Is it a book of the forge? -/
def fvalidF (x : FBook) : Bool := (fok2F x x.opn).1
def fcheckF (x : FBook) : Int := if fvalidF x then 0 else 70

/-! ### Works and plans -/
/-- The map of works,in the order in which they come. -/
def worksS (m : List (K2 × Bool)) (d : Int) : Nat → List (K2 × Bool)
 | 0 => m
 | s + 1 => updK (worksS m d s) (d,(s : Int)) true
def worksO (x : FBook) : Nat → List (K2 × Bool)
 | 0 => [((-1,0),false)]
 | i + 1 => worksS (worksO x i) (x.opn.getD i 0) x.feet.length
def worksF (x : FBook) : List (K2 × Bool) := worksO x x.opn.length
def compareF (x y : Work) : Int := if x.d = y.d then x.s - y.s else x.d - y.d
def isWorkF (m : List (K2 × Bool)) (w : Work) : Bool := (lookK m (w.d,w.s)).getD false
/-- A work that may not stand behind another one. -/
def badF (m : List (K2 × Bool)) (last w : Work) : Bool := !(isWorkF m w) || (!(decide (last.d = -1 ∧ last.s = 0)) && decide (compareF last w ≥ 0))
def isPlanGo (m : List (K2 × Bool)) (last : Work) : List Work → Bool
 | [] => true
 | w :: r => if badF m last w = true then false else isPlanGo m w r
def isPlanF (m : List (K2 × Bool)) (plan : List Work) : Bool := isPlanGo m ⟨-1,0⟩ plan

/-! ### How thick -/
def fplaceF (x : FBook) (s d : Int) : Int := placeF x.feet.length x.chain.turns d s
def oldF (th : List (List Int)) (s d : Int) : Int := (th.getD s.toNat []).getD d.toNat 0
def freshF (x : FBook) (wr : List Int) (s c : Int) : Nat → Int
 | 0 => x.new
 | k + 1 => freshF x wr s c k - wr.getD (fplaceF x s (c + k)).toNat 0
/-- Was it changed up to a day,and when at last? -/
def lastStep (s d : Int) (p : Int × Int) (w : Work) : Int × Int := if w.s = s ∧ w.d ≤ d then (1,w.d) else p
def lastF (plan : List Work) (s d : Int) : Int × Int := plan.foldl (lastStep s d) (0,0)
def fleastF (x : FBook) (th : List (List Int)) (wr : List Int) (plan : List Work) (s d : Int) : Int :=
 if (lastF plan s d).1 = 0 then oldF th s d else freshF x wr s (lastF plan s d).2 (d - (lastF plan s d).2).toNat
/-- Is a section too thin on a day? The pairs are counted: day times sections,and section. -/
def fbadF (x : FBook) (th : List (List Int)) (wr : List Int) (plan : List Work) (d s : Nat) : Bool := decide (fleastF x th wr plan s d < x.chain.rule)
/-- The first section from s on,of k. -/
def fsecF (x : FBook) (th : List (List Int)) (wr : List Int) (plan : List Work) (d : Nat) : Option Nat := (List.range x.feet.length).find? (fbadF x th wr plan d)
def fthinGo (x : FBook) (th : List (List Int)) (wr : List Int) (plan : List Work) : Nat → Nat → Option (Nat × Nat)
 | 0,_ => none
 | k + 1,d => match fsecF x th wr plan d with
  | some s => some (d,s)
  | none => fthinGo x th wr plan k (d + 1)
def fthinF (x : FBook) (th : List (List Int)) (wr : List Int) (plan : List Work) : Option (Nat × Nat) := fthinGo x th wr plan (x.chain.days + 1).toNat 0

/-! ### Feet -/
def feetLF (x : FBook) (plan : List Work) : List Int := plan.map fun w => x.feet.getD w.s.toNat 0
def sumF (l : List Int) : Int := l.foldl (· + ·) 0
def feetF (x : FBook) (plan : List Work) : Int := sumF (feetLF x plan)
def needsTo (x : FBook) (plan : List Work) : Nat → Int
 | 0 => 0
 | k + 1 => mx (needsTo x plan k) (feetF x (plan.take (k + 1)) - x.make * (plan.getD k work0).d)
def needsF (x : FBook) (plan : List Work) : Int := needsTo x plan plan.length
def fgoodF (x : FBook) (plan : List Work) : Bool := decide (needsF x plan ≤ x.stock)
/-- The first work at which the stock falls short. -/
def shortF (x : FBook) (plan : List Work) : Option Nat := (List.range plan.length).find? fun k => decide (needsF x (plan.take (k + 1)) > x.stock)

/-! ### Plans -/
/-- The meet of two sets. -/
def andF (a b : Int) : Int := IntKind.i64.wrap ((BitVec.ofInt 64 a &&& BitVec.ofInt 64 b).toNat : Int)
/-- Is a number in a set? -/
def bitF (set : Int) (k : Nat) : Bool := andF (set.fdiv (2 ^ min k 64)) 1 == 1
def plannedDay (x : FBook) (on : W4) (k : Nat) (l : List Work) : Nat → List Work
 | 0 => l
 | s + 1 => if bitF (on.get s) k = true then plannedDay x on k l s ++ [⟨x.opn.getD k 0,s⟩] else plannedDay x on k l s
def plannedTo (x : FBook) (on : W4) : Nat → List Work
 | 0 => []
 | k + 1 => plannedDay x on k (plannedTo x on k) x.feet.length
def plannedF (x : FBook) (on : W4) : List Work := plannedTo x on x.opn.length
def zeroW : W4 := ⟨0,0,0,0⟩
/-- Is it enough to change a section on a set of open days? -/
def keepsF (x : FBook) (th : List (List Int)) (wr : List Int) (s : Nat) (set : Int) : Bool :=
 (List.range (x.chain.days + 1).toNat).all fun d => !(decide (fleastF x th wr (plannedF x (zeroW.set s set)) s d < x.chain.rule))
def changesTo (x : FBook) (th : List (List Int)) (wr : List Int) (s : Nat) : Nat → List Int
 | 0 => []
 | k + 1 => if ((changesTo x th wr s k).any fun l => andF k l == l) = true then changesTo x th wr s k
  else if keepsF x th wr s k = true then changesTo x th wr s k ++ [(k : Int)] else changesTo x th wr s k
def changesF (x : FBook) (th : List (List Int)) (wr : List Int) (s : Nat) : List Int := changesTo x th wr s (2 ^ x.opn.length)
def plansGo (x : FBook) (all : List (List Int)) : Nat → Nat → W4 → List (List Work)
 | 0,_,on => [plannedF x on]
 | f + 1,s,on => (all.getD s []).flatMap fun set => plansGo x all f (s + 1) (on.set s set)
def allF (x : FBook) (th : List (List Int)) (wr : List Int) : List (List Int) := (List.range x.feet.length).map (changesF x th wr)
def plansF (x : FBook) (th : List (List Int)) (wr : List Int) : List (List Work) := plansGo x (allF x th wr) x.feet.length 0 zeroW

/-! ### The best one -/
def cmpPlans : List Work → List Work → Int
 | [],[] => 0
 | [],_ :: _ => -1
 | _ :: _,[] => 1
 | x :: l,y :: m => if compareF x y ≠ 0 then compareF x y else cmpPlans l m
def betterWF (x : FBook) (p q : List Work) : Bool := decide (feetF x p < feetF x q) || (decide (feetF x p = feetF x q) && decide (cmpPlans p q < 0))
def bestStep (x : FBook) (o : List Work × Bool) (p : List Work) : List Work × Bool := if fgoodF x p && (!o.2 || betterWF x p o.1) then (p,true) else o
def bestOf (x : FBook) (l : List (List Work)) : List Work × Bool := l.foldl (bestStep x) ([],false)
def bestF (x : FBook) (th : List (List Int)) (wr : List Int) : List Work × Bool := bestOf x (plansF x th wr)
def stockOf (x : FBook) (l : List (List Work)) : Int := l.foldl (fun n p => mn n (needsF x p)) 201
def stockF (x : FBook) (th : List (List Int)) (wr : List Int) : Int := stockOf x (plansF x th wr)

/-! ### What chain says -/
def wearHi (b : Book) (p : Int) : Int := (toldF (wearAt p) (truthsF b [])).hi
def thickLo (b : Book) (s d : Int) : Int := (thickF b (truthsF b []) b.turns s d).lo
def knowWr (x : FBook) : List Int := (List.range x.feet.length).map fun s => wearHi x.chain (s : Nat)
def knowTh (x : FBook) : List (List Int) := (List.range x.feet.length).map fun s => (List.range (x.chain.days + 1).toNat).map fun d => thickLo x.chain (s : Nat) (d : Nat)

/-! ### What is asked -/
def ferrF (x : FBook) (is : Bool) : Int := if fvalidF x = false then 70 else if is = false then 71 else if canF x.chain = false then 72 else 0
end Go.Di

