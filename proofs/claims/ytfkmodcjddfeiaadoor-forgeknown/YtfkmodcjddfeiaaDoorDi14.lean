/- Part 14: an interpreter over plain data for this code, with the proof that it says what the model does, and the contracts of the functions. No condition. -/
import Derived.Test.YtfkmodcjddfeiaaDoorDi13
set_option linter.unusedVariables false
set_option linter.unusedSimpArgs false
namespace Go.Di
open Proofs
open Go.RowKit

/-! ### What the iterator yields -/
def leafGo (b : Book) (l : List Ent) (x : W4) : Nat → Nat → TrC → List TrC
 | 0,_,t => [t]
 | f + 1,i,t => if (rightF b l x.a x.b x.c x.d i).lo ≤ (rightF b l x.a x.b x.c x.d i).hi then leafGo b l x f (i + 1) (setF t i (rightF b l x.a x.b x.c x.d i)) else []
def leafF (b : Book) (l : List Ent) (x : W4) : List TrC := leafGo b l x b.secs.length 0 (trOf x)
/-- The numbers of a span that are below another one. -/
def ratesTo (lo : Int) (k : Nat) : List Int := ((List.range k).map fun n : Nat => (n : Int)).filter fun n => decide (lo ≤ n)
def ratesF (s : Span) : List Int := ratesTo s.lo (s.hi + 1).toNat
def wholeGo (b : Book) (l : List Ent) : Nat → Nat → W4 → List TrC
 | 0,_,x => leafF b l x
 | f + 1,p,x => (ratesF (b.secs.getD p sec0).w).flatMap fun n => wholeGo b l f (p + 1) (x.set p n)
theorem ratesTo_succ (lo : Int) (k : Nat) : ratesTo lo (k + 1) = ratesTo lo k ++ if lo ≤ k then [(k : Int)] else [] := by
 unfold ratesTo
 rw [List.range_succ,List.map_append,List.filter_append]
 congr 1
 simp only [List.map_cons,List.map_nil,List.filter_cons,List.filter_nil]
 by_cases h : lo ≤ (k : Int) <;> simp [h]

structure W4Ok (x : W4) : Prop where
 a : 0 ≤ x.a ∧ x.a ≤ 1000
 b : 0 ≤ x.b ∧ x.b ≤ 1000
 c : 0 ≤ x.c ∧ x.c ≤ 1000
 d : 0 ≤ x.d ∧ x.d ≤ 1000
theorem W4Ok.set {x : W4} (h : W4Ok x) (p : Nat) {n : Int} (hn : 0 ≤ n ∧ n ≤ 1000) : W4Ok (x.set p n) := by
 obtain ⟨h1,h2,h3,h4⟩ := h
 unfold W4.set
 split <;> constructor <;> assumption
theorem set_set (x : W4) (p : Nat) (n n' : Int) : (x.set p n).set p n' = x.set p n' := by
 match p with
 | 0 => rfl
 | 1 => rfl
 | 2 => rfl
 | _ + 3 => rfl

def trV (t : TrC) : Value := .agg #[.int .i64 t.w0,.int .i64 t.w1,.int .i64 t.w2,.int .i64 t.w3,.int .i64 t.f0.lo,.int .i64 t.f0.hi,.int .i64 t.f1.lo,.int .i64 t.f1.hi,.int .i64 t.f2.lo,.int .i64 t.f2.hi,.int .i64 t.f3.lo,.int .i64 t.f3.hi]
def w4V (x : W4) : Value := .agg #[.int .i64 x.a,.int .i64 x.b,.int .i64 x.c,.int .i64 x.d]
def ToldT (_ : Nat → Prop) (x : TrC) (vs : Array Value) (_ : World) : Prop := vs = #[trV x]

/-- A round of the walk: what was yielded meanwhile. -/
structure Mid {α : Type} (KE : Nat → Prop) (J : List α → (Nat → Prop) → World → Prop) (pre zs : List α) (N0 : Nat → Prop) (W0 : World) (N : Nat → Prop) (W : World) : Prop where
 le : ∀ b,N0 b → N b
 j : J (pre ++ zs) N W
 size : W0.heap.size ≤ W.heap.size
 same : ∀ b,KE b ∨ N0 b → W.heap[b]? = W0.heap[b]?
 own : ∀ b,N b → b < W.heap.size
theorem Mid.step {α : Type} {KE : Nat → Prop} {J : List α → (Nat → Prop) → World → Prop} {gl : Nat → Option (List D)} {pre zs : List α} {N0 N N' : Nat → Prop} {W0 W W' : World} {a' : Act} {L' : List (Key × Val)} {tt : TypeId → Option TI} {n : Nat} {fx : List Nat} {fv : Nat → Value} (h : Mid KE J pre zs N0 W0 N W) (hn : FrNext PR tt gl n fx fv KE W0.heap.size N N' J (pre ++ zs) a' W W' L') (hKE : ∀ b,KE b → b < W0.heap.size) (hN0 : ∀ b,N0 b → b < W0.heap.size) : Mid KE J pre zs N0 W0 N' W' := by
 refine ⟨fun b hb => hn.le b (h.le b hb),hn.j,Nat.le_trans h.size hn.size,fun b hb => ?_,?_⟩
 ·rw [hn.old b (hb.elim (hKE b) (hN0 b))]
  exact h.same b hb
 ·obtain ⟨β,σ,R,hf⟩ := hn.fr
  exact hf.own
theorem Mid.more {α : Type} {KE : Nat → Prop} {J : List α → (Nat → Prop) → World → Prop} {pre zs zs' : List α} {N0 N N' : Nat → Prop} {W0 W W' : World} (h : Mid KE J pre zs N0 W0 N W) (h' : Mid KE J (pre ++ zs) zs' N W N' W') : Mid KE J pre (zs ++ zs') N0 W0 N' W' :=
 ⟨fun b hb => h'.le b (h.le b hb),by rw [← List.append_assoc]; exact h'.j,Nat.le_trans h.size h'.size,fun b hb => by rw [h'.same b (hb.imp id (h.le b))]; exact h.same b hb,h'.own⟩
def Done {α : Type} (KE : Nat → Prop) (J : List α → (Nat → Prop) → World → Prop) (pre zs : List α) (N0 : Nat → Prop) (W0 : World) (a : Act) (W : World) : Prop := a.defers = [] ∧ a.tmps.getD 8 undef = .bool true ∧ ∃ N,Mid KE J pre zs N0 W0 N W
def WearPost {α : Type} (KE : Nat → Prop) (J : List α → (Nat → Prop) → World → Prop) (pre zs : List α) (N0 : Nat → Prop) (W0 : World) (e : Ending) (W : World) : Prop := e = .returned (.bool true) ∧ ∃ N,Mid KE J pre zs N0 W0 N W

section
variable (b : Book) (l : List Ent) (ts : List TrC) (KE : Nat → Prop) (xs : List TrC) (y : Nat) (J : List TrC → (Nat → Prop) → World → Prop) (p1 p2 p3 p4 : Value)

def YieldOk : Prop := ∀ pre x vs N T W,J pre N W → (∃ post,pre ++ x :: post = xs) → (∀ b,T b → N b) → ToldT T x vs W → YieldAt Fence.wide 0 PR y vs W fun e W' => e = .returned (.bool true) ∧ J (pre ++ [x]) (Less N T) W' ∧ Stays KE (Less N T) W W'

structure Caps (N : Nat → Prop) (W : World) : Prop where
 foot : ∃ R : Foot,(∀ b o,R b o → KE b ∨ N b) ∧ Rel R W (.ref (cellsOf (bkD b (.spot l) ts)) 0) p1 ∧ Rel R W (.ref [.fn 193 [bkD b (.spot l) ts] []] 0) p3 ∧ ∀ g cs,glob g = some cs → Rel R W (.ref cs 0) (.pointer (some ⟨g,0,none⟩))
 yld : ∃ b4,p2 = .pointer (some ⟨b4,0,none⟩) ∧ N b4 ∧ W.cell? ⟨b4,0,none⟩ = some (.func (.yield y) #[] #[])
 wear : ∃ b5,p4 = .pointer (some ⟨b5,0,none⟩) ∧ N b5 ∧ W.cell? ⟨b5,0,none⟩ = some (.func (.func 194) #[] #[p1,p3,p2,p4])

theorem cell_same {W W' : World} {b o : Nat} (h : W'.heap[b]? = W.heap[b]?) : W'.cell? ⟨b,o,none⟩ = W.cell? ⟨b,o,none⟩ := by
 simp only [World.cell?]
 rw [h]

variable {b l ts KE xs y J p1 p2 p3 p4}
theorem Caps.after {N N' : Nat → Prop} {W W' : World} (h : Caps b l ts KE y p1 p2 p3 p4 N W) (hN : ∀ b,N b → N' b) (hs : ∀ b,KE b ∨ N b → W'.heap[b]? = W.heap[b]?) : Caps b l ts KE y p1 p2 p3 p4 N' W' := by
 obtain ⟨⟨R,h1,h2,h3,h4⟩,⟨b4,q1,q2,q3⟩,⟨b5,r1,r2,r3⟩⟩ := h
 have hk : Keeps R R W W' := by
  refine ⟨fun _ _ h => h,fun b o u hr hc => ?_,fun b es c hr hm => ?_⟩
  ·rw [cell_same (hs b (h1 b o hr))]; exact hc
  ·rw [hs b (h1 b 0 hr)]; exact hm
 exact ⟨⟨R,fun b o hr => (h1 b o hr).imp id (hN b),Rel.keep hk _ _ h2,Rel.keep hk _ _ h3,fun g cs hg => Rel.keep hk _ _ (h4 g cs hg)⟩,⟨b4,q1,hN _ q2,by rw [cell_same (hs _ (.inr q2))]; exact q3⟩,⟨b5,r1,hN _ r2,by rw [cell_same (hs _ (.inr r2))]; exact r3⟩⟩

/-! ### The end of the recursion: a truth,if there is one,is yielded -/
theorem leaf_loop (x : W4) (hx : W4Ok x) (hn : b.secs.length ≤ 4) (ht : b.turns.length ≤ 1000) (hl : ∀ e ∈ l,EntOk e) (p : Int) (t0 : TrC) (ke no : Nat → Prop) (w1 : World) (fv : Nat → Value) :
  WpL PR (mkF PR (lookN types) glob 78 ke no w1 [2,3,4,5,6,9] fv) (.block 0 (.loop (Code.at [1,0,0,1,0,1,0,1,0,0] (body Tryd.f194)))) (lfL b (.spot l) ts x p t0 0)
   (fun e L' => (e = .normal ∧ ∃ t,L' = lfS b (.spot l) ts x p t ∧ leafGo b l x b.secs.length 0 t0 = [t]) ∨ (e = .ret ∧ ∃ t,L' = lfS b (.spot l) ts x p t ++ [(.tmp 8,.d (.bool true))] ∧ leafGo b l x b.secs.length 0 t0 = [])) := by
 have hG : Good PR (mkF PR (lookN types) glob 78 ke no w1 [2,3,4,5,6,9] fv) := goodF mixed_ok types_ok
 have hcon := fun (k : Nat) (hk : k < b.secs.length) => right_con b l ts x.a x.b x.c x.d k hx.a hx.b hx.c hx.d ⟨by omega,by omega⟩ hn ht hl
 refine WpL.block (WpL.loop (S := fun it : {it : Nat × TrC // it.1 ≤ b.secs.length ∧ leafGo b l x (b.secs.length - it.1) it.1 it.2 = leafGo b l x b.secs.length 0 t0} => lfL b (.spot l) ts x p it.1.2 it.1.1) (fun it => b.secs.length - it.1.1) ?_ ⟨(0,t0),Nat.zero_le _,rfl⟩)
 rintro ⟨⟨i,t⟩,hi,he⟩
 dsimp only at hi he ⊢
 by_cases hlt : i < b.secs.length
 ·have hc := hcon i hlt
  have hgo : leafGo b l x (b.secs.length - i) i t = if (rightF b l x.a x.b x.c x.d i).lo ≤ (rightF b l x.a x.b x.c x.d i).hi then leafGo b l x (b.secs.length - (i + 1)) (i + 1) (setF t i (rightF b l x.a x.b x.c x.d i)) else [] := by
   rw [show b.secs.length - i = (b.secs.length - (i + 1)) + 1 by omega]
   rfl
  by_cases hok : (rightF b l x.a x.b x.c x.d i).lo ≤ (rightF b l x.a x.b x.c x.d i).hi
  ·rw [if_pos hok] at hgo
   rw [decide_eq_true hok] at hc
   have hgoal : WpL PR (mkF PR (lookN types) glob 78 ke no w1 [2,3,4,5,6,9] fv) (Code.at [1,0,0,1,0,1,0,1,0,0] (body Tryd.f194)) (lfL b (.spot l) ts x p t i) (fun e L' => e = .normal ∧ L' = lfL b (.spot l) ts x p (setF t i (rightF b l x.a x.b x.c x.d i)) (i + 1)) := by
    match i,hlt,hc with
    | 0,hlt,hc => exact WpL.path hG (lf_on0 b (.spot l) ts x p ke no w1 fv t _) ⟨decide_eq_true (by omega),by omega,hc,by omega,⟨by omega,by omega⟩,by simp only [inI64]; omega,trivial⟩ ⟨rfl,rfl⟩
    | 1,hlt,hc => exact WpL.path hG (lf_on1 b (.spot l) ts x p ke no w1 fv t _) ⟨decide_eq_true (by omega),by omega,hc,by omega,⟨by omega,by omega⟩,by simp only [inI64]; omega,trivial⟩ ⟨rfl,rfl⟩
    | 2,hlt,hc => exact WpL.path hG (lf_on2 b (.spot l) ts x p ke no w1 fv t _) ⟨decide_eq_true (by omega),by omega,hc,by omega,⟨by omega,by omega⟩,by simp only [inI64]; omega,trivial⟩ ⟨rfl,rfl⟩
    | 3,hlt,hc => exact WpL.path hG (lf_on3 b (.spot l) ts x p ke no w1 fv t _) ⟨decide_eq_true (by omega),by omega,hc,by omega,⟨by omega,by omega⟩,by simp only [inI64]; omega,trivial⟩ ⟨rfl,rfl⟩
    | k + 4,hlt,hc => omega
   refine hgoal.mono fun e L' hL => ?_
   obtain ⟨rfl,rfl⟩ := hL
   exact ⟨⟨(i + 1,setF t i (rightF b l x.a x.b x.c x.d i)),hlt,by rw [← he,hgo]⟩,rfl,by dsimp only; omega⟩
  ·rw [if_neg hok] at hgo
   rw [decide_eq_false hok] at hc
   exact WpL.path hG (lf_no b (.spot l) ts x p ke no w1 fv t i _) ⟨decide_eq_true (by omega),by omega,hc,trivial⟩ (.inr ⟨rfl,t,rfl,by rw [← he,hgo]⟩)
 ·have hie : i = b.secs.length := by omega
  refine WpL.path hG (lf_end b (.spot l) ts x p ke no w1 fv t i) ⟨decide_eq_false (by omega),trivial⟩ ?_
  show (if 0 = 0 then _ else _)
  rw [if_pos rfl]
  refine .inl ⟨rfl,t,rfl,?_⟩
  rw [← he,hie,Nat.sub_self]
  rfl
end
end Go.Di

namespace Go.Di
open Proofs
open Go.RowKit

section
variable {b : Book} {l : List Ent} {ts : List TrC} {KE : Nat → Prop} {xs : List TrC} {y : Nat} {J : List TrC → (Nat → Prop) → World → Prop} {p1 p2 p3 p4 : Value}

theorem call_nd {o : Oper} {c : Call} (h : o.op = .call c) : ∀ c',o.op ≠ .defer c' := fun c' hc => by rw [h] at hc; cases hc
theorem load_nd {o : Oper} {t : TypeId} {x : Operand} (h : o.op = .load t x) : ∀ c',o.op ≠ .defer c' := fun c' hc => by rw [h] at hc; cases hc

theorem wear_leaf (hJ : Abides J) (hy : YieldOk KE xs y J) (hn : b.secs.length ≤ 4) (ht : b.turns.length ≤ 1000) (hl : ∀ e ∈ l,EntOk e) {x : W4} (hx : W4Ok x) {p : Int} {pre : List TrC} {N0 N : Nat → Prop} {W0 W : World} {a : Act} {fv : Nat → Value}
  (hKE : ∀ b,KE b → b < W0.heap.size) (hN0 : ∀ b,N0 b → b < W0.heap.size) (hcaps : Caps b l ts KE y p1 p2 p3 p4 N0 W0) (hmid : Mid KE J pre [] N0 W0 N W)
  (hfr : Fr PR (lookN types) glob 78 [2,3,4,5,6] fv KE W0.heap.size N a W (whS b (.spot l) ts x p)) (hfv : fv 4 = p2) (hxs : ∃ post,pre ++ leafF b l x ++ post = xs)
  {Q : Exit → Act → World → Prop} (hret : ∀ a' W',Done KE J pre (leafF b l x) N0 W0 a' W' → Q .ret a' W') : (Code.at [1,0,0,1,0] (body Tryd.f194)).wpIn (FR none) 0 PR Q a W := by
 have hcode : Code.at [1,0,0,1,0] (body Tryd.f194) = .seq (Code.at [1,0,0,1,0,0] (body Tryd.f194)) (.seq (.seq (Code.at [1,0,0,1,0,1,0,0] (body Tryd.f194)) (.block 0 (.loop (Code.at [1,0,0,1,0,1,0,1,0,0] (body Tryd.f194)))))
  (.seq (.region 11 (rops (Code.at [1,0,0,1,0,1,1,0] (body Tryd.f194))) false) .ret)) := by kernel_rfl
 rw [hcode]
 refine wpIn_seq (hfr.path mixed_ok types_ok hJ hmid.j (fun ke no w1 => ⟨_,lf_2 b (.spot l) ts x p ke no w1 fv,by omega,trivial⟩) (by kernel_rfl) (by kernel_rfl) fun a1 W1 N1 hN1 => ?_)
 have hmid1 := hmid.step hN1 hKE hN0
 have hf1 := hN1.fr.fix [2,3,4,5,6,9]
 have hfv1 : a1.tmps.getD 4 undef = p2 := (hN1.fr.fixed 4 (by simp)).trans hfv
 show Code.wpIn _ _ _ _ _ _ _
 refine wpIn_seq (hf1.piece hJ hmid1.j (Post := fun e L' => (e = .normal ∧ ∃ t,L' = lfS b (.spot l) ts x p t ∧ leafF b l x = [t]) ∨ (e = .ret ∧ ∃ t,L' = lfS b (.spot l) ts x p t ++ [(.tmp 8,.d (.bool true))] ∧ leafF b l x = []))
  (fun ke no w1 => WpL.seq (WpL.path (goodF mixed_ok types_ok) (lf_3 b (.spot l) ts x p ke no w1 _ (trOf x)) trivial (leaf_loop x hx hn ht hl p (trOf x) ke no w1 _))) ?_ ?_ ?_)
 ·rintro e L' (⟨_,t,rfl,_⟩ | ⟨_,t,rfl,_⟩) <;> exact noObs_ok (by kernel_rfl)
 ·rintro e L' (⟨_,t,rfl,_⟩ | ⟨_,t,rfl,_⟩) <;> exact keepOk_ok (by kernel_rfl)
 ·rintro e L' a2 W2 N2 hpost hN2
  have hmid2 := hmid1.step hN2 hKE hN0
  have hfv2 : a2.tmps.getD 4 undef = p2 := (hN2.fr.fixed 4 (by simp)).trans hfv1
  rcases hpost with ⟨rfl,t,rfl,hleaf⟩ | ⟨rfl,t,rfl,hleaf⟩
  ·show Code.wpIn _ _ _ _ _ _ _
   refine wpIn_seq (wp_textIn ?_)
   have hsz : (rops (Code.at [1,0,0,1,0,1,1,0] (body Tryd.f194))).size = 4 := by kernel_rfl
   rw [hsz]
   show wpOpsIn _ _ _ _ _ (0 :: [1,2,3]) _ _
   obtain ⟨b4,hb1,hb2,hb3⟩ := hcaps.yld
   have hc4 : W2.cell? ⟨b4,0,none⟩ = some (.func (.yield y) #[] #[]) := by rw [cell_same (hmid2.same b4 (.inr hb2))]; exact hb3
   obtain ⟨o0,h00,h01,h02,h03⟩ := (opAt (ops := rops (Code.at [1,0,0,1,0,1,1,0] (body Tryd.f194))) (i := 0) (dst := some 44) (op := .load 206 (.tmp 4)) (by kernel_rfl)).at_
   refine wpOpsIn_hand (v := .func (.yield y) #[] #[]) (w' := W2) h00 h01 (load_nd h03) ?_ ?_
   ·have hev : a2.eval (.tmp 4) = .pointer (some ⟨b4,0,none⟩) := hfv2.trans hb1
    simp only [execOp,h03,hev]
    simp [run_loadv (P := PR) types_ok (t := 206) (ti := ⟨.other,1,8,[.nilfn],none,false⟩) (by kernel_rfl) rfl rfl hc4]
   rw [h02]
   have hlt44 : 44 < a2.tmps.size := by
    obtain ⟨β,σ,R,hi⟩ := hN2.fr
    have h78 : 78 ≤ a2.tmps.size := hi.inv.nt
    omega
   have hf2 := (hN2.fr.putAny 44 (by decide) (by decide) (by kernel_rfl) (.func (.yield y) #[] #[])).fix [2,3,4,5,6,9,44]
   show wpOpsIn _ _ _ _ _ (List.range' 1 [(rops (Code.at [1,0,0,1,0,1,1,0] (body Tryd.f194)))[1]].length ++ [2,3]) _ _
   refine hf2.opsIn hJ hmid2.j types_ok (by kernel_rfl) (noOut_out _) (l := [(rops (Code.at [1,0,0,1,0,1,1,0] (body Tryd.f194)))[1]]) (fun j o hj => ?_) (fun ke no w1 => ⟨_,lf_11a b (.spot l) ts x p ke no w1 _ t,by omega,trivial⟩) (noObs_ok (by kernel_rfl)) (keepOk_ok (by kernel_rfl)) fun a3 W3 N3 hN3 => ?_
   ·match j,hj with
    | 0,hj => simp only [List.getElem?_cons_zero,Option.some.injEq] at hj; subst hj; exact Array.getElem?_eq_getElem _
   have hmid3 := hmid2.step hN3 hKE hN0
   have h44 : a3.tmps.getD 44 undef = .func (.yield y) #[] #[] := by
    rw [hN3.fr.fixed 44 (by simp),getD_put a2 44 _ 44 hlt44,if_pos rfl]
   have h45 : a3.tmps.getD 45 undef = trV t := hN3.fr.val (i := 45) rfl rfl
   obtain ⟨o2,h20,h21,h22,h23⟩ := (opAt (ops := rops (Code.at [1,0,0,1,0,1,1,0] (body Tryd.f194))) (i := 2) (dst := some 46) (op := .call { callee := .value (.tmp 44),args := #[.tmp 45],argTypes := #[143] }) (by kernel_rfl)).at_
   obtain ⟨post,hpost⟩ := hxs
   rw [hleaf] at hpost
   refine wpOpsIn_yield h20 h21 h23 rfl h44 (vs := #[trV t]) (by simp only [List.map_toArray,List.map_cons,List.map_nil]; exact congrArg (fun v => #[v]) h45) (hy pre t #[trV t] N3 (fun _ => False) W3 (by simpa using hmid3.j) ⟨post,by rw [← hpost]; simp⟩ (fun _ h => h.elim) rfl) ?_
   rintro e4 W4 ⟨rfl,hj4,hs4⟩
   refine ⟨_,rfl,?_⟩
   rw [h22]
   have hj4' : J (pre ++ [t]) N3 W4 := hJ.new _ _ _ _ _ hj4 (Below.refl _ _) (fun b hb => .inl ⟨hb,fun h => h⟩)
   have hsame4 : ∀ b,KE b ∨ N3 b → W4.heap[b]? = W3.heap[b]? := fun b hb => hb.elim (hs4.old b) fun h => hs4.own b ⟨h,fun h => h⟩
   have hmid4 : Mid KE J pre [t] N0 W0 N3 W4 := ⟨hmid3.le,hj4',Nat.le_trans hmid3.size hs4.size,fun b hb => by rw [hsame4 b (hb.imp id (hmid3.le b))]; exact hmid3.same b hb,fun b hb => Nat.lt_of_lt_of_le (hmid3.own b hb) hs4.size⟩
   have hf4 := (hN3.fr.after (fun _ h => h) hmid4.own hs4.size hsame4).put 46 (by decide) (by decide) (x := .bool true) (v := .bool true) (fun _ => rfl)
   show wpOpsIn _ _ _ _ _ (List.range' 3 [(rops (Code.at [1,0,0,1,0,1,1,0] (body Tryd.f194)))[3]].length ++ []) _ _
   refine hf4.opsIn hJ hmid4.j types_ok (by kernel_rfl) (noOut_out _) (l := [(rops (Code.at [1,0,0,1,0,1,1,0] (body Tryd.f194)))[3]]) (fun j o hj => ?_) (fun ke no w1 => ⟨_,lf_11b b (.spot l) ts x p ke no w1 _ t,trivial⟩) (noObs_ok (by kernel_rfl)) (keepOk_ok (by kernel_rfl)) fun a5 W5 N5 hN5 => ?_
   ·match j,hj with
    | 0,hj => simp only [List.getElem?_cons_zero,Option.some.injEq] at hj; subst hj; exact Array.getElem?_eq_getElem _
   show Code.wpIn _ _ _ _ _ _ _
   refine wpIn_ret (hret _ _ ⟨hN5.fr.defers,hN5.fr.val (i := 8) rfl rfl,N5,?_⟩)
   rw [hleaf]
   exact hmid4.step hN5 hKE hN0
  ·refine hret _ _ ⟨hN2.fr.defers,hN2.fr.val (i := 8) rfl rfl,N2,?_⟩
   rw [hleaf]
   exact hmid2
end
end Go.Di

namespace Go.Di
open Proofs
open Go.RowKit

section
variable {b : Book} {l : List Ent} {ts : List TrC} {KE : Nat → Prop} {xs : List TrC} {y : Nat} {J : List TrC → (Nat → Prop) → World → Prop} {p1 p2 p3 p4 : Value}

/-- What a call of 'wear' does,with so many places left. -/
def WearOk (b : Book) (l : List Ent) (ts : List TrC) (KE : Nat → Prop) (xs : List TrC) (y : Nat) (J : List TrC → (Nat → Prop) → World → Prop) (p1 p2 p3 p4 : Value) (f p : Nat) : Prop :=
 ∀ (x : W4) (pre : List TrC) (N0 : Nat → Prop) (W0 : World),W4Ok x → (∃ post,pre ++ wholeGo b l f p x ++ post = xs) → J pre N0 W0 → (∀ b,KE b → b < W0.heap.size) → (∀ b,N0 b → b < W0.heap.size) → Caps b l ts KE y p1 p2 p3 p4 N0 W0 →
  Calls PR 194 #[w4V x,.int .i64 p,p1,p3,p2,p4] W0 (WearPost KE J pre (wholeGo b l f p x) N0 W0)

theorem ratesTo_le (lo : Int) {n m : Nat} (h : n ≤ m) : ∃ r,ratesTo lo m = ratesTo lo n ++ r := by
 induction m with
 | zero => exact ⟨[],by rw [show n = 0 by omega]; simp⟩
 | succ m ih =>
  by_cases h' : n = m + 1
  ·exact ⟨[],by rw [h']; simp⟩
  ·obtain ⟨r,hr⟩ := ih (by omega)
   exact ⟨_,by rw [ratesTo_succ,hr,List.append_assoc]⟩

theorem wear_fn : ∃ fn,PR.funcs[194]? = some fn ∧ (fn.name == "runtime.NumGoroutine") = false ∧ fn.body.isNone = false := ⟨Tryd.f194,by kernel_rfl,by kernel_rfl,by kernel_rfl⟩

theorem wear_rec (hJ : Abides J) {f p : Nat} (ih : WearOk b l ts KE xs y J p1 p2 p3 p4 f (p + 1)) (hp : p < b.secs.length) (hn : b.secs.length ≤ 4) (hw : 0 ≤ (b.secs.getD p sec0).w.lo ∧ -1 ≤ (b.secs.getD p sec0).w.hi ∧ (b.secs.getD p sec0).w.hi ≤ 1000) {x : W4} (hx : W4Ok x) {pre : List TrC} {N0 N : Nat → Prop} {W0 W : World} {a : Act} {fv : Nat → Value}
  (hKE : ∀ b,KE b → b < W0.heap.size) (hN0 : ∀ b,N0 b → b < W0.heap.size) (hcaps : Caps b l ts KE y p1 p2 p3 p4 N0 W0) (hmid : Mid KE J pre [] N0 W0 N W)
  (hfr : Fr PR (lookN types) glob 78 [2,3,4,5,6] fv KE W0.heap.size N a W (whS b (.spot l) ts x p)) (hfv : fv 5 = p4) (hxs : ∃ post,pre ++ wholeGo b l (f + 1) p x ++ post = xs)
  {Q : Exit → Act → World → Prop} (hret : ∀ a' W',Done KE J pre (wholeGo b l (f + 1) p x) N0 W0 a' W' → Q .ret a' W') : (Code.at [1,0,1] (body Tryd.f194)).wpIn (FR none) 0 PR Q a W := by
 obtain ⟨s,hs⟩ : ∃ s,s = (b.secs.getD p sec0).w := ⟨_,rfl⟩
 have hcode : Code.at [1,0,1] (body Tryd.f194) = .seq (Code.at [1,0,1,0] (body Tryd.f194)) (.seq (.label 0) (.seq (.seq (Code.at [1,0,1,1,1,0,0] (body Tryd.f194)) (.block 2 (.loop (.seq (Code.at [1,0,1,1,1,0,1,0,0,0] (body Tryd.f194)) (.seq (.cond (.tmp 60) .skip (.exit 2))
  (.seq (.block 3 (.seq (Code.at [1,0,1,1,1,0,1,0,0,1,1,0,0,0] (body Tryd.f194)) (.seq (.seq (Code.at [1,0,1,1,1,0,1,0,0,1,1,0,0,1,0,0] (body Tryd.f194)) (.cond (.tmp 67) (.exit 3) .skip))
   (.seq (Code.at [1,0,1,1,1,0,1,0,0,1,1,0,0,1,1,0] (body Tryd.f194)) (.seq (.region 18 (rops (Code.at [1,0,1,1,1,0,1,0,0,1,1,0,0,1,1,1,0] (body Tryd.f194))) false) (.cond (.tmp 76) (Code.at [1,0,1,1,1,0,1,0,0,1,1,0,0,1,1,1,1,0] (body Tryd.f194)) .skip))))))
  (Code.at [1,0,1,1,1,0,1,0,0,1,1,1] (body Tryd.f194)))))))) (.seq (Code.at [1,0,1,1,1,1,0] (body Tryd.f194)) .ret))) := by kernel_rfl
 rw [hcode]
 refine wpIn_seq (hfr.path mixed_ok types_ok hJ hmid.j (fun ke no w1 => ⟨_,rc_12 b (.spot l) ts x p ke no w1 fv,⟨by omega,by omega⟩,by omega,trivial⟩) (by kernel_rfl) (by kernel_rfl) fun a1 W1 N1 hN1 => ?_)
 have hmid1 := hmid.step hN1 hKE hN0
 have hf1 := hN1.fr.fix [2,3,4,5,6,13]
 have hfv1 : a1.tmps.getD 5 undef = p4 := (hN1.fr.fixed 5 (by simp)).trans hfv
 show Code.wpIn _ _ _ _ _ _ _
 refine wpIn_seq (wpIn_label ?_)
 show Code.wpIn _ _ _ _ _ _ _
 rw [show ((p : Int).toNat) = p from Int.toNat_natCast p,← hs] at hf1
 rw [← hs] at hw
 refine wpIn_seq (wpIn_seq (hf1.path mixed_ok types_ok hJ hmid1.j (fun ke no w1 => ⟨_,rc_13 b (.spot l) ts x p ke no w1 _ s,high_con,by omega,highF_con s,by simp only [inI64]; omega,trivial⟩) (by kernel_rfl) (by kernel_rfl) fun a2 W2 N2 hN2 => ?_))
 have hmid2 := hmid1.step hN2 hKE hN0
 have hfv2 : a2.tmps.getD 5 undef = p4 := (hN2.fr.fixed 5 (by simp)).trans hfv1
 show Code.wpIn _ _ _ _ _ _ _
 -- the rounds
 refine wpIn_block (wpIn_loop_ghost (fun k a W => ∃ n : Nat,k + n = (s.hi + 1).toNat ∧ ∃ x' N fv,W4Ok x' ∧ (∀ n',x'.set p n' = x.set p n') ∧ fv 5 = p4 ∧ Fr PR (lookN types) glob 78 [2,3,4,5,6,13] fv KE W0.heap.size N a W (rcL b (.spot l) ts x' p s n) ∧
  Mid KE J pre ((ratesTo s.lo n).flatMap fun n => wholeGo b l f (p + 1) (x.set p n)) N0 W0 N W) (s.hi + 1).toNat ⟨0,by omega,x,N2,_,hx,fun _ => rfl,hfv1,hN2.fr,hmid2⟩ ?_)
 rintro k a W ⟨n,hk,x',N,fv,hx',hset,hfv,hfr,hmid⟩
 refine wpIn_seq (hfr.path mixed_ok types_ok hJ hmid.j (fun ke no w1 => ⟨_,rc_14 b (.spot l) ts x' p ke no w1 fv s n,trivial⟩) (by kernel_rfl) (by kernel_rfl) fun a3 W3 N3 hN3 => ?_)
 have hmid3 := hmid.step hN3 hKE hN0
 have h60 : a3.tmps.getD 60 undef = .bool (decide ((n : Int) < s.hi + 1)) := hN3.fr.val (i := 60) rfl rfl
 show Code.wpIn _ _ _ _ _ _ _
 by_cases hlt : (n : Int) < s.hi + 1
 ·rw [decide_eq_true hlt] at h60
  refine wpIn_seq (wpIn_cond_true h60 (wpIn_skip ?_))
  show Code.wpIn _ _ _ _ _ _ _
  have hf3 := hN3.fr.drop rcLK (by kernel_rfl) (by kernel_rfl) (L' := rcL b (.spot l) ts x' p s n) (by kernel_rfl) (by kernel_rfl)
  have hnext : ∀ (a4 : Act) (V4 : World) (N4 : Nat → Prop) (fv4 : Nat → Value) (x4 : W4),W4Ok x4 → (∀ n',x4.set p n' = x.set p n') → fv4 5 = p4 → Fr PR (lookN types) glob 78 [2,3,4,5,6,13] fv4 KE W0.heap.size N4 a4 V4 (rcL b (.spot l) ts x4 p s n) →
    Mid KE J pre ((ratesTo s.lo (n + 1)).flatMap fun n => wholeGo b l f (p + 1) (x.set p n)) N0 W0 N4 V4 → ∀ {Q' : Exit → Act → World → Prop},(∀ a' w',(∃ n',n' < k ∧ ∃ n : Nat,n' + n = (s.hi + 1).toNat ∧ ∃ x' N fv,W4Ok x' ∧ (∀ n',x'.set p n' = x.set p n') ∧ fv 5 = p4 ∧ Fr PR (lookN types) glob 78 [2,3,4,5,6,13] fv KE W0.heap.size N a' w' (rcL b (.spot l) ts x' p s n) ∧
     Mid KE J pre ((ratesTo s.lo n).flatMap fun n => wholeGo b l f (p + 1) (x.set p n)) N0 W0 N w') → Q' .normal a' w') → (Code.at [1,0,1,1,1,0,1,0,0,1,1,1] (body Tryd.f194)).wpIn (FR none) 0 PR Q' a4 V4 := by
   intro a4 V4 N4 fv4 x4 h1 h2 h3 h4 h5 Q' hQ'
   refine h4.path mixed_ok types_ok hJ h5.j (fun ke no w1 => ⟨_,rc_20 b (.spot l) ts x4 p ke no w1 fv4 s n,by simp only [inI64]; omega,trivial⟩) (by kernel_rfl) (by kernel_rfl) fun a5 W5 N5 hN5 => ?_
   exact hQ' _ _ ⟨k - 1,by omega,n + 1,by omega,x4,N5,fv4,h1,h2,h3,hN5.fr,h5.step hN5 hKE hN0⟩
  refine wpIn_seq (wpIn_block (wpIn_seq (hf3.path mixed_ok types_ok hJ hmid3.j (fun ke no w1 => ⟨_,rc_15 b (.spot l) ts x' p ke no w1 fv s n,trivial⟩) (by kernel_rfl) (by kernel_rfl) fun a4 V4 N4 hN4 => ?_)))
  have hmid4 := hmid3.step hN4 hKE hN0
  show Code.wpIn _ _ _ _ _ _ _
  refine wpIn_seq (wpIn_seq (hN4.fr.path mixed_ok types_ok hJ hmid4.j (fun ke no w1 => ⟨_,rc_16 b (.spot l) ts x' p ke no w1 fv s n,low_con,by omega,lowF_con s,trivial⟩) (by kernel_rfl) (by kernel_rfl) fun a5 W5 N5 hN5 => ?_))
  have hmid5 := hmid4.step hN5 hKE hN0
  have h67 : a5.tmps.getD 67 undef = .bool (decide ((n : Int) < s.lo)) := hN5.fr.val (i := 67) rfl rfl
  show Code.wpIn _ _ _ _ _ _ _
  by_cases hlo : (n : Int) < s.lo
  ·rw [decide_eq_true hlo] at h67
   refine wpIn_cond_true h67 (wpIn_exit ?_)
   have hf5 := hN5.fr.drop rcLK (by kernel_rfl) (by kernel_rfl) (L' := rcL b (.spot l) ts x' p s n) (by kernel_rfl) (by kernel_rfl)
   show Code.wpIn _ _ _ _ _ _ _
   refine hnext a5 W5 N5 fv x' hx' hset hfv hf5 ?_ (fun a' w' h => h)
   rw [ratesTo_succ,if_neg (by omega),List.append_nil]
   exact hmid5
  ·rw [decide_eq_false hlo] at h67
   refine wpIn_cond_false h67 (wpIn_skip ?_)
   have hf5 := hN5.fr.drop (rcLK ++ [.tmp 14]) (by kernel_rfl) (by kernel_rfl) (L' := rcL b (.spot l) ts x' p s n ++ [(.tmp 14,.d (.int .i64 n))]) (by kernel_rfl) (by kernel_rfl)
   show Code.wpIn _ _ _ _ _ _ _
   -- the store
   have hstore : ∀ {Q' : Exit → Act → World → Prop},(∀ a' W' N',FrNext PR (lookN types) glob 78 [2,3,4,5,6,13] fv KE W0.heap.size N5 N' J (pre ++ (ratesTo s.lo n).flatMap fun n => wholeGo b l f (p + 1) (x.set p n)) a' W5 W' (rcL b (.spot l) ts (x'.set p n) p s n) → Q' .normal a' W') →
     (Code.at [1,0,1,1,1,0,1,0,0,1,1,0,0,1,1,0] (body Tryd.f194)).wpIn (FR none) 0 PR Q' a5 W5 := by
    intro Q' hQ'
    have hp4 : p < 4 := by omega
    clear hnext hset hw
    match p,hp4,hf5,hQ' with
    | 0,_,hf5,hQ' => exact hf5.path mixed_ok types_ok hJ hmid5.j (fun ke no w1 => ⟨_,rc_17_0 b (.spot l) ts x' ke no w1 fv s n,⟨by omega,by omega⟩,trivial⟩) (by kernel_rfl) (by kernel_rfl) hQ'
    | 1,_,hf5,hQ' => exact hf5.path mixed_ok types_ok hJ hmid5.j (fun ke no w1 => ⟨_,rc_17_1 b (.spot l) ts x' ke no w1 fv s n,⟨by omega,by omega⟩,trivial⟩) (by kernel_rfl) (by kernel_rfl) hQ'
    | 2,_,hf5,hQ' => exact hf5.path mixed_ok types_ok hJ hmid5.j (fun ke no w1 => ⟨_,rc_17_2 b (.spot l) ts x' ke no w1 fv s n,⟨by omega,by omega⟩,trivial⟩) (by kernel_rfl) (by kernel_rfl) hQ'
    | 3,_,hf5,hQ' => exact hf5.path mixed_ok types_ok hJ hmid5.j (fun ke no w1 => ⟨_,rc_17_3 b (.spot l) ts x' ke no w1 fv s n,⟨by omega,by omega⟩,trivial⟩) (by kernel_rfl) (by kernel_rfl) hQ'
    | _ + 4,h,_,_ => omega
   refine wpIn_seq (hstore fun a6 W6 N6 hN6 => ?_)
   have hmid6 := hmid5.step hN6 hKE hN0
   have hfv6 : a6.tmps.getD 5 undef = p4 := (hN6.fr.fixed 5 (by simp)).trans hfv
   show Code.wpIn _ _ _ _ _ _ _
   refine wpIn_seq (wp_text (by kernel_rfl) ?_)
   have hsz : (rops (Code.at [1,0,1,1,1,0,1,0,0,1,1,0,0,1,1,1,0] (body Tryd.f194))).size = 6 := by kernel_rfl
   rw [hsz]
   show wpOps _ _ _ (0 :: [1,2,3,4,5]) _ _
   obtain ⟨b5,hb1,hb2,hb3⟩ := hcaps.wear
   have hc5 : W6.cell? ⟨b5,0,none⟩ = some (.func (.func 194) #[] #[p1,p3,p2,p4]) := by rw [cell_same (hmid6.same b5 (.inr hb2))]; exact hb3
   obtain ⟨o0,h00,h01,h02,h03⟩ := (opAt (ops := (rops (Code.at [1,0,1,1,1,0,1,0,0,1,1,0,0,1,1,1,0] (body Tryd.f194)))) (i := 0) (dst := some 71) (op := .load 208 (.tmp 5)) (by kernel_rfl)).at_
   refine wpOps_hand (v := .func (.func 194) #[] #[p1,p3,p2,p4]) (w' := W6) h00 h01 ?_ ?_
   ·have hev : a6.eval (.tmp 5) = .pointer (some ⟨b5,0,none⟩) := hfv6.trans hb1
    simp only [execOp,h03,hev]
    simp [run_loadv (P := PR) types_ok (t := 208) (ti := ⟨.other,1,8,[.nilfn],none,false⟩) (by kernel_rfl) rfl rfl hc5]
   rw [h02]
   have hlt71 : 71 < a6.tmps.size := by
    obtain ⟨β,σ,R,hi⟩ := hN6.fr
    have h78 : 78 ≤ a6.tmps.size := hi.inv.nt
    omega
   have hf6 := (hN6.fr.putAny 71 (by decide) (by decide) (by kernel_rfl) (.func (.func 194) #[] #[p1,p3,p2,p4])).fix [2,3,4,5,6,13,71]
   have hfv6' : (a6.put (some 71) (.func (.func 194) #[] #[p1,p3,p2,p4])).tmps.getD 5 undef = p4 := by rw [getD_put a6 71 _ 5 hlt71,if_neg (by decide)]; exact hfv6
   show wpOps _ _ _ (List.range' 1 [(rops (Code.at [1,0,1,1,1,0,1,0,0,1,1,0,0,1,1,1,0] (body Tryd.f194)))[1],(rops (Code.at [1,0,1,1,1,0,1,0,0,1,1,0,0,1,1,1,0] (body Tryd.f194)))[2],(rops (Code.at [1,0,1,1,1,0,1,0,0,1,1,0,0,1,1,1,0] (body Tryd.f194)))[3]].length ++ [4,5]) _ _
   refine hf6.ops hJ hmid6.j types_ok (l := [(rops (Code.at [1,0,1,1,1,0,1,0,0,1,1,0,0,1,1,1,0] (body Tryd.f194)))[1],(rops (Code.at [1,0,1,1,1,0,1,0,0,1,1,0,0,1,1,1,0] (body Tryd.f194)))[2],(rops (Code.at [1,0,1,1,1,0,1,0,0,1,1,0,0,1,1,1,0] (body Tryd.f194)))[3]]) (fun j o hj => ?_) (fun ke no w1 => ⟨_,rc_18a b (.spot l) ts (x'.set p n) p ke no w1 _ s n,by omega,by simp only [inI64]; omega,trivial⟩) (noObs_ok (by kernel_rfl)) (keepOk_ok (by kernel_rfl)) fun a7 W7 N7 hN7 => ?_
   ·match j,hj with
    | 0,hj => simp only [List.getElem?_cons_zero,Option.some.injEq] at hj; subst hj; exact Array.getElem?_eq_getElem _
    | 1,hj => simp only [List.getElem?_cons_succ,List.getElem?_cons_zero,Option.some.injEq] at hj; subst hj; exact Array.getElem?_eq_getElem _
    | 2,hj => simp only [List.getElem?_cons_succ,List.getElem?_cons_zero,Option.some.injEq] at hj; subst hj; exact Array.getElem?_eq_getElem _
   have hmid7 := hmid6.step hN7 hKE hN0
   have h71 : a7.tmps.getD 71 undef = .func (.func 194) #[] #[p1,p3,p2,p4] := by
    rw [hN7.fr.fixed 71 (by simp),getD_put a6 71 _ 71 hlt71,if_pos rfl]
   have h72 : a7.tmps.getD 72 undef = w4V (x'.set p n) := hN7.fr.val (i := 72) rfl rfl
   have h74 : a7.tmps.getD 74 undef = .int .i64 ((p : Int) + 1) := hN7.fr.val (i := 74) rfl rfl
   have hfv7 : a7.tmps.getD 5 undef = p4 := (hN7.fr.fixed 5 (by simp)).trans hfv6'
   obtain ⟨o4,h40,h41,h42,h43⟩ := (opAt (ops := (rops (Code.at [1,0,1,1,1,0,1,0,0,1,1,0,0,1,1,1,0] (body Tryd.f194)))) (i := 4) (dst := some 75) (op := .call { callee := .value (.tmp 71),args := #[.tmp 72,.tmp 74],argTypes := #[140,3] }) (by kernel_rfl)).at_
   obtain ⟨fn,f1,f2,f3⟩ := wear_fn
   have hgo : ∃ post,(pre ++ (ratesTo s.lo n).flatMap fun n => wholeGo b l f (p + 1) (x.set p n)) ++ wholeGo b l f (p + 1) (x'.set p n) ++ post = xs := by
    obtain ⟨post,hpost⟩ := hxs
    obtain ⟨r,hr⟩ := ratesTo_le s.lo (show n + 1 ≤ (s.hi + 1).toNat by omega)
    have e1 : wholeGo b l (f + 1) p x = (ratesF s).flatMap fun n => wholeGo b l f (p + 1) (x.set p n) := by rw [hs]; rfl
    refine ⟨(r.flatMap fun n => wholeGo b l f (p + 1) (x.set p n)) ++ post,?_⟩
    rw [← hpost,e1,ratesF,hr,ratesTo_succ,if_pos (by omega),hset]
    simp [List.flatMap_append,List.append_assoc]
   have hcl := ih (x'.set p n) _ N7 W7 (hx'.set p ⟨by omega,by omega⟩) hgo hmid7.j (fun b hb => Nat.lt_of_lt_of_le (hKE b hb) hmid7.size) hmid7.own (hcaps.after hmid7.le hmid7.same)
   have hcl' : Calls PR 194 (#[w4V (x'.set p n),.int .i64 ((p : Int) + 1)] ++ #[p1,p3,p2,p4]) W7 (WearPost KE J (pre ++ (ratesTo s.lo n).flatMap fun n => wholeGo b l f (p + 1) (x.set p n)) (wholeGo b l f (p + 1) (x'.set p n)) N7 W7) := by
    rw [show ((p : Int) + 1) = ((p + 1 : Nat) : Int) by omega]
    exact hcl
   refine wpOps_callv h40 h41 h43 rfl h71 (vs := #[w4V (x'.set p n),.int .i64 ((p : Int) + 1)]) (by simp only [List.map_toArray,List.map_cons,List.map_nil]; show #[a7.tmps.getD 72 undef,a7.tmps.getD 74 undef] = _; rw [h72,h74]) f1 f2 f3 hcl' ?_
   rintro e W8 ⟨rfl,N8,hm8⟩
   refine ⟨_,rfl,?_⟩
   rw [h42]
   have hmid8 := hmid7.more hm8
   have hf8 := ((hN7.fr.after hm8.le hm8.own hm8.size hm8.same).put 75 (by decide) (by decide) (x := .bool true) (v := .bool true) (fun _ => rfl)).fix [2,3,4,5,6,13]
   have hlt75 : 75 < a7.tmps.size := by
    obtain ⟨β,σ,R,hi⟩ := hN7.fr
    have h78 : 78 ≤ a7.tmps.size := hi.inv.nt
    omega
   have hfv8 : (a7.put (some 75) (.bool true)).tmps.getD 5 undef = p4 := by rw [getD_put a7 75 _ 5 hlt75,if_neg (by decide)]; exact hfv7
   show wpOps _ _ _ (List.range' 5 [(rops (Code.at [1,0,1,1,1,0,1,0,0,1,1,0,0,1,1,1,0] (body Tryd.f194)))[5]].length ++ []) _ _
   refine hf8.ops hJ hmid8.j types_ok (l := [(rops (Code.at [1,0,1,1,1,0,1,0,0,1,1,0,0,1,1,1,0] (body Tryd.f194)))[5]]) (fun j o hj => ?_) (fun ke no w1 => ⟨_,rc_18b b (.spot l) ts (x'.set p n) p ke no w1 _ s n,trivial⟩) (noObs_ok (by kernel_rfl)) (keepOk_ok (by kernel_rfl)) fun a9 W9 N9 hN9 => ?_
   ·match j,hj with
    | 0,hj => simp only [List.getElem?_cons_zero,Option.some.injEq] at hj; subst hj; exact Array.getElem?_eq_getElem _
   have hmid9 := hmid8.step hN9 hKE hN0
   show Code.wpIn _ _ _ _ _ _ _
   have h76 : a9.tmps.getD 76 undef = .bool false := hN9.fr.val (i := 76) rfl rfl
   refine wpIn_cond_false h76 (wpIn_skip ?_)
   show Code.wpIn _ _ _ _ _ _ _
   have hf9 := hN9.fr.drop rcLK (by kernel_rfl) (by kernel_rfl) (L' := rcL b (.spot l) ts (x'.set p n) p s n) (by kernel_rfl) (by kernel_rfl)
   refine hnext a9 W9 N9 _ (x'.set p n) (hx'.set p ⟨by omega,by omega⟩) (fun n' => by rw [set_set]; exact hset n') hfv8 hf9 ?_ (fun a' w' h => h)
   rw [ratesTo_succ,if_pos (by omega),List.flatMap_append,List.flatMap_singleton,← hset]
   exact hmid9
 ·rw [decide_eq_false hlt] at h60
  refine wpIn_seq (wpIn_cond_false h60 (wpIn_exit ?_))
  have hf3 := hN3.fr.drop rcK (by kernel_rfl) (by kernel_rfl) (L' := rcS b (.spot l) ts x' p s) (by kernel_rfl) (by kernel_rfl)
  show Code.wpIn _ _ _ _ _ _ _
  refine wpIn_seq (hf3.path mixed_ok types_ok hJ hmid3.j (fun ke no w1 => ⟨_,rc_21 b (.spot l) ts x' p ke no w1 fv s,trivial⟩) (by kernel_rfl) (by kernel_rfl) fun a4 V4 N4 hN4 => ?_)
  show Code.wpIn _ _ _ _ _ _ _
  refine wpIn_ret (hret _ _ ⟨hN4.fr.defers,hN4.fr.val (i := 8) rfl rfl,N4,?_⟩)
  have e1 : wholeGo b l (f + 1) p x = (ratesTo s.lo n).flatMap fun n => wholeGo b l f (p + 1) (x.set p n) := by
   rw [show n = (s.hi + 1).toNat by omega,hs]
   rfl
  rw [e1]
  exact hmid3.step hN4 hKE hN0

theorem wear_head (hJ : Abides J) {f p : Nat} {x : W4} (hx : W4Ok x) {pre : List TrC} {N0 : Nat → Prop} {W0 : World} (hj : J pre N0 W0) (hKE : ∀ b,KE b → b < W0.heap.size) (hN0 : ∀ b,N0 b → b < W0.heap.size) (hcaps : Caps b l ts KE y p1 p2 p3 p4 N0 W0)
  (hleaf : p = b.secs.length → ∀ (a : Act) (W : World) (N : Nat → Prop) (fv : Nat → Value) (Q : Exit → Act → World → Prop),Mid KE J pre [] N0 W0 N W → Fr PR (lookN types) glob 78 [2,3,4,5,6] fv KE W0.heap.size N a W (whS b (.spot l) ts x p) → fv 4 = p2 →
   (∀ a' W',Done KE J pre (wholeGo b l f p x) N0 W0 a' W' → Q .ret a' W') → (Code.at [1,0,0,1,0] (body Tryd.f194)).wpIn (FR none) 0 PR Q a W)
  (hrec : p ≠ b.secs.length → ∀ (a : Act) (W : World) (N : Nat → Prop) (fv : Nat → Value) (Q : Exit → Act → World → Prop),Mid KE J pre [] N0 W0 N W → Fr PR (lookN types) glob 78 [2,3,4,5,6] fv KE W0.heap.size N a W (whS b (.spot l) ts x p) → fv 5 = p4 →
   (∀ a' W',Done KE J pre (wholeGo b l f p x) N0 W0 a' W' → Q .ret a' W') → (Code.at [1,0,1] (body Tryd.f194)).wpIn (FR none) 0 PR Q a W) :
  Calls PR 194 #[w4V x,.int .i64 p,p1,p3,p2,p4] W0 (WearPost KE J pre (wholeGo b l f p x) N0 W0) := by
 refine calls_of_wp (fn := Tryd.f194) (c := body Tryd.f194) (by kernel_rfl) (by kernel_rfl) ((wpIn_wide (n := 0)).1 ?_)
 have hcode : body Tryd.f194 = .seq (Code.at [0] (body Tryd.f194)) (.scope (.seq (.seq (Code.at [1,0,0,0] (body Tryd.f194)) (.cond (.tmp 20) (Code.at [1,0,0,1,0] (body Tryd.f194)) .skip)) (Code.at [1,0,1] (body Tryd.f194)))) := by kernel_rfl
 obtain ⟨R,h1,h2,h3,h4⟩ := hcaps.foot
 have hfr := Fr.enter (P := PR) (tt := lookN types) (glob := glob) (n := 78) (fx := [2,3,4,5]) (KE := KE) (N := N0) (W := W0) (R := R) (args := [w4D x,.int .i64 p,.ref (cellsOf (bkD b (.spot l) ts)) 0,.ref [.fn 193 [bkD b (.spot l) ts] []] 0]) (vs := #[w4V x,.int .i64 p,p1,p3,p2,p4]) hN0 hKE h1 h4 (fun i d hi => by
  match i,hi with
  | 0,hi => cases hi; exact ⟨_,rfl,⟨_,rfl,rfl,rfl,rfl,rfl,trivial⟩⟩
  | 1,hi => cases hi; exact ⟨_,rfl,rfl⟩
  | 2,hi => cases hi; exact ⟨_,rfl,h2⟩
  | 3,hi => cases hi; exact ⟨_,rfl,h3⟩)
 have hmid0 : Mid KE J pre [] N0 W0 N0 W0 := ⟨fun _ h => h,by rw [List.append_nil]; exact hj,Nat.le_refl _,fun _ _ => rfl,hN0⟩
 have hnt : (Tryd.f194).ntmps = 78 := by kernel_rfl
 rw [hnt]
 show Code.wpIn (FR none) 0 _ (body Tryd.f194) _ _ _
 rw [hcode]
 refine wpIn_seq (hfr.path mixed_ok types_ok hJ hmid0.j (fun ke no w1 => ⟨_,wh_0 b (.spot l) ts x p ke no w1 _,trivial⟩) (by kernel_rfl) (by kernel_rfl) fun a1 W1 N1 hN1 => ?_)
 have hmid1 := hmid0.step hN1 hKE hN0
 have hf1 := hN1.fr.fix [2,3,4,5,6]
 have h4' : a1.tmps.getD 4 undef = p2 := hN1.fr.fixed 4 (by simp)
 have h5' : a1.tmps.getD 5 undef = p4 := hN1.fr.fixed 5 (by simp)
 show Code.wpIn _ _ _ _ _ _ _
 refine wpIn_scope (wpIn_seq (wpIn_seq (hf1.path mixed_ok types_ok hJ hmid1.j (fun ke no w1 => ⟨_,wh_1 b (.spot l) ts x p ke no w1 _,trivial⟩) (by kernel_rfl) (by kernel_rfl) fun a2 W2 N2 hN2 => ?_)))
 have hmid2 := hmid1.step hN2 hKE hN0
 have h20 : a2.tmps.getD 20 undef = .bool ((p : Int) == b.secs.length) := hN2.fr.val (i := 20) rfl rfl
 have hf2 := hN2.fr.drop whK (by kernel_rfl) (by kernel_rfl) (L' := whS b (.spot l) ts x p) (by kernel_rfl) (by kernel_rfl)
 have hfin : ∀ a' W',Done KE J pre (wholeGo b l f p x) N0 W0 a' W' → bodyPost PR Tryd.f194 (WearPost KE J pre (wholeGo b l f p x) N0 W0) .ret a' W' := by
  rintro a' W' ⟨d1,d2,N',d3⟩
  refine ⟨d1,.bool true,?_,rfl,N',d3⟩
  have := results_run (P := PR) (a := a') (w := W') (fn := Tryd.f194) (rs := [.tmp 8]) (by kernel_rfl) (vs := [.bool true]) ⟨d2.symm,trivial⟩
  simpa using this
 show Code.wpIn _ _ _ _ _ _ _
 by_cases hp : p = b.secs.length
 ·have h20' : a2.tmps.getD 20 undef = .bool true := by rw [h20]; simp [hp]
  exact wpIn_cond_true h20' (hleaf hp a2 W2 N2 _ _ hmid2 hf2 h4' hfin)
 ·have h20' : a2.tmps.getD 20 undef = .bool false := by
   rw [h20]
   congr 1
   rw [beq_eq_false_iff_ne]
   omega
  exact wpIn_cond_false h20' (wpIn_skip (hrec hp a2 W2 N2 _ _ hmid2 hf2 h5' hfin))

theorem wear_ok (hJ : Abides J) (hy : YieldOk KE xs y J) (hn : b.secs.length ≤ 4) (ht : b.turns.length ≤ 1000) (hl : ∀ e ∈ l,EntOk e) (hw : ∀ p < b.secs.length,0 ≤ (b.secs.getD p sec0).w.lo ∧ -1 ≤ (b.secs.getD p sec0).w.hi ∧ (b.secs.getD p sec0).w.hi ≤ 1000) :
  ∀ (f p : Nat),f + p = b.secs.length → WearOk b l ts KE xs y J p1 p2 p3 p4 f p := by
 intro f
 induction f with
 | zero =>
  intro p hp x pre N0 W0 hx hxs hj hKE hN0 hcaps
  exact wear_head hJ hx hj hKE hN0 hcaps (fun _ a W N fv Q hmid hfr hfv hret => wear_leaf hJ hy hn ht hl hx hKE hN0 hcaps hmid hfr hfv hxs hret) (fun h => absurd (by omega) h)
 | succ f ih =>
  intro p hp x pre N0 W0 hx hxs hj hKE hN0 hcaps
  exact wear_head hJ hx hj hKE hN0 hcaps (fun h => by omega) (fun _ a W N fv Q hmid hfr hfv hret => wear_rec hJ (ih (p + 1) (by omega)) (by omega) hn (hw p (by omega)) hx hKE hN0 hcaps hmid hfr hfv hxs hret)
end
end Go.Di

namespace Go.Di
open Proofs
def wiS (b : Book) (m : Mp) (ts : List TrC) : List (Key × Val) := [(.tmp 0,.d .undef),(.tmp 1,.d (.ref (cellsOf (bkD b m ts)) 0))]
def wiS1 (b : Book) (m : Mp) (ts : List TrC) : List (Key × Val) := [(.tmp 1,.d (.ref (cellsOf (bkD b m ts)) 0)),(.tmp 3,.d (.ptr 3 0)),(.box 3,.bx (some ⟨false,[.fn 193 [bkD b m ts] []]⟩))]
theorem wi_1 (b : Book) (m : Mp) (ts : List TrC) (ke no : Nat → Prop) (w1 : World) (fv : Nat → Value) :
  runK (mkF PR (lookN types) glob 11 ke no w1 [0,1,2] fv) [] [] [] (Code.at [1,0] (body Tryd.f192)) (wiS b m ts) [.tmp 1,.tmp 3,.box 3] =
   some ([],.normal,wiS1 b m ts) := by kernel_rfl
theorem wi_2 (b : Book) (m : Mp) (ts : List TrC) (ke no : Nat → Prop) (w1 : World) (fv : Nat → Value) :
  runK (mkF PR (lookN types) glob 11 ke no w1 [0,1,2,3] fv) [] [] [] (Code.at [1,1,0] (body Tryd.f192)) (wiS1 b m ts) [.tmp 1,.tmp 3,.box 3,.tmp 4,.box 4] =
   some ([],.normal,wiS1 b m ts ++ [(.tmp 4,.d (.ptr 4 0)),(.box 4,.bx (some ⟨false,[.nilfn]⟩))]) := by kernel_rfl
end Go.Di

