/- Part 7: an interpreter over plain data for this code, with the proof that it says what the model does, and the contracts of the functions. No condition. -/
import Derived.Test.YtfkmodcjddfeiaaDoorDi06
import Derived.CallsIn
import Derived.Scope
import Derived.Sort.LoopGhostIn
set_option linter.unusedVariables false
set_option linter.unusedSimpArgs false
/-
 DI,part K: regions,in the order of the text and in any order that they may draw.
-/
namespace Go.Di
open Go.RowKit

section
variable {P : Program} {C : Cfg} {w0 w : World} {R0 R : Foot} {a : Act} {s : St} {β : Nat → Nat} {σ : Sig} {o : Oper} {wr : List (Key × Val)} {K : Act → World → Prop} {Q : Exit → Act → World → Prop}

theorem semG_ok (hT : TabOk P C.tt) (hC : ConOk P C) {ops : Array Oper} {i : Nat} (ho : ops[i]? = some o) {dec : List (Nat × Bool)} {orc : List (Nat × D)} (hH : Holds C w0 R0 a w s)
  (hK : ∀ a' w',Holds C w0 R0 a' w' (s.apply wr) → K a' w') (h : (semG C dec orc ops o).Ok s wr) : wpOp P ops Q i K a w := by
 obtain ⟨β,σ,R,hI⟩ := hH
 unfold wpOp
 rw [ho]
 simp only
 unfold semG at h
 split at h
 ·rename_i hg
  have : Region.wanted o (yielded ops a.tmps) = true := by simp [Region.wanted,hg]
  rw [this]
  simp only [if_true]
  exact .inl (sem_ok hT hC hI hK h)
 ·rename_i j b hg
  split at h
  ·rename_i t ht
   have key : ∀ c,s (.tmp t) = .d (.bool c) → (match Bool.xor c b with | false => sem C dec orc o | true => setTmp C o.dst (.tup [])).Ok s wr →
     (if Region.wanted o (yielded ops a.tmps) = true then o.wp P a w K Q ∨ (o.asks P a w ∧ LetsOut Q) else K (a.put o.dst undef) w) := by
    intro c hc h
    have hv := hI.tmps t
    simp only [St.tmp,hc] at hv
    have hv : a.tmps.getD t undef = .bool c := hv
    have hy : yielded ops a.tmps j = some c := by
     simp only [Option.bind_eq_some_iff] at ht
     obtain ⟨o',ho',hd⟩ := ht
     have hget : a.tmps[t]? = some (.bool c) := by
      rw [Array.getD_eq_getD_getElem?] at hv
      cases hq : a.tmps[t]? with
      | none => rw [hq] at hv; cases hv
      | some x => rw [hq] at hv; exact congrArg some hv
     simp [yielded,ho',hd,hget]
    have hw : Region.wanted o (yielded ops a.tmps) = (c == b) := by
     simp [Region.wanted,hg,hy]
    rw [hw]
    cases hcb : (c == b) with
    | true =>
     have : Bool.xor c b = false := by
      have := eq_of_beq hcb
      subst this
      simp
     rw [this] at h
     simp only [if_true]
     exact .inl (sem_ok hT hC hI hK h)
    | false =>
     have : Bool.xor c b = true := by
      cases c <;> cases b <;> first | rfl | (simp at hcb)
     rw [this] at h
     simp only [Bool.false_eq_true,if_false]
     exact hK _ _ ⟨β,σ,R,setTmp_ok hI h (d := .tup []) (v := undef) ⟨#[],rfl,trivial⟩⟩
   simp only [M.Ok] at h
   split at h
   ·rename_i c hc
    split at h
    ·rename_i u hu
     simp only [M.Ok] at h
     obtain ⟨rfl,h⟩ := h
     exact key c hc h
    ·exact key c hc h
   ·rename_i hc
    have hv := hI.tmps t
    simp only [St.tmp,hc] at hv
    obtain ⟨vs,hv,h0⟩ := hv
    have hv0 := all2_nil h0
    have hvs : vs = #[] := by rw [← Array.toArray_toList (xs := vs),hv0]
    subst hvs
    have hw : Region.wanted o (yielded ops a.tmps) = false := by
     simp only [Option.bind_eq_some_iff] at ht
     obtain ⟨o',ho',hd⟩ := ht
     have hy : yielded ops a.tmps j = none := by
      have hget : a.tmps[t]? = none ∨ a.tmps[t]? = some (.tuple #[]) := by
       rw [Array.getD_eq_getD_getElem?] at hv
       cases hq : a.tmps[t]? with
       | none => exact .inl rfl
       | some x => rw [hq] at hv; exact .inr (congrArg some hv)
      rcases hget with hget | hget <;> simp [yielded,ho',hd,hget]
     simp [Region.wanted,hg,hy]
    rw [hw]
    simp only [Bool.false_eq_true,if_false]
    exact hK _ _ ⟨β,σ,R,setTmp_ok hI h (d := .tup []) (v := undef) ⟨#[],rfl,trivial⟩⟩
   ·exact h.elim
  ·exact h.elim

theorem psOf_mem {es : List Eff} {e : Eff} {p : Prop} (he : e ∈ es) (hp : p ∈ e.ps) : p ∈ psOf es := by
 induction es with
 | nil => cases he
 | cons x l ih =>
  simp only [psOf,List.mem_append]
  rcases List.mem_cons.1 he with rfl | he
  ·exact .inl hp
  ·exact .inr (ih he)

theorem runL_text (hT : TabOk P C.tt) (hC : ConOk P C) {ops : Array Oper} {dec : List (Nat × Bool)} {orc : List (Nat × D)} :
  ∀ (l : List Oper) (k : Nat) (s : St) (a : Act) (w : World) (es : List Eff) (s' : St),(∀ j,l[j]? = ops[k + j]?) → runL C dec orc ops l s = some (es,s') → (∀ p ∈ psOf es,p) → Holds C w0 R0 a w s → (∀ a' w',Holds C w0 R0 a' w' s' → Q .normal a' w') →
   wpOps P ops Q (List.range' k l.length) a w
 | [],k,s,a,w,es,s',_,h,_,hH,hQ => by
  cases h
  exact hQ _ _ hH
 | o :: l,k,s,a,w,es,s',hl,h,hp,hH,hQ => by
  simp only [runL] at h
  split at h
  ·rename_i e he
   split at h
   ·rename_i es' s1 hes
    cases h
    have ho : ops[k]? = some o := by have := hl 0; simpa using this.symm
    rw [List.length_cons,List.range'_succ,wpOps_cons]
    refine semG_ok hT hC ho hH (fun a' w' hH' => runL_text hT hC l (k + 1) _ a' w' es' _ (fun j => by
     have := hl (j + 1)
     rw [show k + 1 + j = k + (j + 1) by omega]
     simpa using this) hes (fun p hpp => hp p (by simp [psOf,hpp])) hH' hQ) (M.exec_ok _ _ _ he fun p hpp => hp p (by simp [psOf,hpp]))
   ·cases h
  ·cases h

theorem region_text (hT : TabOk P C.tt) (hC : ConOk P C) {ops : Array Oper} {dec : List (Nat × Bool)} {orc : List (Nat × D)} {s' : St} {es : List Eff}
  (h : runL C dec orc ops ops.toList s = some (es,s')) (hp : ∀ p ∈ psOf es,p) (hH : Holds C w0 R0 a w s) (hQ : ∀ a' w',Holds C w0 R0 a' w' s' → Q .normal a' w') : wpOps P ops Q (List.range ops.size) a w := by
 rw [List.range_eq_range']
 have := runL_text (Q := Q) hT hC ops.toList 0 s a w es _ (fun j => by simp) h hp hH hQ
 simpa using this

/-! ### At a fence that lets all pass,in a round or in none -/
def FR (ro : Option Nat) : Fence := { Fence.wide with round := ro }

theorem opIn {o : Oper} {ro : Option Nat} {n : Nat} (hd : ∀ c,o.op ≠ .defer c) (h : o.wp P a w K Q) : o.wpIn (FR ro) n P a w K Q := by
 refine ⟨fun _ _ => trivial,?_⟩
 rw [show (FR ro).round = ro from rfl,Oper.semAt_eq ro a.eval o hd]
 unfold Oper.wp at h
 generalize (execOp a.eval o).run P w = r at h
 have hdep : (FR ro).depth.isSome = true → 1 ≤ n := fun x => by simp [FR,Fence.wide] at x
 cases r with
 | ok nx w' =>
  cases nx with
  | value v => exact h
  | skip => exact h
  | enter f args => exact ⟨hdep,callsIn_wide.2 h⟩
  | row r args =>
   refine ⟨hdep,fun c cs _ => ?_⟩
   obtain ⟨v,w'',hr,hs⟩ := h c cs
   exact ⟨v,w'',hr,stepsIn_wide.2 hs⟩
  | defer d => exact h
  | _ => exact h.elim
 | halt x w' => cases x <;> first | exact h | exact h.elim

theorem opsIn {ops : Array Oper} {ro : Option Nat} {n : Nat} (hd : noDefer ops.toList = true) (hq : ¬ LetsOut Q) : ∀ (l : List Nat) (a : Act) (w : World),wpOps P ops Q l a w → wpOpsIn (FR ro) n P ops Q l a w
 | [],a,w,h => h
 | i :: l,a,w,h => by
  unfold wpOps at h
  unfold wpOpsIn
  cases ho : ops[i]? with
  | none =>
   rw [ho] at h
   exact opsIn hd hq l a w h
  | some o =>
   rw [ho] at h
   simp only at h ⊢
   by_cases hw : Region.wanted o (yielded ops a.tmps) = true
   ·rw [if_pos hw] at h ⊢
    rcases h with h | h
    ·refine opIn (fun c hc => ?_) (Oper.wp_mono (fun a w hk => opsIn hd hq l a w hk) h)
     have hm : o ∈ ops.toList := by
      have := Array.mem_of_getElem? ho
      simpa using this
     have := List.all_eq_true.1 hd o hm
     rw [hc] at this
     cases this
    ·exact absurd h.2 hq
   ·rw [if_neg hw] at h ⊢
    exact ⟨fun _ _ => trivial,opsIn hd hq l _ w h⟩

/-- An end without the way out. -/
def noOut (Q : Exit → Act → World → Prop) : Exit → Act → World → Prop
 | .outgrown,_,_ => False
 | e,a,w => Q e a w
theorem noOut_out (Q : Exit → Act → World → Prop) : ¬ LetsOut (noOut Q) := fun ⟨_,_,h⟩ => h
theorem noOut_mono {Q : Exit → Act → World → Prop} {e : Exit} {a : Act} {w : World} (h : noOut Q e a w) : Q e a w := by cases e <;> first | exact h | exact h.elim

/-! ### Any order -/
theorem apply_at : ∀ (wr : List (Key × Val)) (s s' : St) (k : Key),s k = s' k → (s.apply wr) k = (s'.apply wr) k
 | [],_,_,_,h => h
 | (k',v) :: l,s,s',k,h => by
  rw [apply_cons,apply_cons]
  refine apply_at l _ _ k ?_
  unfold St.set
  split <;> first | rfl | exact h
theorem apply_not : ∀ (wr : List (Key × Val)) (s : St) (k : Key),memK k wr = false → (s.apply wr) k = s k
 | [],_,_,_ => rfl
 | (k',v) :: l,s,k,h => by
  simp only [memK,Bool.or_eq_false_iff] at h
  rw [apply_cons,apply_not l _ k h.2]
  unfold St.set
  have : k'.eqb k = false := by
   cases hq : k'.eqb k with
   | false => rfl
   | true =>
    have := eqb_eq hq
    subst this
    have h1 := h.1
    rw [hq] at h1
    cases h1
  rw [this]
theorem apply_in : ∀ (wr : List (Key × Val)) (s s' : St) (k : Key),memK k wr = true → (s.apply wr) k = (s'.apply wr) k
 | [],_,_,_,h => by cases h
 | (k',v) :: l,s,s',k,h => by
  rw [apply_cons,apply_cons]
  by_cases hl : memK k l = true
  ·exact apply_in l _ _ k hl
  ·simp only [memK,Bool.or_eq_true] at h
   have h1 : k.eqb k' = true := by
    rcases h with h | h
    ·exact h
    ·exact absurd h hl
   have := eqb_eq h1
   subst this
   refine apply_at l _ _ k ?_
   unfold St.set
   rw [h1]
theorem meet_false {a b : List (Key × Val)} (h : meetK a b = false) (k : Key) : memK k a = true → memK k b = false := by
 induction a with
 | nil => intro h; cases h
 | cons x l ih =>
  obtain ⟨k',v⟩ := x
  simp only [meetK,Bool.or_eq_false_iff] at h
  intro hk
  simp only [memK,Bool.or_eq_true] at hk
  rcases hk with hk | hk
  ·have := eqb_eq hk
   subst this
   exact h.1
  ·exact ih h.2 hk
theorem apply_comm {a b : List (Key × Val)} (h : meetK a b = false) (s : St) : (s.apply a).apply b = (s.apply b).apply a := by
 funext k
 by_cases ha : memK k a = true
 ·have hb := meet_false h k ha
  rw [apply_not b _ k hb]
  exact apply_in a _ _ k ha
 ·have ha : memK k a = false := by simpa using ha
  rw [apply_not a (s.apply b) k ha]
  exact apply_at b _ _ k (apply_not a s k ha)

/-- The state behind those effects whose numbers p names,in the order of the text. -/
def stOf (p : Nat → Bool) : Nat → List Eff → St → St
 | _,[],s => s
 | i,e :: l,s => stOf p (i + 1) l (match p i with | true => s.apply e.wr | false => s)

theorem stOf_at {p q : Nat → Bool} {k : Key} : ∀ (es : List Eff) (i : Nat) (s s' : St),(∀ j e,es[j]? = some e → p (i + j) ≠ q (i + j) → memK k e.wr = false) → s k = s' k → stOf p i es s k = stOf q i es s' k
 | [],_,_,_,_,h => h
 | e :: l,i,s,s',hd,h => by
  simp only [stOf]
  refine stOf_at l (i + 1) _ _ (fun j e' he hne => hd (j + 1) e' (by simpa using he) (by rw [show i + (j + 1) = i + 1 + j by omega]; exact hne)) ?_
  have h0 := hd 0 e rfl
  simp only [Nat.add_zero] at h0
  cases hp : p i <;> cases hq : q i <;> simp only [hp,hq] at h0 ⊢
  ·exact h
  ·rw [apply_not _ _ _ (h0 (by simp))]; exact h
  ·rw [apply_not _ _ _ (h0 (by simp))]; exact h
  ·exact apply_at _ _ _ _ h

theorem stOf_congr {p q : Nat → Bool} (es : List Eff) (i : Nat) (s : St) (h : ∀ j,j < es.length → p (i + j) = q (i + j)) : stOf p i es s = stOf q i es s := by
 funext k
 refine stOf_at es i s s (fun j e he hne => ?_) rfl
 exact absurd (h j (List.getElem?_eq_some_iff.1 he).1) hne

theorem stOf_comm {p : Nat → Bool} {wr : List (Key × Val)} : ∀ (es : List Eff) (i : Nat) (s : St),(∀ j e,es[j]? = some e → p (i + j) = true → meetK wr e.wr = false) → stOf p i es (s.apply wr) = (stOf p i es s).apply wr
 | [],_,_,_ => rfl
 | e :: l,i,s,h => by
  simp only [stOf]
  have ih := fun s => stOf_comm l (i + 1) s (fun j e' he hp => h (j + 1) e' (by simpa using he) (by rw [show i + (j + 1) = i + 1 + j by omega]; exact hp))
  cases hp : p i with
  | false => exact ih s
  | true =>
   simp only
   rw [apply_comm (h 0 e rfl (by simpa using hp))]
   exact ih _

theorem stOf_more {p q : Nat → Bool} {n : Nat} {en : Eff} : ∀ (es : List Eff) (i : Nat) (s : St),es[n]? = some en → p (i + n) = false → q (i + n) = true → (∀ j,j ≠ i + n → p j = q j) → (∀ j e,n < j → es[j]? = some e → p (i + j) = true → meetK en.wr e.wr = false) →
  stOf q i es s = (stOf p i es s).apply en.wr := by
 induction n with
 | zero =>
  intro es i s he hp hq hpq hd
  cases es with
  | nil => simp at he
  | cons e l =>
   simp only [List.getElem?_cons_zero,Option.some.injEq] at he
   subst he
   simp only [stOf,Nat.add_zero] at hp hq hpq ⊢
   rw [hp,hq]
   simp only
   rw [stOf_congr (p := q) (q := p) l (i + 1) _ (fun j hj => (hpq _ (by omega)).symm)]
   exact stOf_comm l (i + 1) s (fun j e' he' hp' => hd (j + 1) e' (by omega) (by simpa using he') (by rw [show i + (j + 1) = i + 1 + j by omega]; exact hp'))
 | succ n ih =>
  intro es i s he hp hq hpq hd
  cases es with
  | nil => simp at he
  | cons e l =>
   simp only [List.getElem?_cons_succ] at he
   simp only [stOf]
   rw [hpq i (by omega)]
   refine ih l (i + 1) _ he (by rw [show i + 1 + n = i + (n + 1) by omega]; exact hp) (by rw [show i + 1 + n = i + (n + 1) by omega]; exact hq) (fun j hj => hpq j (by omega)) (fun j e' hj he' hp' => hd (j + 1) e' (by omega) (by simpa using he') (by rw [show i + (j + 1) = i + 1 + j by omega]; exact hp'))

theorem exec_congr : ∀ (m : M) (s s' : St) (e : Eff),m.exec s = some e → (∀ k,memK k e.rd = true → s k = s' k) → m.exec s' = some e
 | .done,_,_,_,h,_ => h
 | .get k f,s,s',e,h,hr => by
  simp only [M.exec] at h
  split at h
  ·rename_i e' he
   cases h
   have hk : s k = s' k := hr k (by simp only [memK,Bool.or_eq_true]; left; cases k <;> exact Nat.beq_refl _)
   simp only [M.exec]
   rw [← hk,exec_congr (f (s k)) s s' e' he (fun k' hk' => hr k' (by simp only [memK,Bool.or_eq_true]; exact .inr hk'))]
  ·cases h
 | .put k v m,s,s',e,h,hr => by
  simp only [M.exec] at h
  split at h
  ·rename_i e' he
   cases h
   simp only [M.exec]
   rw [exec_congr m s s' e' he hr]
  ·cases h
 | .ask p m,s,s',e,h,hr => by
  simp only [M.exec] at h
  split at h
  ·rename_i e' he
   cases h
   simp only [M.exec]
   rw [exec_congr m s s' e' he hr]
  ·cases h
 | .fail,_,_,_,h,_ => by cases h

theorem runL_each {ops : Array Oper} {dec : List (Nat × Bool)} {orc : List (Nat × D)} : ∀ (l : List Oper) (i : Nat) (s s' : St) (es : List Eff),runL C dec orc ops l s = some (es,s') →
  es.length = l.length ∧ s' = stOf (fun _ => true) i es s ∧ ∀ j o e,l[j]? = some o → es[j]? = some e → (semG C dec orc ops o).exec (stOf (fun m => Nat.blt m (i + j)) i es s) = some e
 | [],i,s,s',es,h => by
  cases h
  exact ⟨rfl,rfl,fun j o e h => by simp at h⟩
 | o :: l,i,s,s',es,h => by
  simp only [runL] at h
  split at h
  ·rename_i e he
   split at h
   ·rename_i es' s1 hes
    cases h
    obtain ⟨h1,h2,h3⟩ := runL_each l (i + 1) _ _ _ hes
    refine ⟨by simp [h1],by simp only [stOf]; exact h2,fun j o' e' ho' he' => ?_⟩
    cases j with
    | zero =>
     simp only [List.getElem?_cons_zero,Option.some.injEq] at ho' he'
     subst ho' he'
     have : stOf (fun m => Nat.blt m (i + 0)) i (e :: es') s = s := by
      have : ∀ (es : List Eff) (k : Nat) (s : St),i ≤ k → stOf (fun m => Nat.blt m (i + 0)) k es s = s := by
       intro es
       induction es with
       | nil => intros; rfl
       | cons e es ih =>
        intro k s hk
        simp only [stOf]
        have : Nat.blt k (i + 0) = false := by
         cases hq : Nat.blt k (i + 0) with
         | false => rfl
         | true => have := Nat.le_of_ble_eq_true hq; omega
        rw [this]
        exact ih (k + 1) s (by omega)
      exact this _ i s (Nat.le_refl _)
     rw [this]
     exact he
    | succ j =>
     simp only [List.getElem?_cons_succ] at ho' he'
     have := h3 j o' e' ho' he'
     simp only [stOf]
     have hb : Nat.blt i (i + (j + 1)) = true := Nat.ble_eq_true_of_le (by omega)
     rw [hb]
     simp only
     rw [show i + (j + 1) = i + 1 + j by omega]
     exact this
   ·cases h
  ·cases h
end
end Go.Di

/-
 DI,part L: regions that draw their order.
-/
namespace Go.Di
open Go.RowKit

section
variable {P : Program} {C : Cfg} {w0 w : World} {R0 R : Foot} {a : Act} {s : St} {Q : Exit → Act → World → Prop}

theorem fold_bits (acc : List Nat) (j : Nat) : ∀ (l : List Edge) (s0 : Nat),(l.foldl (fun s e => match Region.binds .any e with | true => s ||| (2 ^ e.on ||| acc.getD e.on 0) | false => s) s0).testBit j = true →
  s0.testBit j = true ∨ ∃ e ∈ l,Region.binds .any e = true ∧ (e.on = j ∨ (acc.getD e.on 0).testBit j = true)
 | [],s0,h => .inl h
 | e :: l,s0,h => by
  simp only [List.foldl_cons] at h
  rcases fold_bits acc j l _ h with h1 | ⟨e',he',h2⟩
  ·cases hb : Region.binds .any e with
   | true =>
    rw [hb] at h1
    simp only [Nat.testBit_or,Bool.or_eq_true] at h1
    rcases h1 with h1 | h1 | h1
    ·exact .inl h1
    ·refine .inr ⟨e,by simp,hb,.inl ?_⟩
     rw [Nat.testBit_two_pow] at h1
     simpa using h1
    ·exact .inr ⟨e,by simp,hb,.inr h1⟩
   | false =>
    rw [hb] at h1
    exact .inl h1
  ·exact .inr ⟨e',by simp [he'],h2⟩

theorem ancs_ok : ∀ (l : List Oper) (acc : List Nat),∃ bs,ancs l acc = acc ++ bs ∧ bs.length = l.length ∧ ∀ k o,l[k]? = some o → ∀ j,((ancs l acc).getD (acc.length + k) 0).testBit j = true →
  ∃ e ∈ o.after.toList,Region.binds .any e = true ∧ (e.on = j ∨ (((ancs l acc).take (acc.length + k)).getD e.on 0).testBit j = true)
 | [],acc => ⟨[],by simp [ancs],rfl,fun k o h => by simp at h⟩
 | o :: l,acc => by
  simp only [ancs]
  generalize hb : o.after.toList.foldl (fun s e => match Region.binds .any e with | true => s ||| (2 ^ e.on ||| acc.getD e.on 0) | false => s) 0 = b
  obtain ⟨bs,h1,h2,h3⟩ := ancs_ok l (acc ++ [b])
  refine ⟨b :: bs,by rw [h1]; simp,by simp [h2],fun k o' ho' j hj => ?_⟩
  cases k with
  | zero =>
   simp only [List.getElem?_cons_zero,Option.some.injEq] at ho'
   subst ho'
   simp only [Nat.add_zero] at hj ⊢
   have hg : (ancs l (acc ++ [b])).getD acc.length 0 = b := by rw [h1]; simp [List.getD_eq_getElem?_getD]
   rw [hg,← hb] at hj
   rcases fold_bits acc j _ _ hj with h4 | ⟨e,he,h4,h5⟩
   ·simp at h4
   ·refine ⟨e,he,h4,?_⟩
    rcases h5 with h5 | h5
    ·exact .inl h5
    ·right
     have : (ancs l (acc ++ [b])).take acc.length = acc := by rw [h1]; simp
     rw [this]
     exact h5
  | succ k =>
   simp only [List.getElem?_cons_succ] at ho'
   have := h3 k o' ho' j
   simp only [List.length_append,List.length_singleton] at this
   rw [show acc.length + (k + 1) = acc.length + 1 + k by omega] at hj ⊢
   exact this hj

theorem edges_lt : ∀ (l : List Oper) (n : Nat),edgesOk l n = true → ∀ k o,l[k]? = some o → ∀ e ∈ o.after.toList,Region.binds .any e = true → e.on < n + k
 | [],_,_,k,o,h,_,_,_ => by simp at h
 | o :: l,n,h,k,o',ho',e,he,hb => by
  simp only [edgesOk,Bool.and_eq_true,List.all_eq_true,Bool.or_eq_true,Bool.not_eq_true'] at h
  cases k with
  | zero =>
   simp only [List.getElem?_cons_zero,Option.some.injEq] at ho'
   subst ho'
   rcases h.1 e he with h1 | h1
   ·rw [hb] at h1; cases h1
   ·exact Nat.le_of_ble_eq_true h1
  | succ k =>
   simp only [List.getElem?_cons_succ] at ho'
   have := edges_lt l (n + 1) h.2 k o' ho' e he hb
   omega

theorem pair_ok {anc : Nat} {e : Eff} : ∀ (l : List Eff) (i : Nat),pairOk anc e i l = true → ∀ j x,l[j]? = some x → anc.testBit (i + j) = true ∨ x.apart e = true
 | [],_,_,j,x,h => by simp at h
 | y :: l,i,h,j,x,hx => by
  simp only [pairOk,Bool.and_eq_true,Bool.or_eq_true] at h
  cases j with
  | zero =>
   simp only [List.getElem?_cons_zero,Option.some.injEq] at hx
   subst hx
   exact h.1
  | succ j =>
   simp only [List.getElem?_cons_succ] at hx
   have := pair_ok l (i + 1) h.2 j x hx
   rw [show i + (j + 1) = i + 1 + j by omega]
   exact this

theorem comm_ok {as : List Nat} : ∀ (l before : List Eff),commOk as before l = true → ∀ j x y k,(before ++ l)[j]? = some x → l[k]? = some y → j < before.length + k → (as.getD (before.length + k) 0).testBit j = true ∨ x.apart y = true
 | [],_,_,j,x,y,k,_,h,_ => by simp at h
 | e :: l,before,h,j,x,y,k,hx,hy,hjk => by
  simp only [commOk,Bool.and_eq_true] at h
  cases k with
  | zero =>
   simp only [List.getElem?_cons_zero,Option.some.injEq] at hy
   subst hy
   rw [List.getElem?_append_left (by omega)] at hx
   have := pair_ok before 0 h.1 j x hx
   simpa using this
  | succ k =>
   simp only [List.getElem?_cons_succ] at hy
   have := comm_ok l (before ++ [e]) h.2 j x y k (by simpa using hx) hy (by simp; omega)
   simp only [List.length_append,List.length_singleton] at this
   rw [show before.length + (k + 1) = before.length + 1 + k by omega]
   exact this

theorem apart_iff {x y : Eff} (h : x.apart y = true) : meetK x.wr y.rd = false ∧ meetK x.wr y.wr = false ∧ meetK y.wr x.rd = false := by
 simp only [Eff.apart,Bool.and_eq_true,Bool.not_eq_true'] at h
 exact ⟨h.1.1,h.1.2,h.2⟩
variable {ops : Array Oper} {dec : List (Nat × Bool)} {orc : List (Nat × D)}

/-- What is listed has with it what binds it. -/
def ShutP (ops : Array Oper) (p : Nat → Bool) : Prop := ∀ i o,ops[i]? = some o → p i = true → ∀ e ∈ o.after.toList,Region.binds .any e = true → p e.on = true

theorem shut_ancs {p : Nat → Bool} (hp : ShutP ops p) : ∀ (i : Nat) (o : Oper),ops[i]? = some o → (∀ e ∈ o.after.toList,Region.binds .any e = true → p e.on = true) → edgesOk ops.toList 0 = true → ∀ j,((ancs ops.toList []).getD i 0).testBit j = true → p j = true := by
 intro i
 induction i using Nat.strongRecOn with
 | ind i ih =>
  intro o ho hall hedge j hj
  obtain ⟨bs,h1,h2,h3⟩ := ancs_ok ops.toList []
  have h4 := h3 i o (by simpa using ho) j (by simpa using hj)
  obtain ⟨e,he,hb,h5⟩ := h4
  have hlt := edges_lt ops.toList 0 hedge i o (by simpa using ho) e he hb
  simp only [Nat.zero_add] at hlt
  rcases h5 with h5 | h5
  ·rw [← h5]; exact hall e he hb
  ·simp only [List.length_nil,Nat.zero_add] at h5
   rw [List.getD_eq_getElem?_getD,List.getElem?_take,if_pos hlt,← List.getD_eq_getElem?_getD] at h5
   have hi : e.on < ops.size := by
    have := (Array.getElem?_eq_some_iff.1 ho).1
    omega
   exact ih e.on hlt ops[e.on] (Array.getElem?_eq_getElem hi) (fun e' he' hb' => hp e.on _ (Array.getElem?_eq_getElem hi) (hall e he hb) e' he' hb') hedge j h5

theorem draw_any (hT : TabOk P C.tt) (hC : ConOk P C) {es : List Eff} {s' : St} (hrun : runL C dec orc ops ops.toList s = some (es,s')) (hok : drawOk ops.toList es = true) (hp : ∀ p ∈ psOf es,p)
  (hQ : ∀ a' w',Holds C w0 R0 a' w' s' → Q .normal a' w') : ∀ (fuel : Nat) (listed : Array Bool) (a : Act) (w : World),listed.size = ops.size → listed.toList.countP (fun b => !b) = fuel → ShutP ops (fun i => listed.getD i false) →
   Holds C w0 R0 a w (stOf (fun i => listed.getD i false) 0 es s) → wpAny P .any ops Q fuel listed a w := by
 simp only [drawOk,Bool.and_eq_true] at hok
 obtain ⟨hedge,hcomm⟩ := hok
 obtain ⟨hlen,hs',heach⟩ := runL_each _ 0 _ _ _ hrun
 simp only [Nat.zero_add] at heach
 have hcomm' := comm_ok es [] hcomm
 simp only [List.nil_append,List.length_nil,Nat.zero_add] at hcomm'
 have hready : ∀ listed : Array Bool,listed.size = ops.size → Region.ready .any ops listed = [] → ∀ i,i < ops.size → listed.getD i false = true := by
  intro listed hsz hr i
  induction i using Nat.strongRecOn with
  | ind i ih =>
   intro hi
   cases hq : listed.getD i false with
   | true => rfl
   | false =>
    exfalso
    have : i ∈ Region.ready .any ops listed := by
     unfold Region.ready
     rw [List.mem_filter]
     refine ⟨by simpa using hi,?_⟩
     have h1 : listed.getD i true = false := by
      rw [Array.getD_eq_getD_getElem?] at hq ⊢
      rw [Array.getElem?_eq_getElem (by omega)] at hq ⊢
      exact hq
     rw [h1,Array.getElem?_eq_getElem hi]
     simp only [Bool.not_false,Option.map_some,Option.getD_some,Bool.true_and]
     rw [Array.all_eq_true_iff_forall_mem]
     intro e he
     cases hb : Region.binds .any e with
     | false => simp
     | true =>
      simp only [Bool.not_true,Bool.false_or]
      have hlt := edges_lt ops.toList 0 hedge i ops[i] (by simp [hi]) e (by simpa using he) hb
      exact ih e.on (by omega) (by omega)
    rw [hr] at this
    cases this
 have hdone : ∀ (listed : Array Bool) (a : Act) (w : World),listed.size = ops.size → Holds C w0 R0 a w (stOf (fun i => listed.getD i false) 0 es s) → Region.ready .any ops listed = [] → Q .normal a w := by
  intro listed a w hsz hH hr
  refine hQ a w ?_
  rw [hs']
  rw [stOf_congr (p := fun _ => true) (q := fun i => listed.getD i false) es 0 s (fun j hj => by
   rw [Nat.zero_add]
   exact (hready listed hsz hr j (by rw [hlen] at hj; simpa using hj)).symm)]
  exact hH
 intro fuel
 induction fuel with
 | zero =>
  intro listed a w hsz hcnt hshut hH
  have hr : Region.ready .any ops listed = [] := by
   unfold Region.ready
   rw [List.filter_eq_nil_iff]
   intro i hi
   simp only [List.mem_range] at hi
   have : listed.getD i true = true := by
    rw [Array.getD_eq_getD_getElem?,Array.getElem?_eq_getElem (by omega)]
    rw [List.countP_eq_zero] at hcnt
    have := hcnt listed[i] (by simp)
    simpa using this
   rw [this]
   simp
  exact ⟨hr,hdone listed a w hsz hH hr⟩
 | succ fuel ih =>
  intro listed a w hsz hcnt hshut hH
  refine ⟨hdone listed a w hsz hH,fun i hi => ?_⟩
  unfold Region.ready at hi
  rw [List.mem_filter] at hi
  obtain ⟨hi,hcond⟩ := hi
  simp only [List.mem_range] at hi
  rw [Array.getElem?_eq_getElem hi] at hcond
  simp only [Option.map_some,Option.getD_some,Bool.and_eq_true,Bool.not_eq_true'] at hcond
  obtain ⟨hun,hall⟩ := hcond
  have hli : i < listed.size := by omega
  have hun' : listed[i] = false := by
   rw [Array.getD_eq_getD_getElem?,Array.getElem?_eq_getElem hli] at hun
   exact hun
  have hpi : (fun i => listed.getD i false) i = false := by
   simp only
   rw [Array.getD_eq_getD_getElem?,Array.getElem?_eq_getElem hli]
   exact hun'
  have hpre : ∀ e ∈ (ops[i]).after.toList,Region.binds .any e = true → listed.getD e.on false = true := by
   intro e he hb
   have := Array.all_eq_true_iff_forall_mem.1 hall e (by simpa using he)
   rw [hb] at this
   simpa using this
  have hei : i < es.length := by rw [hlen]; simpa using hi
  have hanc := shut_ancs hshut i ops[i] (Array.getElem?_eq_getElem hi) hpre hedge
  have hq1 : ∀ q,(listed.setIfInBounds i true).getD q false = if q = i then true else listed.getD q false := by
   intro q
   simp only [Array.getD_eq_getD_getElem?,Array.getElem?_setIfInBounds]
   by_cases e : i = q
   ·subst e
    simp [hli]
   ·rw [if_neg e,if_neg (fun x => e x.symm)]
  -- those before it that are not listed,and those behind it that are,are apart from it
  have hapart1 : ∀ j e,j < i → es[j]? = some e → listed.getD j false = false → e.apart es[i] = true := by
   intro j e hj he hnl
   rcases hcomm' j e es[i] i he (List.getElem?_eq_getElem hei) hj with h1 | h1
   ·have h2 := hanc j h1
    rw [hnl] at h2
    cases h2
   ·exact h1
  have hapart2 : ∀ j e,i < j → es[j]? = some e → listed.getD j false = true → es[i].apart e = true := by
   intro j e hj he hl
   rcases hcomm' i es[i] e j (List.getElem?_eq_getElem hei) he hj with h1 | h1
   ·have hjo : j < ops.size := by
     have := (List.getElem?_eq_some_iff.1 he).1
     rw [hlen] at this
     simpa using this
    have h2 := shut_ancs hshut j ops[j] (Array.getElem?_eq_getElem hjo) (fun e he hb => hshut j _ (Array.getElem?_eq_getElem hjo) hl e he hb) hedge i h1
    simp only at h2 hpi
    rw [hpi] at h2
    cases h2
   ·exact h1
  have hex := heach i ops[i] es[i] (by simp [hi]) (List.getElem?_eq_getElem hei)
  have hex' : (semG C dec orc ops ops[i]).exec (stOf (fun i => listed.getD i false) 0 es s) = some es[i] := by
   refine exec_congr _ _ _ _ hex (fun k hk => ?_)
   refine stOf_at es 0 s s (fun j e he hne => ?_) rfl
   rw [Nat.zero_add] at hne
   rcases Nat.lt_trichotomy j i with hj | hj | hj
   ·have h1 : Nat.blt j i = true := Nat.ble_eq_true_of_le hj
    rw [h1] at hne
    have := apart_iff (hapart1 j e hj he (by
     cases hq : listed.getD j false with
     | false => rfl
     | true => exact absurd hq.symm hne))
    cases hq : memK k e.wr with
    | false => rfl
    | true => have := meet_false this.1 k hq; rw [hk] at this; cases this
   ·subst hj
    have h1 : Nat.blt j j = false := by
     cases hq : Nat.blt j j with
     | false => rfl
     | true => have := Nat.le_of_ble_eq_true hq; omega
    rw [h1] at hne
    exact absurd hpi.symm hne
   ·have h1 : Nat.blt j i = false := by
     cases hq : Nat.blt j i with
     | false => rfl
     | true => have := Nat.le_of_ble_eq_true hq; omega
    rw [h1] at hne
    have := apart_iff (hapart2 j e hj he (by
     cases hq : listed.getD j false with
     | false => exact absurd hq.symm hne
     | true => rfl))
    cases hq : memK k e.wr with
    | false => rfl
    | true => have := meet_false this.2.2 k hq; rw [hk] at this; cases this
  refine semG_ok hT hC (Array.getElem?_eq_getElem hi) hH (fun a' w' hH' => ?_) (M.exec_ok _ _ _ hex' fun p hpp => hp p (psOf_mem (List.getElem_mem hei) hpp))
  refine ih (listed.setIfInBounds i true) a' w' (by simpa using hsz) ?_ ?_ ?_
  ·rw [Array.toList_setIfInBounds,List.countP_set (by simpa using hli),hcnt]
   simp [hun']
  ·intro j o hj hjl e he hb
   simp only [hq1] at hjl ⊢
   by_cases hje : j = i
   ·subst hje
    rw [Array.getElem?_eq_getElem hi] at hj
    cases hj
    have := hpre e he hb
    split <;> first | rfl | exact this
   ·rw [if_neg hje] at hjl
    have := hshut j o hj hjl e he hb
    split <;> first | rfl | exact this
  ·have := stOf_more (p := fun i => listed.getD i false) (q := fun q => (listed.setIfInBounds i true).getD q false) (n := i) (en := es[i]) es 0 s (List.getElem?_eq_getElem hei) (by rw [Nat.zero_add]; exact hpi) (by rw [Nat.zero_add,hq1,if_pos rfl])
    (fun j hj => by rw [hq1,if_neg (by omega)]) (fun j e hj he hl => by
     rw [Nat.zero_add] at hl
     exact (apart_iff (hapart2 j e hj he hl)).2.1)
   rw [this]
   exact hH'

theorem region_draw (hm : P.follows .mixedOrders = true) (hT : TabOk P C.tt) (hC : ConOk P C) {s' : St} {es : List Eff}
  (hes : runL C dec orc ops ops.toList s = some (es,s')) (hok : drawOk ops.toList es = true) (hp : ∀ p ∈ psOf es,p) (hH : Holds C w0 R0 a w s) (hQ : ∀ a' w',Holds C w0 R0 a' w' s' → Q .normal a' w') :
  ∀ t,wpOps P ops Q (Region.schedule (P.follows .mixedOrders) ops t) a { w with drawn := w.drawn + 1 } := by
 intro t
 simp only [Region.schedule,hm,Bool.true_or,if_true]
 refine wpAny_sound ops.size t _ a _ ?_
 obtain ⟨β,σ,R,hI⟩ := hH
 refine draw_any hT hC hes hok hp hQ ops.size _ a w.drew (by simp) ?_ ?_ ?_
 ·rw [Array.toList_replicate,List.countP_replicate]
  simp
 ·intro i o _ hi
  have hf : (Array.replicate ops.size false).getD i false = false := by
   rw [Array.getD_eq_getD_getElem?,Array.getElem?_replicate]
   split <;> rfl
  simp only at hi
  rw [hf] at hi
  cases hi
 ·have : stOf (fun i => (Array.replicate ops.size false).getD i false) 0 es s = s := by
   have h0 : ∀ i,(Array.replicate ops.size false).getD i false = false := by
    intro i
    rw [Array.getD_eq_getD_getElem?,Array.getElem?_replicate]
    split <;> rfl
   have : ∀ (es : List Eff) (k : Nat),stOf (fun i => (Array.replicate ops.size false).getD i false) k es s = s := by
    intro es
    induction es with
    | nil => intros; rfl
    | cons e es ih =>
     intro k
     simp only [stOf]
     rw [h0 k]
     exact ih (k + 1)
   exact this es 0
  rw [this]
  exact ⟨β,σ,R,hI.drew⟩

theorem region_ok (hm : P.follows .mixedOrders = true) (hT : TabOk P C.tt) (hC : ConOk P C) {draw : Bool} {s' : St} {ps : List Prop} {id : Nat} {ro : Option Nat} {n : Nat}
  (h : runR C dec orc ops draw s = some (ps,s')) (hp : ∀ p ∈ ps,p) (hH : Holds C w0 R0 a w s) (hQ : ∀ a' w',Holds C w0 R0 a' w' s' → Q .normal a' w') : (Code.region id ops draw).wpIn (FR ro) n P Q a w := by
 unfold runR at h
 split at h
 ·rename_i es s1 hnd hes
  refine wpIn_mono (Q := noOut Q) ?_ fun e a w => noOut_mono
  cases draw with
  | false =>
   cases h
   exact wpIn_region (opsIn hnd (noOut_out Q) _ _ _ (region_text (Q := noOut Q) hT hC hes hp hH hQ))
  | true =>
   simp only at h
   split at h
   ·rename_i hok
    cases h
    exact wpIn_region_draw fun t => opsIn hnd (noOut_out Q) _ _ _ (region_draw (Q := noOut Q) hm hT hC hes hok hp hH hQ t)
   ·cases h
 ·cases h
end
end Go.Di

/-
 DI,part M: code,loops,whole functions.
-/
namespace Go.Di
open Go.RowKit

def Ex.out : Ex → Exit
 | .normal => .normal
 | .exit id => .exit id
 | .ret => .ret

section
variable {P : Program} {C : Cfg} {w0 w : World} {R0 R : Foot} {a : Act} {s : St} {β : Nat → Nat} {σ : Sig} {Q : Exit → Act → World → Prop}

/-! ### What is no longer looked at may be forgotten -/
theorem hasK_pick (s : St) (k : Key) : ∀ (ks : List Key),(ofL (pickK s ks)) k = match hasK k ks with | true => s k | false => dflt k
 | [] => rfl
 | k' :: l => by
  simp only [pickK,ofL,hasK]
  unfold St.set
  cases hq : k'.eqb k with
  | true =>
   have := eqb_eq hq
   subst this
   rw [hq]
   simp
  | false =>
   have : k.eqb k' = false := by
    cases hq' : k.eqb k' with
    | false => rfl
    | true => have := eqb_eq hq'; subst this; rw [hq] at hq'; cases hq'
   simp only [this,Bool.false_or]
   exact hasK_pick s k l

theorem closed_mem {ks : List Key} : ∀ {L : List (Key × Val)},closedK ks L = true → ∀ {k : Key} {v : Val},(k,v) ∈ L → ∀ k' ∈ idsV v,hasK k' ks = true
 | [],_,_,_,h => by cases h
 | (k0,v0) :: l,hc,k,v,hm => by
  simp only [closedK,Bool.and_eq_true,List.all_eq_true] at hc
  rcases List.mem_cons.1 hm with h | h
  ·cases h; exact hc.1
  ·exact closed_mem hc.2 h
theorem pick_mem {s : St} {k : Key} : ∀ {ks : List Key},hasK k ks = true → (k,s k) ∈ pickK s ks
 | [],h => by cases h
 | k' :: l,h => by
  simp only [hasK,Bool.or_eq_true] at h
  simp only [pickK,List.mem_cons]
  rcases h with h | h
  ·have := eqb_eq h; subst this; exact .inl rfl
  ·exact .inr (pick_mem h)

theorem Inv.restrict (h : Inv C w0 R0 a w s β σ R) {ks : List Key} (hc : closedK ks (pickK s ks) = true) : Inv C w0 R0 a w (ofL (pickK s ks)) β σ R := by
 have hget := hasK_pick s
 have hbx : ∀ i b,(ofL (pickK s ks)).bx i = some b → s.bx i = some b ∧ hasK (.box i) ks = true := by
  intro i b hb
  unfold St.bx at hb
  rw [hget] at hb
  cases hq : hasK (.box i) ks with
  | true => rw [hq] at hb; exact ⟨hb,rfl⟩
  | false => rw [hq] at hb; cases hb
 have hob : ∀ i o,(ofL (pickK s ks)).ob i = some o → s.ob i = some o := by
  intro i o hb
  unfold St.ob at hb
  rw [hget] at hb
  cases hq : hasK (.obj i) ks with
  | true => rw [hq] at hb; exact hb
  | false => rw [hq] at hb; cases hb
 have hmp : ∀ i o,(ofL (pickK s ks)).mp i = some o → s.mp i = some o := by
  intro i o hb
  unfold St.mp at hb
  rw [hget] at hb
  cases hq : hasK (.mp i) ks with
  | true => rw [hq] at hb; exact hb
  | false => rw [hq] at hb; cases hb
 have hmp' : ∀ i,hasK (.mp i) ks = true → (ofL (pickK s ks)).mp i = s.mp i := by
  intro i hi
  unfold St.mp
  rw [hget,hi]
 have hbx' : ∀ i,hasK (.box i) ks = true → (ofL (pickK s ks)).bx i = s.bx i := by
  intro i hi
  unfold St.bx
  rw [hget,hi]
 have hob' : ∀ i,hasK (.obj i) ks = true → (ofL (pickK s ks)).ob i = s.ob i := by
  intro i hi
  unfold St.ob
  rw [hget,hi]
 have hTC : ∀ (d : D) (v : Value),(∀ i n,d = .own i n → hasK (.obj i) ks = true) → (∀ i,d = .mref i → hasK (.mp i) ks = true) → (∀ i n,d = .row i n → hasK (.box i) ks = true) → RelTC β σ s R w d v → RelTC β σ (ofL (pickK s ks)) R w d v := by
  intro d v hd hd' hd2 hr
  cases d with
  | own i n =>
   obtain ⟨o,ho,h1,h2⟩ := hr
   exact ⟨o,by rw [hob' i (hd i n rfl)]; exact ho,h1,h2⟩
  | mref i =>
   obtain ⟨⟨m,hm⟩,h2⟩ := hr
   exact ⟨⟨m,by rw [hmp' i (hd' i rfl)]; exact hm⟩,h2⟩
  | row i n =>
   obtain ⟨⟨b,hb⟩,h2⟩ := hr
   exact ⟨⟨b,by rw [hbx' i (hd2 i n rfl)]; exact hb⟩,h2⟩
  | _ => exact hr
 refine ⟨h.below,h.defers,h.fix,h.nt,h.sub,h.dom,h.glob,fun i => ?_,fun i b hb => ?_,fun i j bi bj hi hj => h.inj i j bi bj (hbx i bi hi).1 (hbx j bj hj).1,fun k o ho => ?_,?_,h.mps.step hmp (fun _ _ _ => rfl) (fun _ _ _ => rfl) (fun _ _ h => h) (fun i m hm hn => ?_)⟩
 ·cases hq : hasK (.tmp i) ks with
  | false =>
   have : (ofL (pickK s ks)).tmp i = .undef := by
    unfold St.tmp
    rw [hget,hq]
    rfl
   rw [this]
   exact trivial
  | true =>
   have ht : (ofL (pickK s ks)).tmp i = s.tmp i := by
    unfold St.tmp
    rw [hget,hq]
   rw [ht]
   have hm := closed_mem hc (pick_mem (s := s) hq)
   have hv := h.tmps i
   unfold St.tmp at hv ⊢
   cases hs : s (.tmp i) with
   | bx b => exact trivial
   | ob o => exact trivial
   | mp o => exact trivial
   | rw o => exact trivial
   | d d =>
    rw [hs] at hm hv
    simp only at hv ⊢
    cases d with
    | ptr j off =>
     obtain ⟨⟨b,hb⟩,hp⟩ := hv
     exact ⟨⟨b,by rw [hbx' j (hm (.box j) (by simp [idsV,idsD]))]; exact hb⟩,hp⟩
    | row j n =>
     obtain ⟨⟨b,hb⟩,hp⟩ := hv
     exact ⟨⟨b,by rw [hbx' j (hm (.box j) (by simp [idsV,idsD]))]; exact hb⟩,hp⟩
    | own j n => exact hTC (.own j n) _ (fun i' n' e => by cases e; exact hm (.obj j) (by simp [idsV,idsD])) (fun i' e => by cases e) (fun i' n' e => by cases e) hv
    | mref j => exact hTC (.mref j) _ (fun i' n' e => by cases e) (fun i' e => by cases e; exact hm (.mp j) (by simp [idsV,idsD])) (fun i' n' e => by cases e) hv
    | agg cs =>
     obtain ⟨vs,hvs,hr⟩ := hv
     refine ⟨vs,hvs,All2.of_get (All2.length hr) fun q x y hx hy => ?_⟩
     obtain ⟨y',hy',hr'⟩ := All2.get hr q x hx
     rw [hy] at hy'
     cases hy'
     refine hTC x y (fun i' n' e => ?_) (fun i' e => ?_) (fun i' n' e => ?_) hr'
     ·subst e
      refine hm (.obj i') ?_
      simp only [idsV,idsD,List.mem_flatMap]
      exact ⟨_,List.mem_of_getElem? hx,by simp⟩
     ·subst e
      refine hm (.mp i') ?_
      simp only [idsV,idsD,List.mem_flatMap]
      exact ⟨_,List.mem_of_getElem? hx,by simp⟩
     ·subst e
      refine hm (.box i') ?_
      simp only [idsV,idsD,List.mem_flatMap]
      exact ⟨_,List.mem_of_getElem? hx,by simp⟩
    | _ => exact hv
 ·obtain ⟨hb1,hb2⟩ := hbx i b hb
  obtain ⟨p1,⟨arr,el,p2,p3,p4,p5⟩,p6⟩ := h.box i b hb1
  refine ⟨p1,⟨arr,el,p2,p3,fun hf => ?_,p5⟩,p6⟩
  have hr := p4 hf
  have hm := closed_mem hc (pick_mem (s := s) hb2)
  have hsb : s (.box i) = .bx (some b) ∨ ∀ x ∈ b.cells,∃ z,x = .int .i64 z := by
   unfold St.bx at hb1
   split at hb1
   ·rename_i b' hb'
    exact .inl (by rw [hb',hb1])
   ·cases hb1
    refine .inr fun x hx => ?_
    obtain ⟨z,_,rfl⟩ := List.mem_map.1 hx
    exact ⟨z,rfl⟩
   ·cases hb1
  rcases hsb with hsb | hsb
  rotate_left
  ·refine All2.of_get (All2.length hr) fun q x y hx hy => ?_
   obtain ⟨y',hy',hr'⟩ := All2.get hr q x hx
   rw [hy] at hy'
   cases hy'
   obtain ⟨z,rfl⟩ := hsb x (List.mem_of_getElem? hx)
   exact hTC _ y (fun i' n' e => by cases e) (fun i' e => by cases e) (fun i' n' e => by cases e) hr'
  rw [hsb] at hm
  refine All2.of_get (All2.length hr) fun q x y hx hy => ?_
  obtain ⟨y',hy',hr'⟩ := All2.get hr q x hx
  rw [hy] at hy'
  cases hy'
  refine hTC x y (fun i' n' e => ?_) (fun i' e => ?_) (fun i' n' e => ?_) hr'
  ·subst e
   refine hm (.obj i') ?_
   simp only [idsV,List.mem_flatMap]
   exact ⟨_,List.mem_of_getElem? hx,by simp [idsD]⟩
  ·subst e
   refine hm (.mp i') ?_
   simp only [idsV,List.mem_flatMap]
   exact ⟨_,List.mem_of_getElem? hx,by simp [idsD]⟩
  ·subst e
   refine hm (.box i') ?_
   simp only [idsV,List.mem_flatMap]
   exact ⟨_,List.mem_of_getElem? hx,by simp [idsD]⟩
 ·obtain ⟨p1,p2⟩ := h.obj k o (hob k o ho)
  refine ⟨p1,fun hl => ?_⟩
  obtain ⟨g,off,q1,q2,q3,q4,q5,q6⟩ := p2 hl
  exact ⟨g,off,q1,q2,q3,fun i b hb => q4 i b (hbx i b hb).1,fun k' o' ho' => q5 k' o' (hob k' o' ho'),q6⟩
 ·refine ⟨h.far.sz,fun b hb => ?_,fun b hb => ?_⟩
  ·obtain ⟨p1,p2,p3,p4⟩ := h.far.ke b hb
   exact ⟨p1,p2,fun i x hi => p3 i x (hbx i x hi).1,fun k o ho => p4 k o (hob k o ho)⟩
  ·obtain ⟨p1,p2,p3,p4,p5⟩ := h.far.no b hb
   exact ⟨p1,p2,p3,fun i x hi => p4 i x (hbx i x hi).1,fun k o ho => p5 k o (hob k o ho)⟩
 ·cases hq : (ofL (pickK s ks)).ob i with
  | none => rfl
  | some o => have := hob i o hq; rw [hn] at this; cases this

theorem Holds.restrict {ks : List Key} (h : Holds C w0 R0 a w s) (hc : closedK ks (pickK s ks) = true) : Holds C w0 R0 a w (ofL (pickK s ks)) := by
 obtain ⟨β,σ,R,hI⟩ := h
 exact ⟨β,σ,R,hI.restrict hc⟩

/-! ### Triples -/
/-- From what is known at first a piece of code comes to an end of which Post speaks. -/
def WpL (P : Program) (C : Cfg) (c : Code) (L : List (Key × Val)) (Post : Ex → List (Key × Val) → Prop) : Prop :=
 ∀ (w0 : World) (R0 : Foot) (a : Act) (w : World) (Q : Exit → Act → World → Prop) (ro : Option Nat) (n : Nat),(C.inr = false → ro = none) → Holds C w0 R0 a w (ofL L) → (∀ e L' a' w',Post e L' → Holds C w0 R0 a' w' (ofL L') → Q e.out a' w') → c.wpIn (FR ro) n P Q a w

structure Good (P : Program) (C : Cfg) : Prop where
 mixed : P.follows .mixedOrders = true
 tab : TabOk P C.tt
 con : ConOk P C
 lk : ∀ c L e L',C.lk c L e L' → WpL P C c L (fun e' L'' => e' = e ∧ L'' = L')

theorem WpL.mono {c : Code} {L : List (Key × Val)} {Post Post' : Ex → List (Key × Val) → Prop} (h : WpL P C c L Post) (hp : ∀ e L,Post e L → Post' e L) : WpL P C c L Post' :=
 fun w0 R0 a w Q ro n hro hH hQ => h w0 R0 a w Q ro n hro hH fun e L' a' w' hpost hH' => hQ e L' a' w' (hp e L' hpost) hH'

theorem run_ok (hG : Good P C) {ro : Option Nat} {n : Nat} (hro : C.inr = false → ro = none) {dec : List (Nat × Bool)} {orc : List (Nat × D)} {lorc : Lorc} : ∀ (c : Code) (s : St) (ps : List Prop) (e : Ex) (s' : St) (a : Act) (w : World) (Q : Exit → Act → World → Prop),run C dec orc lorc c s = some (ps,e,s') → (∀ p ∈ ps,p) →
  Holds C w0 R0 a w s → (∀ a' w',Holds C w0 R0 a' w' s' → Q e.out a' w') → c.wpIn (FR ro) n P Q a w
 | .skip,s,ps,e,s',a,w,Q,h,_,hH,hQ => by
  cases h
  exact wpIn_skip (hQ _ _ hH)
 | .label l,s,ps,e,s',a,w,Q,h,_,hH,hQ => by
  cases h
  exact wpIn_label (hQ _ _ hH)
 | .region id ops draw,s,ps,e,s',a,w,Q,h,hp,hH,hQ => by
  simp only [run] at h
  split at h
  ·rename_i ks e1 L' hl
   split at h
   ·rename_i hc
    cases h
    refine hG.lk (.region id ops draw) (pickK s ks) e L' (hp _ (by simp)) w0 R0 a w Q ro n hro (hH.restrict hc) fun e' L'' a' w' hpost hH' => ?_
    obtain ⟨rfl,rfl⟩ := hpost
    exact hQ a' w' hH'
   ·cases h
  ·split at h
   ·rename_i ps' s1 hr
    cases h
    exact region_ok hG.mixed hG.tab hG.con hr hp hH hQ
   ·cases h
 | .seq x y,s,ps,e,s',a,w,Q,h,hp,hH,hQ => by
  simp only [run] at h
  split at h
  ·rename_i ps1 s1 h1
   split at h
   ·rename_i qs e' s2 h2
    cases h
    refine wpIn_seq (run_ok hG hro x s ps1 .normal s1 a w _ h1 (fun p hpp => hp p (by simp [hpp])) hH fun a' w' hH' => ?_)
    exact run_ok hG hro y s1 qs e s' a' w' Q h2 (fun p hpp => hp p (by simp [hpp])) hH' hQ
   ·cases h
  ·rename_i ps1 id s1 h1
   cases h
   exact wpIn_seq (run_ok hG hro x s ps (.exit id) s' a w _ h1 hp hH hQ)
  ·rename_i ps1 s1 h1
   cases h
   exact wpIn_seq (run_ok hG hro x s ps .ret s' a w _ h1 hp hH hQ)
  ·cases h
 | .cond (.tmp c) x y,s,ps,e,s',a,w,Q,h,hp,hH,hQ => by
  simp only [run] at h
  have hval : ∀ t,s (.tmp c) = .d (.bool t) → a.eval (.tmp c) = .bool t := by
   intro t ht
   obtain ⟨β,σ,R,hI⟩ := hH
   have := hI.tmps c
   simp only [St.tmp,ht] at this
   exact this
  split at h
  ·rename_i t hd hs
   split at h
   ·rename_i ps1 e1 s1 h1
    cases h
    have ht : t = true := hp _ (by simp)
    subst ht
    exact wpIn_cond_true (hval _ hs) (run_ok hG hro x s ps1 e s' a w Q h1 (fun p hpp => hp p (by simp [hpp])) hH hQ)
   ·cases h
  ·rename_i t hd hs
   split at h
   ·rename_i ps1 e1 s1 h1
    cases h
    have ht : t = false := hp _ (by simp)
    subst ht
    exact wpIn_cond_false (hval _ hs) (run_ok hG hro y s ps1 e s' a w Q h1 (fun p hpp => hp p (by simp [hpp])) hH hQ)
   ·cases h
  ·rename_i hd hs
   exact wpIn_cond_true (hval _ hs) (run_ok hG hro x s ps e s' a w Q h hp hH hQ)
  ·rename_i hd hs
   exact wpIn_cond_false (hval _ hs) (run_ok hG hro y s ps e s' a w Q h hp hH hQ)
  ·cases h
 | .block id c,s,ps,e,s',a,w,Q,h,hp,hH,hQ => by
  simp only [run] at h
  split at h
  ·rename_i ks e1 L' hl
   split at h
   ·rename_i hc
    cases h
    refine hG.lk (.block id c) (pickK s ks) e L' (hp _ (by simp)) w0 R0 a w Q ro n hro (hH.restrict hc) fun e' L'' a' w' hpost hH' => ?_
    obtain ⟨rfl,rfl⟩ := hpost
    exact hQ a' w' hH'
   ·cases h
  ·split at h
   ·rename_i ps1 s1 h1
    cases h
    exact wpIn_block (run_ok hG hro c s ps .normal s' a w _ h1 hp hH hQ)
   ·rename_i ps1 id' s1 h1
    split at h
    ·rename_i hid
     cases h
     have hid := Nat.eq_of_beq_eq_true hid
     subst hid
     refine wpIn_block (run_ok hG hro c s ps (.exit id') s' a w _ h1 hp hH fun a' w' hH' => ?_)
     have := hQ a' w' hH'
     simpa [Ex.out,Exit.inBlock] using this
    ·rename_i hid
     cases h
     refine wpIn_block (run_ok hG hro c s ps (.exit id') s' a w _ h1 hp hH fun a' w' hH' => ?_)
     have := hQ a' w' hH'
     have hne : ¬ id' = id := fun x => by rw [beq_t x] at hid; cases hid
     simpa [Ex.out,Exit.inBlock,hne] using this
   ·rename_i ps1 s1 h1
    cases h
    exact wpIn_block (run_ok hG hro c s ps .ret s' a w _ h1 hp hH hQ)
   ·cases h
 | .scope c,s,ps,e,s',a,w,Q,h,hp,hH,hQ => by
  simp only [run] at h
  split at h
  ·rename_i hin
   have hn := hro hin
   subst hn
   refine wpIn_wide.2 (wp_scope_straight ?_)
   refine (wpIn_wide (n := n)).1 (run_ok hG hro c s ps e s' a w _ h hp hH fun a' w' hH' => ?_)
   have := hQ a' w' hH'
   cases e <;> exact this
  ·cases h
 | .exit id,s,ps,e,s',a,w,Q,h,_,hH,hQ => by
  cases h
  exact wpIn_exit (hQ _ _ hH)
 | .ret,s,ps,e,s',a,w,Q,h,_,hH,hQ => by
  cases h
  exact wpIn_ret (hQ _ _ hH)

theorem WpL.runK (hG : Good P C) {dec : List (Nat × Bool)} {orc : List (Nat × D)} {lorc : Lorc} {c : Code} {L L' : List (Key × Val)} {ks : List Key} {ps : List Prop} {e : Ex} {Post : Ex → List (Key × Val) → Prop}
  (h : runK C dec orc lorc c L ks = some (ps,e,L')) (hp : ∀ p ∈ ps,p) (hpost : Post e L') : WpL P C c L Post := by
 intro w0 R0 a w Q ro n hro hH hQ
 unfold Di.runK at h
 split at h
 ·rename_i ps1 e1 s1 h1
  split at h
  ·rename_i hc
   cases h
   exact run_ok hG hro c (ofL L) ps e s1 a w Q h1 hp hH fun a' w' hH' => hQ e _ a' w' hpost (hH'.restrict hc)
  ·cases h
 ·cases h

theorem WpL.loop {α : Type} (S : α → List (Key × Val)) (μ : α → Nat) {c : Code} {Post : Ex → List (Key × Val) → Prop} (h : ∀ x,WpL P C c (S x) fun e L' => match e with | .normal => ∃ y,L' = S y ∧ μ y < μ x | e => Post e L') (x : α) : WpL P C (.loop c) (S x) Post := by
 intro w0 R0 a w Q ro n hro hH hQ
 refine wpIn_loop_ghost (fun k a w => ∃ x,Holds C w0 R0 a w (ofL (S x)) ∧ μ x = k) (μ x) ⟨x,hH,rfl⟩ fun k a w hk => ?_
 obtain ⟨x,hI,rfl⟩ := hk
 refine h x w0 R0 a w _ ro n hro hI fun e L' a' w' hpost hH' => ?_
 cases e with
 | normal =>
  obtain ⟨y,rfl,hlt⟩ := hpost
  exact ⟨μ y,hlt,y,hH',rfl⟩
 | exit id => exact hQ _ _ _ _ hpost hH'
 | ret => exact hQ _ _ _ _ hpost hH'

theorem WpL.block {id : Nat} {c : Code} {L : List (Key × Val)} {Post : Ex → List (Key × Val) → Prop} (h : WpL P C c L fun e L' => match e with | .exit id' => if id' = id then Post .normal L' else Post (.exit id') L' | e => Post e L') : WpL P C (.block id c) L Post := by
 intro w0 R0 a w Q ro n hro hH hQ
 refine wpIn_block (h w0 R0 a w _ ro n hro hH fun e L' a' w' hpost hH' => ?_)
 cases e with
 | normal => exact hQ _ _ _ _ hpost hH'
 | ret => exact hQ _ _ _ _ hpost hH'
 | exit id' =>
  simp only at hpost
  by_cases he : id' = id
  ·rw [if_pos he] at hpost
   have := hQ _ _ _ _ hpost hH'
   simpa [Ex.out,Exit.inBlock,he] using this
  ·rw [if_neg he] at hpost
   have := hQ _ _ _ _ hpost hH'
   simpa [Ex.out,Exit.inBlock,he] using this

theorem WpL.seq {x y : Code} {L : List (Key × Val)} {Post : Ex → List (Key × Val) → Prop} (h : WpL P C x L fun e L' => match e with | .normal => WpL P C y L' Post | e => Post e L') : WpL P C (.seq x y) L Post := by
 intro w0 R0 a w Q ro n hro hH hQ
 refine wpIn_seq (h w0 R0 a w _ ro n hro hH fun e L' a' w' hpost hH' => ?_)
 cases e with
 | normal => exact hpost w0 R0 a' w' Q ro n hro hH' hQ
 | ret => exact hQ _ _ _ _ hpost hH'
 | exit id' => exact hQ _ _ _ _ hpost hH'

theorem WpL.wp {c : Code} {L : List (Key × Val)} {Post : Ex → List (Key × Val) → Prop} (h : WpL P C c L Post) {w0 w : World} {R0 : Foot} {a : Act} {Q : Exit → Act → World → Prop} (hH : Holds C w0 R0 a w (ofL L)) (hQ : ∀ e L' a' w',Post e L' → Holds C w0 R0 a' w' (ofL L') → Q e.out a' w') : c.wp P Q a w :=
 (wpIn_wide (n := 0)).1 (h w0 R0 a w Q none 0 (fun _ => rfl) hH hQ)
end
end Go.Di

