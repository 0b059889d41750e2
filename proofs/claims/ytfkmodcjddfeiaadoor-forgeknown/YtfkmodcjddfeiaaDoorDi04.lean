/- Part 4: an interpreter over plain data for this code, with the proof that it says what the model does, and the contracts of the functions. No condition. -/
import Derived.Test.YtfkmodcjddfeiaaDoorDi03
import Derived.Laws.Small
import Derived.Laws.MakeOwn
set_option linter.unusedVariables false
set_option linter.unusedSimpArgs false
/-
 DI,part G: soundness of the operations on numbers,of parts of values,of addresses.
-/
namespace Go.Di
open Go.RowKit

theorem wrap_in {z : Int} (h : inI64 z) : IntKind.i64.wrap z = z := by
 obtain ⟨h1,h2⟩ := h
 have hb : IntKind.i64.bits = 64 := rfl
 have hs : IntKind.i64.signed = true := rfl
 simp only [IntKind.wrap,hb,hs,Bool.true_and,decide_eq_true_eq]
 have e1 : (2 : Int) ^ 64 = 18446744073709551616 := by decide
 have e2 : (2 : Int) ^ (64 - 1) = 9223372036854775808 := by decide
 rw [e1,e2]
 split <;> omega

section
variable {P : Program} {C : Cfg} {w0 w : World} {R0 R : Foot} {a : Act} {s : St} {β : Nat → Nat} {σ : Sig} {o : Oper} {wr : List (Key × Val)} {K : Act → World → Prop} {Q : Exit → Act → World → Prop}

theorem binI_ok {op : BinOp} {ty : TypeId} {x y : Int} {k : D → M} (h : (binI op x y k).Ok s wr) : ∃ d v,(k d).Ok s wr ∧ RelT β σ s R w d v ∧ (binOp op ty (.int .i64 x) (.int .i64 y)).run P w = .ok v w := by
 cases op with
 | add => exact ⟨_,_,h.2,rfl,by simp [binOp,Op.intArith,wrap_in h.1]⟩
 | sub => exact ⟨_,_,h.2,rfl,by simp [binOp,Op.intArith,wrap_in h.1]⟩
 | mul => exact ⟨_,_,h.2,rfl,by simp [binOp,Op.intArith,wrap_in h.1]⟩
 | quo => exact ⟨_,_,h.2,rfl,by simp [binOp,Op.intDiv,h.1.1,wrap_in h.1.2]⟩
 | rem => exact ⟨_,_,h.2,rfl,by simp [binOp,Op.intDiv,show ¬ y = 0 from h.1]⟩
 | shl =>
  have h1 : ¬ y < 0 := by have := h.1.1; omega
  have h2 := wrap_in h.1.2
  exact ⟨_,_,h.2,rfl,by
   simp only [binOp,Op.shift,h1,if_false]
   have : IntKind.i64.bits = 64 := rfl
   rw [this,h2]; rfl⟩
 | shr =>
  have h1 : ¬ y < 0 := by have := h.1; omega
  exact ⟨_,_,h.2,rfl,by
   simp only [binOp,Op.shift,h1,if_false]
   have : IntKind.i64.bits = 64 := rfl
   rw [this]; rfl⟩
 | eql => exact ⟨_,_,h,rfl,by simp [binOp,Op.intCmp]⟩
 | neq => exact ⟨_,_,h,rfl,by simp [binOp,Op.intCmp]⟩
 | lss => exact ⟨_,_,h,rfl,by simp [binOp,Op.intCmp]⟩
 | leq => exact ⟨_,_,h,rfl,by simp [binOp,Op.intCmp]⟩
 | gtr => exact ⟨_,_,h,rfl,by simp [binOp,Op.intCmp]⟩
 | geq => exact ⟨_,_,h,rfl,by simp [binOp,Op.intCmp]⟩
 | and => exact ⟨_,_,h,rfl,by simp [binOp,Op.intBits]; rfl⟩
 | or => exact ⟨_,_,h,rfl,by simp [binOp,Op.intBits]; rfl⟩
 | xor => exact h.elim
 | andNot => exact h.elim

theorem agg_ints {cs : List D} {zs : List Int} (hz : allI cs = some zs) {v : Value} (h : RelT β σ s R w (.agg cs) v) : v = .agg (zs.map (Value.int .i64)).toArray := by
 obtain ⟨vs,rfl,h⟩ := h
 rw [← allI_tc cs zs _ hz h]

theorem equal_bool {t : TypeId} (h : P.underlying t = some .bool) (x y : Bool) : (Op.equal t (.bool x) (.bool y)).run P w = .ok (x == y) w := by
 exact run_equalIn_bool w 9999 t x y h

theorem eqT_of {n : Nat} {ty : TypeId} (h : eqT C ty n = true) : ∃ ti,C.tt ty = some ti ∧ ti.eq = true ∧ n = ti.sz := by
 unfold eqT at h
 split at h
 ·rename_i ti ht
  simp only [Bool.and_eq_true] at h
  exact ⟨ti,ht,h.1,Nat.eq_of_beq_eq_true h.2⟩
 ·cases h

theorem bin_ok (hT : TabOk P C.tt) (hI : Inv C w0 R0 a w s β σ R) (hK : ∀ a' w',Holds C w0 R0 a' w' (s.apply wr) → K a' w') {op : BinOp} {t t' : TypeId} {x y : Operand} (hop : o.op = .binOp op t x y t') {dec : List (Nat × Bool)} {orc : List (Nat × D)}
  (h : (sem C dec orc o).Ok s wr) : o.wp P a w K Q := by
 unfold sem at h
 rw [hop] at h
 obtain ⟨dx,h1,h2⟩ := opd_ok hI h
 clear h
 obtain ⟨dy,h,h3⟩ := opd_ok hI h1
 clear h1
 unfold binW at h
 split at h
 rotate_left
 ·rename_i z hz
  have hadd : op = .add := by
   unfold wrapMark at hz
   cases op <;> first | rfl | cases hz
  subst hadd
  split at h
  ·rename_i p q
   obtain ⟨rfl,h⟩ := h
   have e1 : a.eval x = .int .i64 p := h2
   have e2 : a.eval y = .int .i64 q := h3
   refine done_ok hI hK h (v := .int .i64 (IntKind.i64.wrap (p + q))) rfl ?_
   have g : (eqGuard .add t x y (.int .i64 p) (.int .i64 q)).run P w = .ok () w := by simp [eqGuard]
   have j3 : (binOp .add t (.int .i64 p) (.int .i64 q)).run P w = .ok (.int .i64 (IntKind.i64.wrap (p + q))) w := by simp [binOp,Op.intArith]
   simp [execOp,hop,e1,e2,g,j3]
  ·exact h.elim
 unfold binD at h
 split at h
 ·rename_i p
  split at h
  ·rename_i q
   have e1 : a.eval x = .int .i64 p := h2
   have e2 : a.eval y = .int .i64 q := h3
   obtain ⟨d,v,j1,j2,j3⟩ := binI_ok (P := P) (R := R) (w := w) (β := β) (σ := σ) (ty := t) h
   refine done_ok hI hK j1 j2 ?_
   have g : (eqGuard op t x y (.int .i64 p) (.int .i64 q)).run P w = .ok () w := by
    cases op <;> simp [eqGuard]
   simp [execOp,hop,e1,e2,g,j3]
  ·exact h.elim
 ·rename_i p
  split at h
  ·rename_i q hb
   have e1 : a.eval x = .bool p := h2
   have e2 : a.eval y = .bool q := h3
   have hu : P.underlying t = some .bool := by
    unfold isBoolT at hb
    split at hb
    ·rename_i ti ht
     split at hb
     ·rename_i hk
      have := (hT t ti ht).und
      rw [hk] at this
      exact this
     ·cases hb
    ·cases hb
   split at h
   ·exact done_ok hI hK h (v := .bool (p == q)) rfl (by simp [execOp,hop,e1,e2,eqGuard,binOp,equal_bool hu])
   ·exact done_ok hI hK h (v := .bool (!(p == q))) rfl (by simp [execOp,hop,e1,e2,eqGuard,binOp,equal_bool hu])
   ·exact h.elim
  ·exact h.elim
 ·rename_i p
  split at h
  ·rename_i q
   split at h
   ·rename_i xs ys hx hy
    split at h
    ·rename_i t1 t2
     obtain ⟨ti,k1,k2,k3⟩ := eqT_of t1
     obtain ⟨ti',l1,l2,l3⟩ := eqT_of t2
     rw [k1] at l1
     cases l1
     have e1 := agg_ints hx h2
     have e2 := agg_ints hy h3
     obtain ⟨g1,g2⟩ := (hT t ti k1).eqok k2
     have g3 := g2 w xs ys k3 l3
     split at h
     ·exact done_ok hI hK h (v := .bool (eqI xs ys)) rfl (by simp only [execOp,hop,e1,e2]; simp [eqGuard,binOp,g1,g3])
     ·exact done_ok hI hK h (v := .bool (!(eqI xs ys))) rfl (by simp only [execOp,hop,e1,e2]; simp [eqGuard,binOp,g1,g3])
     ·exact h.elim
    ·exact h.elim
   ·exact h.elim
  ·exact h.elim
 ·exact h.elim

theorem un_ok (hI : Inv C w0 R0 a w s β σ R) (hK : ∀ a' w',Holds C w0 R0 a' w' (s.apply wr) → K a' w') {op : UnOp} {t : TypeId} {x : Operand} (hop : o.op = .unOp op t x) {dec : List (Nat × Bool)} {orc : List (Nat × D)}
  (h : (sem C dec orc o).Ok s wr) : o.wp P a w K Q := by
 unfold sem at h
 rw [hop] at h
 cases op with
 | not =>
  obtain ⟨d,h1,h2⟩ := opd_ok hI h
  split at h1
  ·rename_i b
   have e : a.eval x = .bool b := h2
   exact done_ok hI hK h1 (v := .bool (!b)) rfl (by simp [execOp,hop,e,Op.unary])
  ·exact h1.elim
 | neg =>
  obtain ⟨d,h1,h2⟩ := opd_ok hI h
  split at h1
  ·rename_i z
   have e : a.eval x = .int .i64 z := h2
   have hw := wrap_in h1.1
   exact done_ok hI hK h1.2 (v := .int .i64 (0 - z)) rfl (by simp only [execOp,hop,e,Op.unary,Op.intArith]; rw [hw]; simp)
  ·exact h1.elim
 | xor => exact h.elim
 | plus => exact h.elim

/-! ### Parts of values -/
theorem part_run {t : TypeId} {ti : TI} (hT : TIok P C.tt t ti) {off : Nat} (vs : Array Value) (hle : off + ti.sz ≤ vs.toList.length) (hsz : ti.agg = false → ti.sz = 1) :
  (part t vs off).run P w = .ok (if ti.agg = true then .agg ((vs.toList.drop off).take ti.sz).toArray else (vs.toList.getD off undef)) w := by
 have h1 := isAgg_run (P := P) (C := C) (w := w) hT
 have h2 := sizeOf_run (P := P) (C := C) (w := w) hT
 cases ha : ti.agg with
 | true =>
  simp [part,h1,ha,h2]
  apply Array.ext'
  simp
 | false =>
  have := hsz ha
  have hlt : off < vs.size := by simp at hle; omega
  simp [part,h1,ha,hlt,List.getD_eq_getElem?_getD]

theorem field_ok (hT : TabOk P C.tt) (hI : Inv C w0 R0 a w s β σ R) (hK : ∀ a' w',Holds C w0 R0 a' w' (s.apply wr) → K a' w') {t : TypeId} {x : Operand} {f : Nat} (hop : o.op = .field t x f) {dec : List (Nat × Bool)} {orc : List (Nat × D)}
  (h : (sem C dec orc o).Ok s wr) : o.wp P a w K Q := by
 unfold sem at h
 rw [hop] at h
 simp only at h
 split at h
 ·rename_i ti ht
  split at h
  ·rename_i fs hk
   split at h
   ·rename_i off ft hf
    split at h
    ·rename_i tf htf
     obtain ⟨d,h1,h2⟩ := opd_ok hI h
     split at h1
     ·rename_i cs
      obtain ⟨vs,e,hr⟩ := h2
      have hu := (hT t ti ht).und
      rw [hk] at hu
      obtain ⟨fields,u1,u2,u3,u4⟩ := hu
      obtain ⟨p1,p2,d,p3,p4⟩ := loadAtD_ok (β := β) h1 hr
      refine done_ok hI hK p3 p4 ?_
      have hi : f < fields.size := by rw [u3]; exact (List.getElem?_eq_some_iff.1 hf).1
      have hfe := (u2 f fields[f] (Array.getElem?_eq_getElem hi)).1
      rw [hf] at hfe
      cases hfe
      have := part_run (P := P) (C := C) (w := w) (hT _ _ htf) vs p1 p2
      simp [execOp,hop,e,Instr.field,run_underlying u1,hi,asAgg,this]
     ·exact h1.elim
    ·exact h.elim
   ·exact h.elim
  ·exact h.elim
 ·exact h.elim

theorem fieldAddr_ok (hT : TabOk P C.tt) (hI : Inv C w0 R0 a w s β σ R) (hK : ∀ a' w',Holds C w0 R0 a' w' (s.apply wr) → K a' w') {t : TypeId} {x : Operand} {f : Nat} (hop : o.op = .fieldAddr t x f) {dec : List (Nat × Bool)} {orc : List (Nat × D)}
  (h : (sem C dec orc o).Ok s wr) : o.wp P a w K Q := by
 unfold sem at h
 rw [hop] at h
 simp only at h
 split at h
 ·rename_i ti ht
  split at h
  ·rename_i fs hk
   split at h
   ·rename_i off ft hf
    split at h
    ·rename_i tf htf
     split at h
     ·rename_i hz
      obtain ⟨d,h1,h2⟩ := opd_ok hI h
      have hz' : ¬ tf.sz = 0 := fun e => by rw [beq_t e] at hz; cases hz
      have hu := (hT t ti ht).und
      rw [hk] at hu
      obtain ⟨fields,u1,u2,u3,u4⟩ := hu
      have hi : f < fields.size := by rw [u3]; exact (List.getElem?_eq_some_iff.1 hf).1
      have hfe := (u2 f fields[f] (Array.getElem?_eq_getElem hi)).1
      rw [hf] at hfe
      cases hfe
      have hs := sizeOf_run (P := P) (C := C) (w := w) (hT _ _ htf)
      split at h1
      ·rename_i b o'
       obtain ⟨hb,e⟩ := h2
       exact done_ok hI hK h1 (v := .pointer (some ⟨β b,o' + fields[f].offset,none⟩)) ⟨hb,rfl⟩ (by simp [execOp,hop,e,Instr.fieldAt,run_underlying u1,hi,Instr.sureAddr,fieldPlace,hs,hz',add_plain])
      ·rename_i cs o'
       obtain ⟨b,o'',e,hr⟩ := h2
       exact done_ok hI hK h1 (v := .pointer (some ⟨b,o'' + (o' + fields[f].offset),none⟩)) ⟨b,o'',rfl,hr⟩ (by simp [execOp,hop,e,Instr.fieldAt,run_underlying u1,hi,Instr.sureAddr,fieldPlace,hs,hz',add_plain,Nat.add_assoc])
      ·exact h1.elim
     ·exact h.elim
    ·exact h.elim
   ·exact h.elim
  ·exact h.elim
 ·exact h.elim

theorem elt_of {t : TypeId} {e : E} {bytes : Nat} (hT : TabOk P C.tt) (h : elt C.tt t = some (e,bytes)) : ∃ el te,P.underlying t = some (.slice el) ∧ TIok P C.tt el te ∧ te.e = some e ∧ te.sz = e.sz ∧ te.bytes = bytes := by
 unfold elt at h
 split at h
 ·rename_i ti ht
  split at h
  ·rename_i el hk
   split at h
   ·rename_i te hte
    split at h
    ·rename_i e' he
     split at h
     ·rename_i hs
      cases h
      have hu := (hT t ti ht).und
      rw [hk] at hu
      exact ⟨el,te,hu.1,hT _ _ hte,he,(Nat.eq_of_beq_eq_true hs).symm,rfl⟩
     ·cases h
    ·cases h
   ·cases h
  ·cases h
 ·cases h

theorem slR_elem {e : E} {xs : List e.α} {v : Value} {full : Bool} (h : SlR (RelE R w e) e.sz R w full xs v) {i : Nat} (hi : i < xs.length) :
  ∃ b o c,v = .slice (some ⟨b,o,none⟩) xs.length c ∧ ∀ x,xs[i]? = some x → RefAt (RelC R w) R w (e.enc x) b (o + i * e.sz) := by
 obtain ⟨A,c,hv,h1,h2,_,h4⟩ := h
 obtain ⟨b,o,ha,hc⟩ := h4 (by omega)
 subst ha
 refine ⟨b,o,c,hv,fun x hx j d hd => ?_⟩
 obtain ⟨vs,k1,k2,k3⟩ := hc i x hx
 obtain ⟨u,hu,hr⟩ := All2.get (enc_rel e x vs k2) j d hd
 exact ⟨u,RelC.of0 hr,k3 j u hu⟩

theorem indexAddr_ok (hT : TabOk P C.tt) (hI : Inv C w0 R0 a w s β σ R) (hK : ∀ a' w',Holds C w0 R0 a' w' (s.apply wr) → K a' w') {t : TypeId} {x y : Operand} (hop : o.op = .indexAddr t x y) {dec : List (Nat × Bool)} {orc : List (Nat × D)}
  (h : (sem C dec orc o).Ok s wr) : o.wp P a w K Q := by
 unfold sem at h
 rw [hop] at h
 simp only at h
 split at h
 ·rename_i ti ht
  split at h
  ·rename_i n el hk
   split at h
   ·rename_i te hte
    obtain ⟨d,h1,h2⟩ := opd_ok hI h
    clear h
    obtain ⟨i,h,h3⟩ := opd_ok hI h1
    clear h1
    have hu := (hT t ti ht).und
    rw [hk] at hu
    have hs := sizeOf_run (P := P) (C := C) (w := w) (hT _ _ hte)
    split at h
    ·rename_i b off z
     obtain ⟨hz,h⟩ := h
     obtain ⟨hb,e⟩ := h2
     have e2 : a.eval y = .int .i64 z := h3
     exact done_ok hI hK h (v := .pointer (some ⟨β b,off + z.toNat * te.sz,none⟩)) ⟨hb,rfl⟩ (by simp [execOp,hop,e,e2,Instr.indexAt,asIntOf,run_underlying hu.1,Instr.sureAddr,hz,hs,add_plain])
    ·rename_i cs off z
     obtain ⟨hz,h⟩ := h
     obtain ⟨b,o',e,hr⟩ := h2
     have e2 : a.eval y = .int .i64 z := h3
     exact done_ok hI hK h (v := .pointer (some ⟨b,o' + (off + z.toNat * te.sz),none⟩)) ⟨b,o',rfl,hr⟩ (by simp [execOp,hop,e,e2,Instr.indexAt,asIntOf,run_underlying hu.1,Instr.sureAddr,hz,hs,add_plain,Nat.add_assoc])
    ·exact h.elim
   ·exact h.elim
  ·rename_i el hk
   split at h
   ·rename_i e0 bytes he
    obtain ⟨d,h1,h2⟩ := opd_ok hI h
    clear h
    obtain ⟨i,h,h3⟩ := opd_ok hI h1
    clear h1
    split at h
    ·rename_i z
     split at h
     ·rename_i b n
      obtain ⟨hz,h⟩ := h
      obtain ⟨hb,c,hc1,hc2,e⟩ := h2
      have e2 : a.eval y = .int .i64 z := h3
      obtain ⟨el',te,u1,u2,u3,u4,u5⟩ := elt_of hT he
      have hs := sizeOf_run (P := P) (C := C) (w := w) u2
      exact done_ok hI hK h (v := .pointer (some ⟨β b,z.toNat * e0.sz,none⟩)) ⟨hb,rfl⟩ (by simp [execOp,hop,e,e2,Instr.indexAt,asIntOf,run_underlying u1,hz,hs,u4,add_plain])
     obtain ⟨e,xs,h4,h5⟩ := elems_ok hI h (typed_rel h2)
     split at h4
     ·rename_i hee _
      obtain ⟨rfl⟩ := hee
      obtain ⟨hz,h6⟩ := h4
      have hzl : z.toNat < xs.length := by omega
      obtain ⟨b,o',c,k1,k2⟩ := slR_elem h5 hzl
      have k3 := k2 xs[z.toNat] (List.getElem?_eq_getElem hzl)
      have e2 : a.eval y = .int .i64 z := h3
      have hg : xs.getD z.toNat e.z = xs[z.toNat] := by rw [List.getD_eq_getElem?_getD,List.getElem?_eq_getElem hzl]; rfl
      rw [hg] at h6
      obtain ⟨el',te,u1,u2,u3,u4,u5⟩ := elt_of hT he
      have hs := sizeOf_run (P := P) (C := C) (w := w) u2
      refine done_ok hI hK h6 (v := .pointer (some ⟨b,o' + z.toNat * e.sz + 0,none⟩)) ⟨b,o' + z.toNat * e.sz,rfl,k3⟩ ?_
      simp [execOp,hop,k1,e2,Instr.indexAt,asIntOf,run_underlying u1,hz,hs,u4,add_plain]
     ·exact h4.elim
    ·exact h.elim
   ·exact h.elim
  ·exact h.elim
 ·exact h.elim

theorem index_ok (hT : TabOk P C.tt) (hI : Inv C w0 R0 a w s β σ R) (hK : ∀ a' w',Holds C w0 R0 a' w' (s.apply wr) → K a' w') {t : TypeId} {x y : Operand} (hop : o.op = .index t x y) {dec : List (Nat × Bool)} {orc : List (Nat × D)}
  (h : (sem C dec orc o).Ok s wr) : o.wp P a w K Q := by
 unfold sem at h
 rw [hop] at h
 simp only at h
 split at h
 ·rename_i ti ht
  split at h
  ·rename_i n el hk
   split at h
   ·rename_i te hte
    obtain ⟨d,h1,h2⟩ := opd_ok hI h
    clear h
    obtain ⟨i,h,h3⟩ := opd_ok hI h1
    clear h1
    have hu := (hT t ti ht).und
    rw [hk] at hu
    have hs := sizeOf_run (P := P) (C := C) (w := w) (hT _ _ hte)
    split at h
    ·rename_i cs z
     obtain ⟨hz,h⟩ := h
     obtain ⟨vs,e,hr⟩ := h2
     have e2 : a.eval y = .int .i64 z := h3
     obtain ⟨p1,p2,d,p3,p4⟩ := loadAtD_ok (β := β) h hr
     have := part_run (P := P) (C := C) (w := w) (hT _ _ hte) vs p1 p2
     exact done_ok hI hK p3 p4 (by simp [execOp,hop,e,e2,Instr.index,asIntOf,run_underlying hu.1,hz,hs,this])
    ·exact h.elim
   ·exact h.elim
  ·exact h.elim
 ·exact h.elim

theorem extract_ok (hI : Inv C w0 R0 a w s β σ R) (hK : ∀ a' w',Holds C w0 R0 a' w' (s.apply wr) → K a' w') {x : Operand} {ix : Nat} (hop : o.op = .extract x ix) {dec : List (Nat × Bool)} {orc : List (Nat × D)}
  (h : (sem C dec orc o).Ok s wr) : o.wp P a w K Q := by
 unfold sem at h
 rw [hop] at h
 obtain ⟨d,h1,h2⟩ := opd_ok hI h
 split at h1
 ·rename_i vs
  split at h1
  ·rename_i d hd
   obtain ⟨us,e,hr⟩ := h2
   obtain ⟨u,hu,hr'⟩ := All2.get hr ix d hd
   exact done_ok hI hK h1 (v := u) (RelT.ofA hr') (by
    have : us[ix]? = some u := by simpa using hu
    simp [execOp,hop,e,Instr.extract,this])
  ·exact h1.elim
 ·exact h1.elim
end
end Go.Di

/-
 DI,part H: soundness of slices that are cut,of rows that are built,of append.
-/
namespace Go.Di
open Go.RowKit

section
variable {P : Program} {C : Cfg} {w0 w : World} {R0 R : Foot} {a : Act} {s : St} {β : Nat → Nat} {σ : Sig} {o : Oper} {wr : List (Key × Val)} {K : Act → World → Prop} {Q : Exit → Act → World → Prop}

def OptRel (β : Nat → Nat) (σ : Sig) (s : St) (R : Foot) (w : World) (a : Act) : Option D → Option Operand → Prop
 | none,none => True
 | some d,some x => RelT β σ s R w d (a.eval x)
 | _,_ => False

theorem optOpd_ok (hI : Inv C w0 R0 a w s β σ R) {x : Option Operand} {k : Option D → M} (h : (optOpd C x k).Ok s wr) :
  ∃ d,(k d).Ok s wr ∧ OptRel β σ s R w a d x := by
 cases x with
 | none => exact ⟨none,h,trivial⟩
 | some x =>
  obtain ⟨d,h1,h2⟩ := opd_ok hI h
  exact ⟨some d,h1,h2⟩

theorem bound_of {n z : Int} {d : Option D} {x : Option Operand} (hr : OptRel β σ s R w a d x) (h : bound n d = some z) : (x = none ∧ d = none ∧ z = n) ∨ ∃ y d',x = some y ∧ d = some d' ∧ a.eval y = .int .i64 z := by
 cases d with
 | none =>
  cases x with
  | none => cases h; exact .inl ⟨rfl,rfl,rfl⟩
  | some x => exact hr.elim
 | some d =>
  cases x with
  | none => exact hr.elim
  | some x =>
   unfold bound at h
   split at h
   ·rename_i hq; cases hq
   ·rename_i hq
    cases hq
    cases h
    exact .inr ⟨x,_,rfl,rfl,hr⟩
   ·cases h

theorem boundOk {k : IntKind} {i : Int} {y : Nat} {code : BoundsCode} (h : 0 ≤ i ∧ i ≤ y) : (Instr.sliceBound (.int k i) y code).run P w = .ok i.toNat w := by
 simp [Instr.sliceBound,asIntOf,h]

theorem slR_cut {e : E} {xs : List e.α} {A : Option Addr} {c : Nat} (h : SlR (RelE R w e) e.sz R w false xs (.slice A xs.length c)) {l hh m : Nat} (h1 : l ≤ hh) (h2 : hh ≤ xs.length) (h3 : hh ≤ m) (h4 : m ≤ c) {full : Bool} (hf : full = true → m = hh) :
  SlR (RelE R w e) e.sz R w full ((xs.take hh).drop l) (.slice (if m = l then A else A.map (·.add (l * e.sz))) (hh - l) (m - l)) := by
 obtain ⟨A',c',hv,g1,g2,_,g4⟩ := h
 injection hv with hv1 hv2 hv3
 subst hv1 hv3
 have hlen : ((xs.take hh).drop l).length = hh - l := by simp; omega
 refine ⟨_,m - l,by rw [hlen],by omega,by omega,fun x => by rw [hlen,hf x],fun hp => ?_⟩
 rw [hlen] at hp
 obtain ⟨b,o,ha,hc⟩ := g4 (by omega)
 subst ha
 refine ⟨b,o + l * e.sz,by rw [if_neg (by omega)]; simp [add_plain],fun i x hx => ?_⟩
 have hi : i < hh - l := by rw [← hlen]; exact (List.getElem?_eq_some_iff.1 hx).1
 rw [List.getElem?_drop,List.getElem?_take,if_pos (by omega)] at hx
 obtain ⟨vs,k1,k2,k3⟩ := hc (l + i) x hx
 refine ⟨vs,k1,k2,fun j u hu => ?_⟩
 have := k3 j u hu
 rw [show o + l * e.sz + i * e.sz + j = o + (l + i) * e.sz + j by rw [Nat.add_mul]; omega]
 exact this

theorem slice_ok (hT : TabOk P C.tt) (hI : Inv C w0 R0 a w s β σ R) (hK : ∀ a' w',Holds C w0 R0 a' w' (s.apply wr) → K a' w') {t : TypeId} {x : Operand} {lo hi mx : Option Operand} (hop : o.op = .slice t x lo hi mx) {dec : List (Nat × Bool)} {orc : List (Nat × D)}
  (h : (sem C dec orc o).Ok s wr) : o.wp P a w K Q := by
 unfold sem at h
 rw [hop] at h
 simp only at h
 split at h
 ·rename_i e0 bytes he
  obtain ⟨d,h1,h2⟩ := opd_ok hI h
  clear h
  obtain ⟨dl,h,hl⟩ := optOpd_ok hI h1
  clear h1
  obtain ⟨dh,h1,hh⟩ := optOpd_ok hI h
  clear h
  obtain ⟨dm,h,hm⟩ := optOpd_ok hI h1
  clear h1
  unfold sliceD at h
  obtain ⟨e,xs,h3,h4⟩ := elems_ok hI h (typed_rel h2)
  clear h
  split at h3
  ·exact h3.elim
  ·rename_i hee _
   obtain ⟨rfl⟩ := hee
   obtain ⟨el,te,u1,u2,u3,u4,u5⟩ := elt_of hT he
   have hs := sizeOf_run (P := P) (C := C) (w := w) u2
   obtain ⟨A,c,hv,g1,g2,g3,g4⟩ := h4
   have h4 : SlR (RelE R w e) e.sz R w false xs (.slice A xs.length c) := ⟨A,c,rfl,g1,g2,g3,g4⟩
   split at h3
   ·rename_i l hh' hlo hhi
    have bl : (lo = none ∧ l = 0) ∨ ∃ y,lo = some y ∧ a.eval y = .int .i64 l := by
     rcases bound_of hl hlo with ⟨h1,_,h2⟩ | ⟨y,_,h1,_,hy⟩
     ·exact .inl ⟨h1,h2⟩
     ·exact .inr ⟨y,h1,hy⟩
    split at h3
    ·obtain ⟨⟨b1,b2,b3⟩,h3⟩ := h3
     have hmx : mx = none := by
      cases mx with
      | none => rfl
      | some x => exact hm.elim
     subst hmx
     have hcut := slR_cut h4 (l := l.toNat) (hh := hh'.toNat) (m := c) (by omega) (by omega) (by omega) (Nat.le_refl _) (full := false) (fun x => by cases x)
     refine done_ok hI hK h3 (v := .slice (if c = l.toNat then A else A.map (·.add (l.toNat * e.sz))) (hh'.toNat - l.toNat) (c - l.toNat)) hcut ?_
     have hbd : (Instr.sliceBounds true xs.length c (lo.map a.eval) (hi.map a.eval) none).run P w = .ok (l.toNat,hh'.toNat,c) w := by
      have e2 := boundOk (P := P) (w := w) (k := .i64) (i := l) (y := hh'.toNat) (code := .sliceB) (by omega)
      rcases bound_of hh hhi with ⟨rfl,_,rfl⟩ | ⟨y,_,rfl,_,hy⟩
      ·simp only [Int.toNat_natCast] at e2
       rcases bl with ⟨rfl,rfl⟩ | ⟨y,rfl,hy⟩
       ·simp [Instr.sliceBounds]
       ·simp [Instr.sliceBounds,hy,e2]
      ·have e1 := boundOk (P := P) (w := w) (k := .i64) (i := hh') (y := c) (code := .sliceAcap) (by omega)
       rcases bl with ⟨rfl,rfl⟩ | ⟨y,rfl,hy'⟩
       ·simp [Instr.sliceBounds,hy,e1]
       ·simp [Instr.sliceBounds,hy,hy',e1,e2]
     simp [execOp,hop,hv,Instr.sliceAt,run_underlying u1,Instr.slice,hbd,hs,u4]
    ·rename_i m
     have hmx : ∃ y,mx = some y ∧ a.eval y = .int .i64 m := by
      cases mx with
      | none => exact hm.elim
      | some y => exact ⟨y,rfl,hm⟩
     obtain ⟨y,rfl,hy⟩ := hmx
     split at h3
     ·obtain ⟨⟨b1,b2,b3,b4⟩,h3⟩ := h3
      subst b4
      have hcut := slR_cut h4 (l := l.toNat) (hh := m.toNat) (m := m.toNat) (by omega) (by omega) (by omega) (by omega) (full := true) (fun x => rfl)
      refine done_ok hI hK h3 (v := .slice (if m.toNat = l.toNat then A else A.map (·.add (l.toNat * e.sz))) (m.toNat - l.toNat) (m.toNat - l.toNat)) hcut ?_
      have hbd : (Instr.sliceBounds true xs.length c (lo.map a.eval) (hi.map a.eval) (some (.int .i64 m))).run P w = .ok (l.toNat,m.toNat,m.toNat) w := by
       rcases bound_of hh hhi with ⟨_,h,_⟩ | ⟨y,_,rfl,_,hy⟩
       ·cases h
       ·have e1 := boundOk (P := P) (w := w) (k := .i64) (i := m) (y := c) (code := .slice3Acap) (by omega)
        have e2 := boundOk (P := P) (w := w) (k := .i64) (i := m) (y := m.toNat) (code := .slice3B) (by omega)
        have e3 := boundOk (P := P) (w := w) (k := .i64) (i := l) (y := m.toNat) (code := .slice3C) (by omega)
        rcases bl with ⟨rfl,rfl⟩ | ⟨y,rfl,hy'⟩
        ·simp [Instr.sliceBounds,hy,e1,e2]
        ·simp [Instr.sliceBounds,hy,hy',e1,e2,e3]
      simp [execOp,hop,hv,hy,Instr.sliceAt,run_underlying u1,Instr.slice,hbd,hs,u4]
     ·exact h3.elim
    ·exact h3.elim
   ·exact h3.elim
 ·exact h.elim

/-! ### Rows that are built -/
theorem relC0_of : ∀ {d : D} {v : Value},is0 d = true → RelC R w d v → RelC0 R w d v
 | .int _ _,_,_,h => h | .bool _,_,_,h => h | .nil,_,_,h => h | .nilmap,_,_,h => h | .nilfn,_,_,h => h | .sl _ _ _,_,_,h => h | .map _,_,_,h => h
 | .undef,_,h,_ => by cases h
 | .fn _ _ _,_,h,_ => by cases h | .self _ _ _,_,h,_ => by cases h
 | .own _ _,_,h,_ => by cases h
 | .ptr _ _,_,h,_ => by cases h | .mref _,_,h,_ => by cases h | .row _ _,_,h,_ => by cases h
 | .ref _ _,_,h,_ => by cases h
 | .agg _,_,h,_ => by cases h
 | .tup _,_,h,_ => by cases h
theorem all0_of : ∀ {cs : List D} {vs : List Value},cs.all is0 = true → All2 (RelC R w) cs vs → All2 (RelC0 R w) cs vs
 | [],[],_,_ => trivial
 | d :: cs,v :: vs,h,⟨h1,h2⟩ => by
  simp only [List.all_cons,Bool.and_eq_true] at h
  exact ⟨relC0_of h.1 h1,all0_of h.2 h2⟩
 | [],_ :: _,_,h => h.elim
 | _ :: _,[],_,h => h.elim

theorem resCellsOf_ok (hI : Inv C w0 R0 a w s β σ R) {d : D} {v : Value} {k : List D → M} (h : (resCells (cellsOf d) k).Ok s wr) (hr : RelT β σ s R w d v) : ∃ cs,(k cs).Ok s wr ∧ All2 (RelC R w) cs v.cells.toList := by
 have one : ∀ (x : D),cellsOf d = [x] → RelTC β σ s R w x v → ∃ cs,(k cs).Ok s wr ∧ All2 (RelC R w) cs v.cells.toList := by
  intro x hx hxr
  rw [hx] at h
  obtain ⟨cs,h1,h2⟩ := resCells_ok hI (vs := [v]) h ⟨hxr,trivial⟩
  obtain ⟨d',l,e,h3,h4⟩ : ∃ d' l,cs = d' :: l ∧ RelC R w d' v ∧ All2 (RelC R w) l [] := by
   cases cs with
   | nil => exact h2.elim
   | cons d' l => exact ⟨d',l,rfl,h2.1,h2.2⟩
  have : v.cells = #[v] := cells_one (one_of_C h3)
  exact ⟨cs,h1,by rw [this]; exact h2⟩
 cases d with
 | agg cs =>
  obtain ⟨vs,rfl,hr⟩ := hr
  exact resCells_ok hI h hr
 | own i n => exact one _ rfl hr
 | int k n => exact one _ rfl hr
 | bool b => exact one _ rfl hr
 | nil => exact one _ rfl hr
 | nilmap => exact one _ rfl hr
 | nilfn => exact one _ rfl hr
 | sl f e xs => exact one _ rfl hr
 | map mm => exact one _ rfl hr
 | fn f x y => exact one _ rfl hr
 | self f x y => exact one _ rfl hr
 | undef => exact h.elim
 | ptr i n => exact h.elim
 | mref i => exact h.elim
 | row i n => exact h.elim
 | ref x y => exact h.elim
 | tup x => exact h.elim

theorem resRows_ok (hI : Inv C w0 R0 a w s β σ R) : ∀ {ds : List D} {vs : List Value} {k : List (List D) → M},(sem.resRows (ds.map cellsOf) k).Ok s wr → All2 (RelT β σ s R w) ds vs → ∃ css,(k css).Ok s wr ∧ All2 (fun cs (v : Value) => All2 (RelC0 R w) cs v.cells.toList) css vs
 | [],[],k,h,_ => ⟨[],h,trivial⟩
 | d :: ds,v :: vs,k,h,⟨h1,h2⟩ => by
  simp only [List.map_cons,sem.resRows] at h
  obtain ⟨cs,h3,h4⟩ := resCellsOf_ok hI h h1
  split at h3
  ·rename_i h0
   obtain ⟨css,h5,h6⟩ := resRows_ok hI h3 h2
   exact ⟨cs :: css,h5,all0_of h0 h4,h6⟩
  ·exact h3.elim
 | [],_ :: _,_,_,h => h.elim
 | _ :: _,[],_,_,h => h.elim

theorem decAll_ok {e : E} : ∀ {css : List (List D)} {vs : List Value} {xs : List e.α},decAll e css = some xs → All2 (fun cs (v : Value) => All2 (RelC0 R w) cs v.cells.toList) css vs → All2 (fun x (v : Value) => RelE R w e x v.cells.toList ∧ v.cells.size = e.sz) xs vs
 | [],[],xs,h,_ => by cases h; trivial
 | cs :: css,v :: vs,xs,h,⟨h1,h2⟩ => by
  simp only [decAll] at h
  split at h
  ·rename_i x xs' hx hxs
   cases h
   have hr := dec_rel e cs x _ hx h1
   have hl := All2.length (enc_rel e x _ hr)
   rw [enc_length] at hl
   exact ⟨⟨hr,by simpa using hl.symm⟩,decAll_ok hxs h2⟩
  ·cases h
 | [],_ :: _,_,_,h => h.elim
 | _ :: _,[],_,_,h => h.elim

theorem fillSeq {sz : Nat} {place : Nat → Option (Nat × Nat)} (hp : ∀ i,place i = some (i * sz,sz)) : ∀ (vs : List Value) (k : Nat) (arr : Array Value),(∀ v ∈ vs,v.cells.size = sz) → (k + vs.length) * sz ≤ arr.size →
  ∃ arr',Instr.fill place arr ((List.range' k vs.length).zip vs) = some arr' ∧ arr'.size = arr.size ∧ (∀ q,q < k * sz → arr'[q]? = arr[q]?) ∧ ∀ i v,vs[i]? = some v → ∀ j u,v.cells.toList[j]? = some u → arr'[(k + i) * sz + j]? = some u
 | [],k,arr,_,_ => ⟨arr,rfl,rfl,fun _ _ => rfl,fun i v h => by simp at h⟩
 | v :: vs,k,arr,hv,hle => by
  have hv0 := hv v (by simp)
  have hks : (k + 1 + vs.length) * sz = (k + (v :: vs).length) * sz := by simp only [List.length_cons]; congr 1; omega
  have hkk : (k + 1) * sz ≤ (k + 1 + vs.length) * sz := Nat.mul_le_mul_right _ (by omega)
  obtain ⟨arr',h1,h2,h3,h4⟩ := fillSeq hp vs (k + 1) (putAll arr (k * sz) v.cells.toList) (fun u hu => hv u (by simp [hu])) (by rw [putAll_size,hks]; exact hle)
  have hk1 : (k + 1) * sz = k * sz + sz := by rw [Nat.add_mul]; omega
  refine ⟨arr',?_,by rw [h2,putAll_size],fun q hq => ?_,fun i u hu j x hx => ?_⟩
  ·simp only [List.length_cons,List.range'_succ,List.zip_cons_cons]
   rw [Instr.fill,hp k]
   simp only
   rw [if_neg (by simp; omega),fill_put]
   exact h1
  ·rw [h3 q (by omega),putAll_get,if_neg (by omega)]
  ·cases i with
   | zero =>
    simp only [List.getElem?_cons_zero,Option.some.injEq] at hu
    subst hu
    have hj : j < sz := by rw [← hv0]; simpa using (List.getElem?_eq_some_iff.1 hx).1
    rw [Nat.add_zero,h3 _ (by omega),putAll_get,if_pos ⟨by omega,by simp; omega,by omega⟩]
    rw [Nat.add_sub_cancel_left]
    exact hx
   | succ i =>
    simp only [List.getElem?_cons_succ] at hu
    have := h4 i u hu j x hx
    rw [show k + (i + 1) = k + 1 + i by omega]
    exact this

theorem upFrom_eq : ∀ (l : List Nat) (k : Nat),sem.upFrom k l = true → l = List.range' k l.length
 | [],_,_ => rfl
 | a :: l,k,h => by
  simp only [sem.upFrom,Bool.and_eq_true] at h
  have h1 := Nat.eq_of_beq_eq_true h.1
  have h2 := upFrom_eq l (k + 1) h.2
  simp only [List.length_cons,List.range'_succ,List.cons.injEq]
  exact ⟨h1,h2⟩
theorem eqNs_eq {l : List Nat} {n : Nat} (h : sem.eqNs l n = true) : l = List.range' 0 n ∧ l.length = n := by
 cases l with
 | nil =>
  have := Nat.eq_of_beq_eq_true h
  subst this
  exact ⟨rfl,rfl⟩
 | cons a l =>
  simp only [sem.eqNs,Bool.and_eq_true] at h
  have h1 := Nat.eq_of_beq_eq_true h.1
  have h2 := upFrom_eq _ _ h.2
  rw [h1] at h2
  exact ⟨h2,h1⟩

theorem sz_le (e : E) : e.sz ≤ 12 := by cases e <;> simp [E.sz]

theorem chkVals_ok (hI : Inv C w0 R0 a w s β σ R) {m : M} : ∀ {ds : List D} {vs : List Value},(chkVals ds m).Ok s wr → All2 (RelT β σ s R w) ds vs → m.Ok s wr ∧ All2 (fun d (v : Value) => All2 (RelTC β σ s R w) (cellsOf d) v.cells.toList) ds vs
 | [],[],h,_ => ⟨h,trivial⟩
 | d :: ds,v :: vs,h,⟨h1,h2⟩ => by
  simp only [chkVals] at h
  obtain ⟨h3,h4,_⟩ := cells_ok hI h h1
  obtain ⟨h5,h6⟩ := chkVals_ok hI h3 h2
  exact ⟨h5,h4,h6⟩
 | [],_ :: _,_,h => h.elim
 | _ :: _,[],_,h => h.elim

theorem flat_get {f : D → List D} {sz : Nat} : ∀ (ds : List D),(∀ d ∈ ds,(f d).length = sz) → ∀ (i : Nat) (d : D),ds[i]? = some d → ∀ j,j < sz → (ds.flatMap f)[i * sz + j]? = (f d)[j]?
 | [],_,_,_,h,_,_ => by simp at h
 | x :: ds,hl,0,d,h,j,hj => by
  simp only [List.getElem?_cons_zero,Option.some.injEq] at h
  subst h
  have := hl x (by simp)
  simp only [List.flatMap_cons,Nat.zero_mul,Nat.zero_add]
  rw [List.getElem?_append_left (by omega)]
 | x :: ds,hl,i + 1,d,h,j,hj => by
  have h1 := hl x (by simp)
  have h2 := flat_get ds (fun d hd => hl d (by simp [hd])) i d (by simpa using h) j hj
  simp only [List.flatMap_cons]
  rw [List.getElem?_append_right (by rw [h1,Nat.add_mul]; omega),← h2]
  congr 1
  rw [h1,Nat.add_mul]
  omega
theorem flat_length {f : D → List D} {sz : Nat} : ∀ (ds : List D),(∀ d ∈ ds,(f d).length = sz) → (ds.flatMap f).length = ds.length * sz
 | [],_ => by simp
 | x :: ds,hl => by
  simp only [List.flatMap_cons,List.length_append,List.length_cons,Nat.add_mul,Nat.one_mul]
  rw [flat_length ds (fun d hd => hl d (by simp [hd])),hl x (by simp)]
  omega
theorem sz_pos (e : E) : 0 < e.sz := by cases e <;> simp [E.sz]

theorem buildRow_run (hT : TabOk P C.tt) {t : TypeId} {n : Nat} {parts : Array (Nat × Operand)} (hop : o.op = .buildSlice t n parts) {e : E} {bytes : Nat} (he : elt C.tt t = some (e,bytes)) (hn1 : sem.eqNs (parts.toList.map (·.1)) n = true) (hn2 : n * 12 ≤ 16777216)
  (hv : ∀ v ∈ (parts.toList.map (·.2)).map a.eval,v.cells.size = e.sz) : ∃ el arr',(execOp a.eval o).run P w = .ok (.value (.slice (some ⟨w.heap.size,0,none⟩) n n)) (w.alloc (.cells arr' el)) ∧ arr'.size = n * e.sz ∧
   ∀ i v,((parts.toList.map (·.2)).map a.eval)[i]? = some v → ∀ j u,v.cells.toList[j]? = some u → arr'[i * e.sz + j]? = some u := by
 obtain ⟨hidx,hlen⟩ := eqNs_eq hn1
 obtain ⟨el,te,u1,u2,u3,u4,u5⟩ := elt_of hT he
 have hs := sizeOf_run (P := P) (C := C) (w := w) u2
 obtain ⟨i,z,j1,j2,j3,j4,j6,j5⟩ := u2.info
 have hz : (zeroValue el).run P w = .ok z w := by simp [zeroValue,typeInfo,j1,j4]
 have hvl : (List.map a.eval (parts.toList.map (·.2))).length = n := by simp at hlen ⊢; omega
 generalize hvs : List.map a.eval (parts.toList.map (·.2)) = vs at hv hvl
 have hpv : (parts.map fun (i,x) => (i,a.eval x)).toList = (List.range' 0 vs.length).zip vs := by
  rw [hvl,← hidx,← hvs,List.map_map]
  rw [Array.toList_map]
  exact (zip_map _ _ _).symm
 have hpv' : List.map (fun x => (x.fst,a.eval x.snd)) parts.toList = (List.range' 0 vs.length).zip vs := by
  rw [← hpv,Array.toList_map]
 have hsz12 : n * te.sz ≤ 16777216 := by
  have := Nat.mul_le_mul_left n (sz_le e)
  rw [u4]
  omega
 have key : ∀ (zc : Array Value),∃ arr',Instr.fill (fun i => some (i * te.sz,te.sz)) ((Array.range (n * te.sz)).map (zc[· % zc.size]!)) ((List.range' 0 vs.length).zip vs) = some arr' ∧ arr'.size = n * te.sz ∧
   ∀ i v,vs[i]? = some v → ∀ j u,v.cells.toList[j]? = some u → arr'[i * te.sz + j]? = some u := by
  intro zc
  obtain ⟨arr',f1,f2,f3,f4⟩ := fillSeq (sz := te.sz) (place := fun i => some (i * te.sz,te.sz)) (fun i => rfl) vs 0 ((Array.range (n * te.sz)).map (zc[· % zc.size]!)) (fun v hv' => by rw [hv v hv',u4]) (by simp [hvl])
  exact ⟨arr',f1,by rw [f2]; simp,fun i v hv j u hu => by have := f4 i v hv j u hu; rw [Nat.zero_add] at this; exact this⟩
 have hrun : ∃ arr',((execOp a.eval o).run P w = .ok (.value (.slice (some ⟨w.heap.size,0,none⟩) n n)) (w.alloc (.cells arr' el))) ∧ arr'.size = n * te.sz ∧ ∀ i v,vs[i]? = some v → ∀ j u,v.cells.toList[j]? = some u → arr'[i * te.sz + j]? = some u := by
  by_cases h0 : n * te.sz = 0
  ·obtain ⟨arr',f1,f2,f3⟩ := key #[]
   refine ⟨arr',?_,f2,f3⟩
   rw [← hpv'] at f1
   simp only [execOp,hop,Instr.buildSlice,Sem.run_bind,run_underlying u1,Result.andThen_ok,hs,h0,if_true]
   have e0 : ∀ f : Nat → Value,Array.map f (Array.range 0) = #[] := fun f => by simp
   simp only [h0,e0] at f1
   simp [e0,f1,newRow]
  ·obtain ⟨arr',f1,f2,f3⟩ := key z.cells
   refine ⟨arr',?_,f2,f3⟩
   rw [← hpv'] at f1
   have hn24 : ¬ 16777216 < n * te.sz := by omega
   simp [execOp,hop,Instr.buildSlice,run_underlying u1,hs,h0,hn24,hz,f1,newRow]
 obtain ⟨arr',hr,hsize,hget⟩ := hrun
 exact ⟨el,arr',hr,by rw [hsize,u4],by rw [← u4]; exact hget⟩

theorem buildRow_ok (hT : TabOk P C.tt) (hI : Inv C w0 R0 a w s β σ R) (hK : ∀ a' w',Holds C w0 R0 a' w' (s.apply wr) → K a' w') {t : TypeId} {n : Nat} {parts : Array (Nat × Operand)} (hop : o.op = .buildSlice t n parts) {e : E} {bytes d : Nat} (he : elt C.tt t = some (e,bytes)) (hn1 : sem.eqNs (parts.toList.map (·.1)) n = true) (hn2 : n * 12 ≤ 16777216) (hd : o.dst = some d)
  (h : (opds C (parts.toList.map (·.2)) fun ds => chkVals ds (match ds.all (fun x => Nat.beq (cellsOf x).length e.sz),okT C d,Nat.blt 0 n with
   | true,true,true => .get (.box d) fun v => match v with
    | .bx none => .put (.box d) (.bx (some ⟨false,ds.flatMap cellsOf⟩)) (.put (.tmp d) (.d (.row d n)) .done)
    | _ => .fail
   | _,_,_ => .fail)).Ok s wr) : o.wp P a w K Q := by
 obtain ⟨ds,h1,h2⟩ := opds_ok hI h
 obtain ⟨h3,h4⟩ := chkVals_ok hI h1 h2
 split at h3
 ·rename_i hall hok hpos
  simp only [M.Ok] at h3
  split at h3
  ·rename_i hb
   obtain ⟨_,rfl,_,rfl,rfl⟩ := h3
   have hlen : ∀ x ∈ ds,(cellsOf x).length = e.sz := fun x hx => Nat.eq_of_beq_eq_true (List.all_eq_true.1 hall x hx)
   have hdl := All2.length h4
   obtain ⟨el,arr',hr,hsize,hget⟩ := buildRow_run (w := w) hT hop he hn1 hn2 (a := a) (fun v hv => by
    obtain ⟨i,hi⟩ := List.getElem?_of_mem hv
    obtain ⟨x,hx,hrel⟩ := All2.get' h4 i v hi
    have := All2.length hrel
    rw [hlen x (List.mem_of_getElem? hx)] at this
    simpa using this.symm)
   have hdn : ds.length = n := by
    have := (eqNs_eq hn1).2
    simp only [List.length_map] at this hdl
    omega
   have hfl := flat_length ds hlen
   have hrel : All2 (RelTC β σ s R w) (ds.flatMap cellsOf) (arr'.toList.take (ds.flatMap cellsOf).length) := by
    have hal : arr'.toList.length = arr'.size := Array.length_toList
    refine All2.of_get (by rw [List.length_take,hfl,hal,hsize,hdn]; omega) fun q x y hx hy => ?_
    have hq : q < ds.length * e.sz := by rw [← hfl]; exact (List.getElem?_eq_some_iff.1 hx).1
    have hp := sz_pos e
    have hi : q / e.sz < ds.length := Nat.div_lt_of_lt_mul (by rw [Nat.mul_comm]; exact hq)
    have hj := Nat.mod_lt q hp
    have hqe : q / e.sz * e.sz + q % e.sz = q := by rw [Nat.mul_comm]; exact Nat.div_add_mod q e.sz
    obtain ⟨v,hv,hcell⟩ := All2.get h4 (q / e.sz) _ (List.getElem?_eq_getElem hi)
    have e1 := flat_get ds hlen (q / e.sz) _ (List.getElem?_eq_getElem hi) (q % e.sz) hj
    rw [hqe,hx] at e1
    obtain ⟨u,hu,hru⟩ := All2.get hcell (q % e.sz) x e1.symm
    have e2 := hget (q / e.sz) v hv (q % e.sz) u hu
    rw [hqe] at e2
    rw [List.getElem?_take,if_pos (by omega),Array.getElem?_toList,e2] at hy
    cases hy
    exact hru
   have hI' := (hI.newBox0 d (bx_of hb) _ arr' el hrel).put d (okT_lt hok) (okT_fx hok) (x := .row d n) (v := .slice (some ⟨w.heap.size,0,none⟩) n n)
    ⟨⟨_,by rw [bx_set_box,if_pos rfl]⟩,n,Nat.le_refl _,by unfold maxLen; omega,by simp⟩
   refine wp_value hr (hK _ _ ⟨(fun i => if i = d then w.heap.size else β i),σ,R,?_⟩)
   rw [hd]
   exact hI'
  ·exact h3.elim
 ·exact h3.elim

theorem makeSlice_ok (hT : TabOk P C.tt) (hI : Inv C w0 R0 a w s β σ R) (hK : ∀ a' w',Holds C w0 R0 a' w' (s.apply wr) → K a' w') {t : TypeId} {l c : Operand} (hop : o.op = .makeSlice t l c) {dec : List (Nat × Bool)} {orc : List (Nat × D)}
  (h : (sem C dec orc o).Ok s wr) : o.wp P a w K Q := by
 unfold sem at h
 rw [hop] at h
 simp only at h
 split at h
 ·rename_i n m ti hti
  split at h
  ·rename_i el hk
   split at h
   ·rename_i te hte
    split at h
    ·rename_i e hee
     split at h
     ·rename_i x hx hc
      simp only [Bool.and_eq_true,beq_iff_eq,decide_eq_true_eq] at hc
      obtain ⟨⟨⟨⟨rfl,h0⟩,h1⟩,hb⟩,hse⟩ := hc
      have hb := Nat.le_of_ble_eq_true hb
      have hse := Nat.eq_of_beq_eq_true hse
      have hu := (hT t ti hti).und
      rw [hk] at hu
      obtain ⟨i,z,j1,j2,j3,j4,j6,j5⟩ := (hT el te hte).info
      have hr := run_make (P := P) w t el i z hu.1 j1 j4 .i64 .i64 n n h0 (Int.le_refl _) (by
       rw [j3]
       have := Int.mul_le_mul (show (te.bytes : Int) ≤ 1000 by omega) h1 h0 (by omega)
       omega) (by omega)
      obtain ⟨k,rfl⟩ := Int.eq_ofNat_of_zero_le h0
      simp only [Int.toNat_natCast] at h hr ⊢
      have hz0 := j5 (addF R w.heap.size 0 (k * te.sz)) (w.alloc (.cells (madeCells z.cells (k * i.size)) el))
      have hzx := dec_rel e te.zero x z.cells.toList hx hz0
      have hzl := All2.length hz0
      have hI' : Inv C w0 R0 a (w.alloc (.cells (madeCells z.cells (k * i.size)) el)) s β σ (addF R w.heap.size 0 (k * te.sz)) :=
       hI.later (below_alloc1 _ _) (fun _ _ hr => .inl hr) (fun b o' hr => by
        rcases hr with hr | ⟨rfl,_,_⟩
        ·exact ⟨by have := (hI.dom b o' hr).1; simp; omega,.inl hr⟩
        ·exact ⟨by simp,.inr (Nat.le_refl _)⟩)
      have ev : a.eval (.const (.int .i64 (k : Int))) = .int .i64 k := rfl
      refine wp_value (v := .slice (some ⟨w.heap.size,0,none⟩) k k) (by simp [execOp,hop,ev,hr]) (hK _ _ ⟨β,σ,_,setTmp_ok hI' h (d := .sl true e (List.replicate k x)) ?_⟩)
      refine ⟨some ⟨w.heap.size,0,none⟩,k,by rw [List.length_replicate],by simp,by unfold maxLen; omega,fun _ => by simp,fun hp => ⟨w.heap.size,0,rfl,fun q y hy => ?_⟩⟩
      have hq : q < k := by simpa using (List.getElem?_eq_some_iff.1 hy).1
      have hyx : y = x := by
       rw [List.getElem?_replicate,if_pos hq] at hy
       exact (Option.some.inj hy).symm
      subst hyx
      refine ⟨z.cells.toList,by rw [← hzl,j6,hse],hzx,fun j u hu => ?_⟩
      have hj : j < te.sz := by rw [← j6,hzl]; exact (List.getElem?_eq_some_iff.1 hu).1
      have hzs : z.cells.size = te.sz := by rw [← j6,hzl,Array.length_toList]
      have hlt : q * te.sz + j < k * te.sz := by
       have := Nat.mul_le_mul_right te.sz (show q + 1 ≤ k by omega)
       rw [Nat.add_mul] at this
       omega
      rw [Nat.zero_add,hse]
      refine ⟨.inr ⟨rfl,Nat.zero_le _,hlt⟩,?_⟩
      rw [World.cell?_alloc_new]
      have hm : (q * te.sz + j) % z.cells.size = j := by
       rw [hzs,Nat.mul_comm,Nat.mul_add_mod]
       exact Nat.mod_eq_of_lt hj
      have hu' : z.cells[j]? = some u := by rw [← Array.getElem?_toList]; exact hu
      rw [madeCells,Array.getElem?_map,Array.getElem?_range,if_pos (by rw [j2]; exact hlt)]
      simp only [Option.map_some,hm]
      rw [Array.getElem!_eq_getD,Array.getD_eq_getD_getElem?,hu']
      rfl
     ·exact h.elim
    ·exact h.elim
   ·exact h.elim
  ·exact h.elim
 ·exact h.elim

theorem buildSlice_ok (hT : TabOk P C.tt) (hI : Inv C w0 R0 a w s β σ R) (hK : ∀ a' w',Holds C w0 R0 a' w' (s.apply wr) → K a' w') {t : TypeId} {n : Nat} {parts : Array (Nat × Operand)} (hop : o.op = .buildSlice t n parts) {dec : List (Nat × Bool)} {orc : List (Nat × D)}
  (h : (sem C dec orc o).Ok s wr) : o.wp P a w K Q := by
 unfold sem at h
 rw [hop] at h
 simp only at h
 split at h
 ·split at h
  ·rename_i e bytes d he hn hd
   simp only [Bool.and_eq_true] at hn
   exact buildRow_ok hT hI hK hop he hn.1 (Nat.le_of_ble_eq_true hn.2) hd h
  ·exact h.elim
 split at h
 ·rename_i e bytes he hn
  simp only [Bool.and_eq_true] at hn
  obtain ⟨hn1,hn2⟩ := hn
  have hn2 := Nat.le_of_ble_eq_true hn2
  obtain ⟨hidx,hlen⟩ := eqNs_eq hn1
  obtain ⟨ds,h1,h2⟩ := opds_ok hI h
  clear h
  obtain ⟨css,h3,h4⟩ := resRows_ok hI h1 h2
  clear h1
  split at h3
  ·rename_i xs hxs
   have h5 := decAll_ok hxs h4
   obtain ⟨el,te,u1,u2,u3,u4,u5⟩ := elt_of hT he
   have hs := sizeOf_run (P := P) (C := C) (w := w) u2
   obtain ⟨i,z,j1,j2,j3,j4,j6,j5⟩ := u2.info
   have hz : (zeroValue el).run P w = .ok z w := by simp [zeroValue,typeInfo,j1,j4]
   have hxl : xs.length = n := by
    have := All2.length h5
    rw [this]
    simp at hlen ⊢
    omega
   have hvl : (List.map a.eval (parts.toList.map (·.2))).length = n := by simp at hlen ⊢; omega
   generalize hvs : List.map a.eval (parts.toList.map (·.2)) = vs at h5 hvl
   have hpv : (parts.map fun (i,x) => (i,a.eval x)).toList = (List.range' 0 vs.length).zip vs := by
    rw [hvl,← hidx,← hvs,List.map_map]
    rw [Array.toList_map]
    exact (zip_map _ _ _).symm
   have hpv' : List.map (fun x => (x.fst,a.eval x.snd)) parts.toList = (List.range' 0 vs.length).zip vs := by
    rw [← hpv,Array.toList_map]
   have hsz12 : n * te.sz ≤ 16777216 := by
    have := Nat.mul_le_mul_left n (sz_le e)
    rw [u4]
    omega
   have key : ∀ (zc : Array Value),∃ arr',Instr.fill (fun i => some (i * te.sz,te.sz)) ((Array.range (n * te.sz)).map (zc[· % zc.size]!)) ((List.range' 0 vs.length).zip vs) = some arr' ∧ arr'.size = n * te.sz ∧
     ∀ i v,vs[i]? = some v → ∀ j u,v.cells.toList[j]? = some u → arr'[i * te.sz + j]? = some u := by
    intro zc
    obtain ⟨arr',f1,f2,f3,f4⟩ := fillSeq (sz := te.sz) (place := fun i => some (i * te.sz,te.sz)) (fun i => rfl) vs 0 ((Array.range (n * te.sz)).map (zc[· % zc.size]!)) (fun v hv => by
     obtain ⟨i,hi⟩ := List.getElem?_of_mem hv
     obtain ⟨x,hx,hr⟩ := All2.get' h5 i v hi
     rw [hr.2,u4]) (by simp [hvl])
    exact ⟨arr',f1,by rw [f2]; simp,fun i v hv j u hu => by have := f4 i v hv j u hu; rw [Nat.zero_add] at this; exact this⟩
   have hrun : ∃ arr',((execOp a.eval o).run P w = .ok (.value (.slice (some ⟨w.heap.size,0,none⟩) n n)) (w.alloc (.cells arr' el))) ∧ arr'.size = n * te.sz ∧ ∀ i v,vs[i]? = some v → ∀ j u,v.cells.toList[j]? = some u → arr'[i * te.sz + j]? = some u := by
    by_cases h0 : n * te.sz = 0
    ·obtain ⟨arr',f1,f2,f3⟩ := key #[]
     refine ⟨arr',?_,f2,f3⟩
     rw [← hpv'] at f1
     simp only [execOp,hop,Instr.buildSlice,Sem.run_bind,run_underlying u1,Result.andThen_ok,hs,h0,if_true]
     have e0 : ∀ f : Nat → Value,Array.map f (Array.range 0) = #[] := fun f => by simp
     simp only [h0,e0] at f1
     simp [e0,f1,newRow]
    ·obtain ⟨arr',f1,f2,f3⟩ := key z.cells
     refine ⟨arr',?_,f2,f3⟩
     rw [← hpv'] at f1
     have hn24 : ¬ 16777216 < n * te.sz := by omega
     simp [execOp,hop,Instr.buildSlice,run_underlying u1,hs,h0,hn24,hz,f1,newRow]
   obtain ⟨arr',hr,hsize,hget⟩ := hrun
   have hI' : Inv C w0 R0 a (w.alloc (.cells arr' el)) s β σ (addF R w.heap.size 0 (n * te.sz)) :=
    hI.later (below_alloc1 _ _) (fun _ _ hr => .inl hr) (fun b o' hr => by
     rcases hr with hr | ⟨rfl,_,_⟩
     ·exact ⟨by have := (hI.dom b o' hr).1; simp; omega,.inl hr⟩
     ·exact ⟨by simp,.inr (Nat.le_refl _)⟩)
   have hk : Keeps R (addF R w.heap.size 0 (n * te.sz)) w (w.alloc (.cells arr' el)) := Keeps.of_below (fun _ _ hr => .inl hr) (fun b o' hr => (hI.dom b o' hr).1) (below_alloc1 _ _)
   refine wp_value hr (hK _ _ ⟨β,σ,_,setTmp_ok hI' h3 (d := .sl true e xs) ?_⟩)
   have hmaxl : n ≤ maxLen := by unfold maxLen; omega
   refine ⟨some ⟨w.heap.size,0,none⟩,n,by rw [hxl],by omega,hmaxl,fun _ => by omega,fun hp => ⟨w.heap.size,0,rfl,fun i x hx => ?_⟩⟩
   obtain ⟨v,hv,hr1,hr2⟩ := All2.get h5 i x hx
   refine ⟨v.cells.toList,by simpa using hr2,RelE.keep hk _ _ _ hr1,fun j u hu => ?_⟩
   have hg := hget i v hv j u hu
   have hj : j < e.sz := by rw [← hr2]; simpa using (List.getElem?_eq_some_iff.1 hu).1
   have hi : i < n := by rw [← hxl]; exact (List.getElem?_eq_some_iff.1 hx).1
   have hb : (i + 1) * e.sz ≤ n * e.sz := Nat.mul_le_mul_right _ hi
   rw [Nat.add_mul] at hb
   rw [Nat.zero_add]
   rw [u4] at hg
   refine ⟨.inr ⟨rfl,Nat.zero_le _,by rw [u4]; omega⟩,?_⟩
   rw [World.cell?_alloc_new]
   exact hg
  ·exact h3.elim
 ·exact h.elim
end
end Go.Di

