/- Part 4: an interpreter over plain data for this code, with the proof that it says what the model does, and the contracts of the functions. No condition. -/
import Derived.Test.YtfkmodcjddfeiaaDoorDi03
import Derived.Deep.AppendSrc
import Derived.Deep.Upon
set_option linter.unusedVariables false
set_option linter.unusedSimpArgs false
/-
  DI, part H: soundness of slices that are cut, of rows that are built, of append.
-/
namespace Go.Di
open Go.RowKit

section
variable {P : Program} {C : Cfg} {w0 w : World} {R0 R : Foot} {a : Act} {s : St} {β : Nat → Nat} {σ : Sig} {o : Oper} {wr : List (Key × Val)} {K : Act → World → Prop} {Q : Exit → Act → World → Prop}

def OptRel (β : Nat → Nat) (σ : Sig) (s : St) (R : Foot) (w : World) (a : Act) : Option D → Option Operand → Prop
  | none, none => True
  | some d, some x => RelT β σ s R w d (a.eval x)
  | _, _ => False

theorem optOpd_ok (hI : Inv C w0 R0 a w s β σ R) {x : Option Operand} {k : Option D → M} (h : (optOpd C x k).Ok s wr) :
    ∃ d, (k d).Ok s wr ∧ OptRel β σ s R w a d x := by
  cases x with
  | none => exact ⟨none, h, trivial⟩
  | some x =>
    obtain ⟨d, h1, h2⟩ := opd_ok hI h
    exact ⟨some d, h1, h2⟩

theorem bound_of {n z : Int} {d : Option D} {x : Option Operand} (hr : OptRel β σ s R w a d x) (h : bound n d = some z) : (x = none ∧ d = none ∧ z = n) ∨ ∃ y d', x = some y ∧ d = some d' ∧ a.eval y = .int .i64 z := by
  cases d with
  | none =>
    cases x with
    | none => cases h; exact .inl ⟨rfl, rfl, rfl⟩
    | some x => exact hr.elim
  | some d =>
    cases x with
    | none => exact hr.elim
    | some x =>
      unfold bound at h
      split at h
      · rename_i hq; cases hq
      · rename_i hq
        cases hq
        cases h
        exact .inr ⟨x, _, rfl, rfl, hr⟩
      · cases h

theorem boundOk {k : IntKind} {i : Int} {y : Nat} {code : BoundsCode} (h : 0 ≤ i ∧ i ≤ y) : (Instr.sliceBound (.int k i) y code).run P w = .ok i.toNat w := by
  simp [Instr.sliceBound, asIntOf, h]

/-- A part of a slice. -/
theorem slR_cut {e : E} {xs : List e.α} {A : Option Addr} {c : Nat} (h : SlR (RelE R w e) e.sz R w false xs (.slice A xs.length c)) {l hh m : Nat} (h1 : l ≤ hh) (h2 : hh ≤ xs.length) (h3 : hh ≤ m) (h4 : m ≤ c) {full : Bool} (hf : full = true → m = hh) :
    SlR (RelE R w e) e.sz R w full ((xs.take hh).drop l) (.slice (if m = l then A else A.map (·.add (l * e.sz))) (hh - l) (m - l)) := by
  obtain ⟨A', c', hv, g1, g2, _, g4⟩ := h
  injection hv with hv1 hv2 hv3
  subst hv1 hv3
  have hlen : ((xs.take hh).drop l).length = hh - l := by simp; omega
  refine ⟨_, m - l, by rw [hlen], by omega, by omega, fun x => by rw [hlen, hf x], fun hp => ?_⟩
  rw [hlen] at hp
  obtain ⟨b, o, ha, hc⟩ := g4 (by omega)
  subst ha
  refine ⟨b, o + l * e.sz, by rw [if_neg (by omega)]; simp [add_plain], fun i x hx => ?_⟩
  have hi : i < hh - l := by rw [← hlen]; exact (List.getElem?_eq_some_iff.1 hx).1
  rw [List.getElem?_drop, List.getElem?_take, if_pos (by omega)] at hx
  obtain ⟨vs, k1, k2, k3⟩ := hc (l + i) x hx
  refine ⟨vs, k1, k2, fun j u hu => ?_⟩
  have := k3 j u hu
  rw [show o + l * e.sz + i * e.sz + j = o + (l + i) * e.sz + j by rw [Nat.add_mul]; omega]
  exact this

theorem slice_ok (hT : TabOk P C.tt) (hI : Inv C w0 R0 a w s β σ R) (hK : ∀ a' w', Holds C w0 R0 a' w' (s.apply wr) → K a' w') {t : TypeId} {x : Operand} {lo hi mx : Option Operand} (hop : o.op = .slice t x lo hi mx) {dec : List (Nat × Bool)} {orc : List (Nat × D)}
    (h : (sem C dec orc o).Ok s wr) : o.wp P a w K Q := by
  unfold sem at h
  rw [hop] at h
  simp only at h
  split at h
  · rename_i e0 bytes he
    obtain ⟨d, h1, h2⟩ := opd_ok hI h
    clear h
    obtain ⟨dl, h, hl⟩ := optOpd_ok hI h1
    clear h1
    obtain ⟨dh, h1, hh⟩ := optOpd_ok hI h
    clear h
    obtain ⟨dm, h, hm⟩ := optOpd_ok hI h1
    clear h1
    unfold sliceD at h
    obtain ⟨e, xs, h3, h4⟩ := elems_ok hI h (typed_rel h2)
    clear h
    split at h3
    · exact h3.elim
    · rename_i hee _
      obtain ⟨rfl⟩ := hee
      obtain ⟨el, te, u1, u2, u3, u4, u5⟩ := elt_of hT he
      have hs := sizeOf_run (P := P) (C := C) (w := w) u2
      obtain ⟨A, c, hv, g1, g2, g3, g4⟩ := h4
      have h4 : SlR (RelE R w e) e.sz R w false xs (.slice A xs.length c) := ⟨A, c, rfl, g1, g2, g3, g4⟩
      split at h3
      · rename_i l hh' hlo hhi
        have bl : (lo = none ∧ l = 0) ∨ ∃ y, lo = some y ∧ a.eval y = .int .i64 l := by
          rcases bound_of hl hlo with ⟨h1, _, h2⟩ | ⟨y, _, h1, _, hy⟩
          · exact .inl ⟨h1, h2⟩
          · exact .inr ⟨y, h1, hy⟩
        split at h3
        · obtain ⟨⟨b1, b2, b3⟩, h3⟩ := h3
          have hmx : mx = none := by
            cases mx with
            | none => rfl
            | some x => exact hm.elim
          subst hmx
          have hcut := slR_cut h4 (l := l.toNat) (hh := hh'.toNat) (m := c) (by omega) (by omega) (by omega) (Nat.le_refl _) (full := false) (fun x => by cases x)
          refine done_ok hI hK h3 (v := .slice (if c = l.toNat then A else A.map (·.add (l.toNat * e.sz))) (hh'.toNat - l.toNat) (c - l.toNat)) hcut ?_
          have hbd : (Instr.sliceBounds true xs.length c (lo.map a.eval) (hi.map a.eval) none).run P w = .ok (l.toNat, hh'.toNat, c) w := by
            have e2 := boundOk (P := P) (w := w) (k := .i64) (i := l) (y := hh'.toNat) (code := .sliceB) (by omega)
            rcases bound_of hh hhi with ⟨rfl, _, rfl⟩ | ⟨y, _, rfl, _, hy⟩
            · simp only [Int.toNat_natCast] at e2
              rcases bl with ⟨rfl, rfl⟩ | ⟨y, rfl, hy⟩
              · simp [Instr.sliceBounds]
              · simp [Instr.sliceBounds, hy, e2]
            · have e1 := boundOk (P := P) (w := w) (k := .i64) (i := hh') (y := c) (code := .sliceAcap) (by omega)
              rcases bl with ⟨rfl, rfl⟩ | ⟨y, rfl, hy'⟩
              · simp [Instr.sliceBounds, hy, e1]
              · simp [Instr.sliceBounds, hy, hy', e1, e2]
          simp [execOp, hop, hv, Instr.sliceAt, run_underlying u1, Instr.slice, hbd, hs, u4]
        · rename_i m
          have hmx : ∃ y, mx = some y ∧ a.eval y = .int .i64 m := by
            cases mx with
            | none => exact hm.elim
            | some y => exact ⟨y, rfl, hm⟩
          obtain ⟨y, rfl, hy⟩ := hmx
          split at h3
          · obtain ⟨⟨b1, b2, b3, b4⟩, h3⟩ := h3
            subst b4
            have hcut := slR_cut h4 (l := l.toNat) (hh := m.toNat) (m := m.toNat) (by omega) (by omega) (by omega) (by omega) (full := true) (fun x => rfl)
            refine done_ok hI hK h3 (v := .slice (if m.toNat = l.toNat then A else A.map (·.add (l.toNat * e.sz))) (m.toNat - l.toNat) (m.toNat - l.toNat)) hcut ?_
            have hbd : (Instr.sliceBounds true xs.length c (lo.map a.eval) (hi.map a.eval) (some (.int .i64 m))).run P w = .ok (l.toNat, m.toNat, m.toNat) w := by
              rcases bound_of hh hhi with ⟨_, h, _⟩ | ⟨y, _, rfl, _, hy⟩
              · cases h
              · have e1 := boundOk (P := P) (w := w) (k := .i64) (i := m) (y := c) (code := .slice3Acap) (by omega)
                have e2 := boundOk (P := P) (w := w) (k := .i64) (i := m) (y := m.toNat) (code := .slice3B) (by omega)
                have e3 := boundOk (P := P) (w := w) (k := .i64) (i := l) (y := m.toNat) (code := .slice3C) (by omega)
                rcases bl with ⟨rfl, rfl⟩ | ⟨y, rfl, hy'⟩
                · simp [Instr.sliceBounds, hy, e1, e2]
                · simp [Instr.sliceBounds, hy, hy', e1, e2, e3]
            simp [execOp, hop, hv, hy, Instr.sliceAt, run_underlying u1, Instr.slice, hbd, hs, u4]
          · exact h3.elim
        · exact h3.elim
      · exact h3.elim
  · exact h.elim

/-! ### Rows that are built -/
theorem relC0_of : ∀ {d : D} {v : Value}, is0 d = true → RelC R w d v → RelC0 R w d v
  | .int _ _, _, _, h => h | .bool _, _, _, h => h | .nil, _, _, h => h | .nilmap, _, _, h => h | .nilfn, _, _, h => h | .sl _ _ _, _, _, h => h | .map _, _, _, h => h
  | .undef, _, h, _ => by cases h
  | .fn _ _ _, _, h, _ => by cases h | .self _ _ _, _, h, _ => by cases h
  | .own _ _, _, h, _ => by cases h
  | .ptr _ _, _, h, _ => by cases h | .mref _, _, h, _ => by cases h
  | .ref _ _, _, h, _ => by cases h
  | .agg _, _, h, _ => by cases h
  | .tup _, _, h, _ => by cases h
theorem all0_of : ∀ {cs : List D} {vs : List Value}, cs.all is0 = true → All2 (RelC R w) cs vs → All2 (RelC0 R w) cs vs
  | [], [], _, _ => trivial
  | d :: cs, v :: vs, h, ⟨h1, h2⟩ => by
    simp only [List.all_cons, Bool.and_eq_true] at h
    exact ⟨relC0_of h.1 h1, all0_of h.2 h2⟩
  | [], _ :: _, _, h => h.elim
  | _ :: _, [], _, h => h.elim

/-- The cells of a value, as they may be told to others. -/
theorem resCellsOf_ok (hI : Inv C w0 R0 a w s β σ R) {d : D} {v : Value} {k : List D → M} (h : (resCells (cellsOf d) k).Ok s wr) (hr : RelT β σ s R w d v) : ∃ cs, (k cs).Ok s wr ∧ All2 (RelC R w) cs v.cells.toList := by
  have one : ∀ (x : D), cellsOf d = [x] → RelTC σ s R w x v → ∃ cs, (k cs).Ok s wr ∧ All2 (RelC R w) cs v.cells.toList := by
    intro x hx hxr
    rw [hx] at h
    obtain ⟨cs, h1, h2⟩ := resCells_ok hI (vs := [v]) h ⟨hxr, trivial⟩
    obtain ⟨d', l, e, h3, h4⟩ : ∃ d' l, cs = d' :: l ∧ RelC R w d' v ∧ All2 (RelC R w) l [] := by
      cases cs with
      | nil => exact h2.elim
      | cons d' l => exact ⟨d', l, rfl, h2.1, h2.2⟩
    have : v.cells = #[v] := cells_one (one_of_C h3)
    exact ⟨cs, h1, by rw [this]; exact h2⟩
  cases d with
  | agg cs =>
    obtain ⟨vs, rfl, hr⟩ := hr
    exact resCells_ok hI h hr
  | own i n => exact one _ rfl hr
  | int k n => exact one _ rfl hr
  | bool b => exact one _ rfl hr
  | nil => exact one _ rfl hr
  | nilmap => exact one _ rfl hr
  | nilfn => exact one _ rfl hr
  | sl f e xs => exact one _ rfl hr
  | map mm => exact one _ rfl hr
  | fn f x y => exact one _ rfl hr
  | self f x y => exact one _ rfl hr
  | undef => exact h.elim
  | ptr i n => exact h.elim
  | mref i => exact h.elim
  | ref x y => exact h.elim
  | tup x => exact h.elim

theorem resRows_ok (hI : Inv C w0 R0 a w s β σ R) : ∀ {ds : List D} {vs : List Value} {k : List (List D) → M}, (sem.resRows (ds.map cellsOf) k).Ok s wr → All2 (RelT β σ s R w) ds vs → ∃ css, (k css).Ok s wr ∧ All2 (fun cs (v : Value) => All2 (RelC0 R w) cs v.cells.toList) css vs
  | [], [], k, h, _ => ⟨[], h, trivial⟩
  | d :: ds, v :: vs, k, h, ⟨h1, h2⟩ => by
    simp only [List.map_cons, sem.resRows] at h
    obtain ⟨cs, h3, h4⟩ := resCellsOf_ok hI h h1
    split at h3
    · rename_i h0
      obtain ⟨css, h5, h6⟩ := resRows_ok hI h3 h2
      exact ⟨cs :: css, h5, all0_of h0 h4, h6⟩
    · exact h3.elim
  | [], _ :: _, _, _, h => h.elim
  | _ :: _, [], _, _, h => h.elim

theorem decAll_ok {e : E} : ∀ {css : List (List D)} {vs : List Value} {xs : List e.α}, decAll e css = some xs → All2 (fun cs (v : Value) => All2 (RelC0 R w) cs v.cells.toList) css vs → All2 (fun x (v : Value) => RelE R w e x v.cells.toList ∧ v.cells.size = e.sz) xs vs
  | [], [], xs, h, _ => by cases h; trivial
  | cs :: css, v :: vs, xs, h, ⟨h1, h2⟩ => by
    simp only [decAll] at h
    split at h
    · rename_i x xs' hx hxs
      cases h
      have hr := dec_rel e cs x _ hx h1
      have hl := All2.length (enc_rel e x _ hr)
      rw [enc_length] at hl
      exact ⟨⟨hr, by simpa using hl.symm⟩, decAll_ok hxs h2⟩
    · cases h
  | [], _ :: _, _, _, h => h.elim
  | _ :: _, [], _, _, h => h.elim

theorem fillSeq {sz : Nat} {place : Nat → Option (Nat × Nat)} (hp : ∀ i, place i = some (i * sz, sz)) : ∀ (vs : List Value) (k : Nat) (arr : Array Value), (∀ v ∈ vs, v.cells.size = sz) → (k + vs.length) * sz ≤ arr.size →
    ∃ arr', Instr.fill place arr ((List.range' k vs.length).zip vs) = some arr' ∧ arr'.size = arr.size ∧ (∀ q, q < k * sz → arr'[q]? = arr[q]?) ∧ ∀ i v, vs[i]? = some v → ∀ j u, v.cells.toList[j]? = some u → arr'[(k + i) * sz + j]? = some u
  | [], k, arr, _, _ => ⟨arr, rfl, rfl, fun _ _ => rfl, fun i v h => by simp at h⟩
  | v :: vs, k, arr, hv, hle => by
    have hv0 := hv v (by simp)
    have hks : (k + 1 + vs.length) * sz = (k + (v :: vs).length) * sz := by simp only [List.length_cons]; congr 1; omega
    have hkk : (k + 1) * sz ≤ (k + 1 + vs.length) * sz := Nat.mul_le_mul_right _ (by omega)
    obtain ⟨arr', h1, h2, h3, h4⟩ := fillSeq hp vs (k + 1) (putAll arr (k * sz) v.cells.toList) (fun u hu => hv u (by simp [hu])) (by rw [putAll_size, hks]; exact hle)
    have hk1 : (k + 1) * sz = k * sz + sz := by rw [Nat.add_mul]; omega
    refine ⟨arr', ?_, by rw [h2, putAll_size], fun q hq => ?_, fun i u hu j x hx => ?_⟩
    · simp only [List.length_cons, List.range'_succ, List.zip_cons_cons]
      rw [Instr.fill, hp k]
      simp only
      rw [if_neg (by simp; omega), fill_put]
      exact h1
    · rw [h3 q (by omega), putAll_get, if_neg (by omega)]
    · cases i with
      | zero =>
        simp only [List.getElem?_cons_zero, Option.some.injEq] at hu
        subst hu
        have hj : j < sz := by rw [← hv0]; simpa using (List.getElem?_eq_some_iff.1 hx).1
        rw [Nat.add_zero, h3 _ (by omega), putAll_get, if_pos ⟨by omega, by simp; omega, by omega⟩]
        rw [Nat.add_sub_cancel_left]
        exact hx
      | succ i =>
        simp only [List.getElem?_cons_succ] at hu
        have := h4 i u hu j x hx
        rw [show k + (i + 1) = k + 1 + i by omega]
        exact this

theorem upFrom_eq : ∀ (l : List Nat) (k : Nat), sem.upFrom k l = true → l = List.range' k l.length
  | [], _, _ => rfl
  | a :: l, k, h => by
    simp only [sem.upFrom, Bool.and_eq_true] at h
    have h1 := Nat.eq_of_beq_eq_true h.1
    have h2 := upFrom_eq l (k + 1) h.2
    simp only [List.length_cons, List.range'_succ, List.cons.injEq]
    exact ⟨h1, h2⟩
theorem eqNs_eq {l : List Nat} {n : Nat} (h : sem.eqNs l n = true) : l = List.range' 0 n ∧ l.length = n := by
  cases l with
  | nil =>
    have := Nat.eq_of_beq_eq_true h
    subst this
    exact ⟨rfl, rfl⟩
  | cons a l =>
    simp only [sem.eqNs, Bool.and_eq_true] at h
    have h1 := Nat.eq_of_beq_eq_true h.1
    have h2 := upFrom_eq _ _ h.2
    rw [h1] at h2
    exact ⟨h2, h1⟩

theorem sz_le (e : E) : e.sz ≤ 12 := by cases e <;> simp [E.sz]

theorem buildSlice_ok (hT : TabOk P C.tt) (hI : Inv C w0 R0 a w s β σ R) (hK : ∀ a' w', Holds C w0 R0 a' w' (s.apply wr) → K a' w') {t : TypeId} {n : Nat} {parts : Array (Nat × Operand)} (hop : o.op = .buildSlice t n parts) {dec : List (Nat × Bool)} {orc : List (Nat × D)}
    (h : (sem C dec orc o).Ok s wr) : o.wp P a w K Q := by
  unfold sem at h
  rw [hop] at h
  simp only at h
  split at h
  · rename_i e bytes he hn
    simp only [Bool.and_eq_true] at hn
    obtain ⟨hn1, hn2⟩ := hn
    have hn2 := Nat.le_of_ble_eq_true hn2
    obtain ⟨hidx, hlen⟩ := eqNs_eq hn1
    obtain ⟨ds, h1, h2⟩ := opds_ok hI h
    clear h
    obtain ⟨css, h3, h4⟩ := resRows_ok hI h1 h2
    clear h1
    split at h3
    · rename_i xs hxs
      have h5 := decAll_ok hxs h4
      obtain ⟨el, te, u1, u2, u3, u4, u5⟩ := elt_of hT he
      have hs := sizeOf_run (P := P) (C := C) (w := w) u2
      obtain ⟨i, z, j1, j2, j3, j4, j6, j5⟩ := u2.info
      have hz : (zeroValue el).run P w = .ok z w := by simp [zeroValue, typeInfo, j1, j4]
      have hxl : xs.length = n := by
        have := All2.length h5
        rw [this]
        simp at hlen ⊢
        omega
      have hvl : (List.map a.eval (parts.toList.map (·.2))).length = n := by simp at hlen ⊢; omega
      generalize hvs : List.map a.eval (parts.toList.map (·.2)) = vs at h5 hvl
      have hpv : (parts.map fun (i, x) => (i, a.eval x)).toList = (List.range' 0 vs.length).zip vs := by
        rw [hvl, ← hidx, ← hvs, List.map_map]
        rw [Array.toList_map]
        exact (zip_map _ _ _).symm
      have hpv' : List.map (fun x => (x.fst, a.eval x.snd)) parts.toList = (List.range' 0 vs.length).zip vs := by
        rw [← hpv, Array.toList_map]
      have hsz12 : n * te.sz ≤ 16777216 := by
        have := Nat.mul_le_mul_left n (sz_le e)
        rw [u4]
        omega
      have key : ∀ (zc : Array Value), ∃ arr', Instr.fill (fun i => some (i * te.sz, te.sz)) ((Array.range (n * te.sz)).map (zc[· % zc.size]!)) ((List.range' 0 vs.length).zip vs) = some arr' ∧ arr'.size = n * te.sz ∧
          ∀ i v, vs[i]? = some v → ∀ j u, v.cells.toList[j]? = some u → arr'[i * te.sz + j]? = some u := by
        intro zc
        obtain ⟨arr', f1, f2, f3, f4⟩ := fillSeq (sz := te.sz) (place := fun i => some (i * te.sz, te.sz)) (fun i => rfl) vs 0 ((Array.range (n * te.sz)).map (zc[· % zc.size]!)) (fun v hv => by
          obtain ⟨i, hi⟩ := List.getElem?_of_mem hv
          obtain ⟨x, hx, hr⟩ := All2.get' h5 i v hi
          rw [hr.2, u4]) (by simp [hvl])
        exact ⟨arr', f1, by rw [f2]; simp, fun i v hv j u hu => by have := f4 i v hv j u hu; rw [Nat.zero_add] at this; exact this⟩
      have hrun : ∃ arr', ((execOp a.eval o).run P w = .ok (.value (.slice (some ⟨w.heap.size, 0, none⟩) n n)) (w.alloc (.cells arr' el))) ∧ arr'.size = n * te.sz ∧ ∀ i v, vs[i]? = some v → ∀ j u, v.cells.toList[j]? = some u → arr'[i * te.sz + j]? = some u := by
        by_cases h0 : n * te.sz = 0
        · obtain ⟨arr', f1, f2, f3⟩ := key #[]
          refine ⟨arr', ?_, f2, f3⟩
          rw [← hpv'] at f1
          simp only [execOp, hop, Instr.buildSlice, Sem.run_bind, run_underlying u1, Result.andThen_ok, hs, h0, if_true]
          have e0 : ∀ f : Nat → Value, Array.map f (Array.range 0) = #[] := fun f => by simp
          simp only [h0, e0] at f1
          simp [e0, f1, newRow]
        · obtain ⟨arr', f1, f2, f3⟩ := key z.cells
          refine ⟨arr', ?_, f2, f3⟩
          rw [← hpv'] at f1
          have hn24 : ¬ 16777216 < n * te.sz := by omega
          simp [execOp, hop, Instr.buildSlice, run_underlying u1, hs, h0, hn24, hz, f1, newRow]
      obtain ⟨arr', hr, hsize, hget⟩ := hrun
      have hI' : Inv C w0 R0 a (w.alloc (.cells arr' el)) s β σ (addF R w.heap.size 0 (n * te.sz)) :=
        hI.later (below_alloc1 _ _) (fun _ _ hr => .inl hr) (fun b o' hr => by
          rcases hr with hr | ⟨rfl, _, _⟩
          · exact ⟨by have := (hI.dom b o' hr).1; simp; omega, .inl hr⟩
          · exact ⟨by simp, .inr (Nat.le_refl _)⟩)
      have hk : Keeps R (addF R w.heap.size 0 (n * te.sz)) w (w.alloc (.cells arr' el)) := Keeps.of_below (fun _ _ hr => .inl hr) (fun b o' hr => (hI.dom b o' hr).1) (below_alloc1 _ _)
      refine wp_value hr (hK _ _ ⟨β, σ, _, setTmp_ok hI' h3 (d := .sl true e xs) ?_⟩)
      have hmaxl : n ≤ maxLen := by unfold maxLen; omega
      refine ⟨some ⟨w.heap.size, 0, none⟩, n, by rw [hxl], by omega, hmaxl, fun _ => by omega, fun hp => ⟨w.heap.size, 0, rfl, fun i x hx => ?_⟩⟩
      obtain ⟨v, hv, hr1, hr2⟩ := All2.get h5 i x hx
      refine ⟨v.cells.toList, by simpa using hr2, RelE.keep hk _ _ _ hr1, fun j u hu => ?_⟩
      have hg := hget i v hv j u hu
      have hj : j < e.sz := by rw [← hr2]; simpa using (List.getElem?_eq_some_iff.1 hu).1
      have hi : i < n := by rw [← hxl]; exact (List.getElem?_eq_some_iff.1 hx).1
      have hb : (i + 1) * e.sz ≤ n * e.sz := Nat.mul_le_mul_right _ hi
      rw [Nat.add_mul] at hb
      rw [Nat.zero_add]
      rw [u4] at hg
      refine ⟨.inr ⟨rfl, Nat.zero_le _, by rw [u4]; omega⟩, ?_⟩
      rw [World.cell?_alloc_new]
      exact hg
    · exact h3.elim
  · exact h.elim
end
end Go.Di

/-
  DI, part I: soundness of append.
-/
namespace Go.Di
open Go.RowKit

theorem eqb_eq : ∀ {k k' : Key}, k.eqb k' = true → k = k'
  | .tmp _, .tmp _, h => by rw [Nat.eq_of_beq_eq_true h]
  | .box _, .box _, h => by rw [Nat.eq_of_beq_eq_true h]
  | .obj _, .obj _, h => by rw [Nat.eq_of_beq_eq_true h]
  | .mp _, .mp _, h => by rw [Nat.eq_of_beq_eq_true h]
  | .tmp _, .mp _, h => by cases h
  | .box _, .mp _, h => by cases h
  | .obj _, .mp _, h => by cases h
  | .mp _, .tmp _, h => by cases h
  | .mp _, .box _, h => by cases h
  | .mp _, .obj _, h => by cases h
  | .tmp _, .box _, h => by cases h
  | .tmp _, .obj _, h => by cases h
  | .box _, .tmp _, h => by cases h
  | .box _, .obj _, h => by cases h
  | .obj _, .tmp _, h => by cases h
  | .obj _, .box _, h => by cases h
theorem set_same {s : St} {k : Key} {v : Val} (h : s k = v) : s.set k v = s := by
  funext k'
  unfold St.set
  split
  · rename_i he
    rw [← eqb_eq he, h]
  · rfl

section
variable {P : Program} {C : Cfg} {w0 w : World} {R0 R : Foot} {a : Act} {s : St} {β : Nat → Nat} {σ : Sig} {o : Oper} {wr : List (Key × Val)} {K : Act → World → Prop} {Q : Exit → Act → World → Prop}

theorem ob_none {k : Nat} {o : Option Ob} (h : s (.obj k) = .ob o) : s.ob k = o := by simp [St.ob, h]
theorem mp_get {k : Nat} {o : Option Mp} (h : s (.mp k) = .mp o) : s.mp k = o := by simp [St.mp, h]

/-- A row that has no room to spare may be taken as the call's own: it never grows where it lies. -/
theorem Inv.adopt (h : Inv C w0 R0 a w s β σ R) (k : Nat) (hn : s.ob k = none) (hmk : s.mp k = none) (e : E) (xs : List e.α) (A : Option Addr) (hx : SlR (RelE R w e) e.sz R w false xs (.slice A xs.length xs.length)) :
    Inv C w0 R0 a w (s.set (.obj k) (.ob (some ⟨e, xs⟩))) β (fun i => if i = k then (A, xs.length) else σ i) R := by
  have hg : Grows β β σ (fun i => if i = k then (A, xs.length) else σ i) s (s.set (.obj k) (.ob (some ⟨e, xs⟩))) :=
    ⟨fun i b hb => ⟨⟨b, hb⟩, rfl⟩, fun k' o ho => by
      have hne : k ≠ k' := fun x => by rw [x, ho] at hn; cases hn
      exact ⟨o, by rw [ob_set_obj, if_neg hne]; exact ho, Nat.le_refl _, fun _ => by simp [show ¬ k' = k from fun x => hne x.symm]⟩,
      fun i m hm => ⟨⟨m, hm⟩, if_neg (fun x => by rw [x, hmk] at hm; cases hm)⟩⟩
  refine ⟨h.below, h.defers, h.fix, h.nt, h.sub, h.dom, h.glob, fun i => RelT.grow hg _ _ (h.tmps i), fun i b hb => ?_, h.inj, fun k' o ho => ?_, ?_, h.mps.step (fun _ _ h => h) (fun i m hm => if_neg (fun x => by rw [x] at hm; exact absurd hm (by rw [hmk]; simp))) (fun _ _ _ => rfl) (fun _ _ h => h) (fun i m hm hn => by
    rw [ob_set_obj, if_neg (fun x => by rw [← x, hmk] at hm; cases hm)]
    exact hn)⟩
  · obtain ⟨p1, ⟨ar, e2, p2, p3, p4, p5⟩, p6⟩ := h.box i b hb
    exact ⟨p1, ⟨ar, e2, p2, p3, fun hf => (p4 hf).imp (RelTC.grow hg), p5⟩, p6⟩
  · rw [ob_set_obj] at ho
    by_cases e1 : k = k'
    · subst e1
      rw [if_pos rfl] at ho
      cases ho
      exact ⟨by simp only [if_true]; exact hx, fun hl => by simp only [if_true] at hl; omega⟩
    · rw [if_neg e1] at ho
      have e1' : ¬ k' = k := fun x => e1 x.symm
      obtain ⟨p1, p2⟩ := h.obj k' o ho
      refine ⟨by simp only [if_neg e1']; exact p1, fun hl => ?_⟩
      simp only [if_neg e1'] at hl ⊢
      obtain ⟨g, off, r1, r2, r3, r4, r5, r6⟩ := p2 hl
      refine ⟨g, off, r1, r2, r3, r4, fun k'' o'' ho'' hne hl' a' ha' => ?_, r6⟩
      rw [ob_set_obj] at ho''
      by_cases e2 : k = k''
      · subst e2
        simp only [if_true] at hl'
        rw [if_pos rfl] at ho''
        cases ho''
        exact absurd hl' (Nat.lt_irrefl _)
      · rw [if_neg e2] at ho''
        have e2' : ¬ k'' = k := fun x => e2 x.symm
        simp only [if_neg e2'] at hl' ha'
        exact r5 k'' o'' ho'' hne hl' a' ha'
  · have hrow : ∀ (b : Nat), (∀ k o, s.ob k = some o → o.xs.length < (σ k).2 → ∀ ad, (σ k).1 = some ad → ad.block ≠ b) → ∀ k' o', (s.set (.obj k) (.ob (some ⟨e, xs⟩))).ob k' = some o' →
        o'.xs.length < (if k' = k then (A, xs.length) else σ k').2 → ∀ ad, (if k' = k then (A, xs.length) else σ k').1 = some ad → ad.block ≠ b := by
      intro b hr k' o' ho' hl ad had
      rw [ob_set_obj] at ho'
      by_cases e1 : k = k'
      · subst e1
        rw [if_pos rfl] at ho'
        cases ho'
        simp only [if_true] at hl
        exact absurd hl (Nat.lt_irrefl _)
      · rw [if_neg e1] at ho'
        have e1' : ¬ k' = k := fun x => e1 x.symm
        simp only [if_neg e1'] at hl had
        exact hr k' o' ho' hl ad had
    refine ⟨h.far.sz, fun b hb => ?_, fun b hb => ?_⟩
    · obtain ⟨p1, p2, p3, p4⟩ := h.far.ke b hb
      exact ⟨p1, p2, p3, hrow b p4⟩
    · obtain ⟨p1, p2, p3, p4, p5⟩ := h.far.no b hb
      exact ⟨p1, p2, p3, p4, hrow b p5⟩

/-- The cells of a slice, one after the other. -/
theorem flat_cells {e : E} {b : Nat} : ∀ (xs : List e.α) (o : Nat), (∀ (i : Nat) (x : e.α), xs[i]? = some x → ∃ us : List Value, us.length = e.sz ∧ RelE R w e x us ∧ ∀ j u, us[j]? = some u → R b (o + i * e.sz + j) ∧ w.cell? ⟨b, o + i * e.sz + j, none⟩ = some u) →
    ∃ vs : List Value, vs.length = xs.length * e.sz ∧ (∀ j u, vs[j]? = some u → w.cell? ⟨b, o + j, none⟩ = some u) ∧ (∀ u ∈ vs, u.oneCell' = true) ∧
      ∀ (i : Nat) (x : e.α), xs[i]? = some x → ∃ us : List Value, us.length = e.sz ∧ RelE R w e x us ∧ ∀ j u, us[j]? = some u → vs[i * e.sz + j]? = some u
  | [], o, _ => ⟨[], by simp, fun j u h => by simp at h, fun u h => by simp at h, fun i x h => by simp at h⟩
  | x :: xs, o, h => by
    obtain ⟨us, h1, h2, h3⟩ := h 0 x rfl
    obtain ⟨vs, h4, h5, h6, h7⟩ := flat_cells xs (o + e.sz) (fun i y hy => by
      obtain ⟨us, p1, p2, p3⟩ := h (i + 1) y (by simpa using hy)
      refine ⟨us, p1, p2, fun j u hu => ?_⟩
      have := p3 j u hu
      rw [show o + e.sz + i * e.sz + j = o + (i + 1) * e.sz + j by rw [Nat.add_mul]; omega]
      exact this)
    refine ⟨us ++ vs, by simp [h1, h4, Nat.add_mul]; omega, fun j u hu => ?_, fun u hu => ?_, fun i y hy => ?_⟩
    · rcases Nat.lt_or_ge j us.length with hj | hj
      · rw [List.getElem?_append_left hj] at hu
        have := (h3 j u hu).2
        simpa using this
      · rw [List.getElem?_append_right hj] at hu
        have := h5 _ u hu
        rw [show o + j = o + e.sz + (j - us.length) by omega]
        exact this
    · rcases List.mem_append.1 hu with hu | hu
      · obtain ⟨j, hj⟩ := List.getElem?_of_mem hu
        obtain ⟨d, _, hr⟩ := All2.get' (enc_rel e x us h2) j u hj
        exact one_of_C0 hr
      · exact h6 u hu
    · cases i with
      | zero =>
        simp only [List.getElem?_cons_zero, Option.some.injEq] at hy
        subst hy
        exact ⟨us, h1, h2, fun j u hu => by
          have hj := (List.getElem?_eq_some_iff.1 hu).1
          rw [Nat.zero_mul, Nat.zero_add, List.getElem?_append_left hj]; exact hu⟩
      | succ i =>
        simp only [List.getElem?_cons_succ] at hy
        obtain ⟨us', q1, q2, q3⟩ := h7 i y hy
        refine ⟨us', q1, q2, fun j u hu => ?_⟩
        rw [List.getElem?_append_right (by rw [Nat.add_mul]; omega)]
        have := q3 j u hu
        rw [show (i + 1) * e.sz + j - us.length = i * e.sz + j by rw [Nat.add_mul]; omega]
        exact this

/-- What a slice holds, as append looks at it. -/
theorem slR_flat {e : E} {xs : List e.α} {A : Option Addr} {c : Nat} (h : SlR (RelE R w e) e.sz R w false xs (.slice A xs.length c)) :
    ∃ vs : List Value, vs.length = xs.length * e.sz ∧ (xs ≠ [] → ∃ b o', A = some ⟨b, o', none⟩ ∧ ∀ j u, vs[j]? = some u → w.cell? ⟨b, o' + j, none⟩ = some u) ∧ (∀ u ∈ vs, u.oneCell' = true) ∧
      ∀ (i : Nat) (x : e.α), xs[i]? = some x → ∃ us : List Value, us.length = e.sz ∧ RelE R w e x us ∧ ∀ j u, us[j]? = some u → vs[i * e.sz + j]? = some u := by
  obtain ⟨A', c', hv, g1, g2, _, g4⟩ := h
  injection hv with hv1 hv2 hv3
  subst hv1 hv3
  cases xs with
  | nil => exact ⟨[], by simp, fun h => absurd rfl h, fun u h => by simp at h, fun i x h => by simp at h⟩
  | cons x xs =>
    obtain ⟨b, o', ha, hc⟩ := g4 (by simp)
    obtain ⟨vs, h1, h2, h3, h4⟩ := flat_cells (x :: xs) o' hc
    exact ⟨vs, h1, fun _ => ⟨b, o', ha, h2⟩, h3, h4⟩

theorem src_of {el t : TypeId} (ht : P.underlying t = some (.slice el)) {e : E} {ys : List e.α} {A : Option Addr} {c : Nat} (hs : SlR (RelE R w e) e.sz R w false ys (.slice A ys.length c)) :
    ∃ news : List Value, Src P e.sz t (.slice A ys.length c) ys.length news w ∧ news.length = ys.length * e.sz ∧ (∀ u ∈ news, u.oneCell' = true) ∧
      ∀ (i : Nat) (x : e.α), ys[i]? = some x → ∃ us : List Value, us.length = e.sz ∧ RelE R w e x us ∧ ∀ j u, us[j]? = some u → news[i * e.sz + j]? = some u := by
  obtain ⟨news, h1, h2, h3, h4⟩ := slR_flat hs
  refine ⟨news, ?_, h1, h3, h4⟩
  cases A with
  | none =>
    have hy : ys = [] := by
      cases ys with
      | nil => rfl
      | cons y ys =>
        obtain ⟨b, o', ha, _⟩ := h2 (by simp)
        cases ha
    subst hy
    have : news = [] := List.eq_nil_of_length_eq_zero (by simpa using h1)
    subst this
    exact Src.ofNil w ht c
  | some A =>
    by_cases hy : ys = []
    · subst hy
      have : news = [] := List.eq_nil_of_length_eq_zero (by simpa using h1)
      subst this
      exact Src.ofSlice w ht A 0 c [] (by simp) (fun j u h => by simp at h) (fun u h => by simp at h)
    · obtain ⟨b, o', ha, hc⟩ := h2 hy
      cases ha
      exact Src.ofSlice w ht _ ys.length c news h1 (fun j u hu => by rw [add_plain]; exact hc j u hu) h3

/-- What append does, and what is known behind it: the row of key k, grown. -/
theorem grow_step (hT : TabOk P C.tt) (hI : Inv C w0 R0 a w s β σ R) {t ty el : TypeId} {te : TI} {e : E} (ht : P.underlying t = some (.slice el)) (hte : TIok P C.tt el te) (hsz : te.sz = e.sz) (k : Nat) {xs ys : List e.α} {A B : Option Addr} {c c' : Nat}
    (hx : SlR (RelE R w e) e.sz R w false xs (.slice A xs.length c)) (hy : SlR (RelE R w e) e.sz R w false ys (.slice B ys.length c')) (hne : ys ≠ []) (hg : c < xs.length + ys.length)
    (hold : ∀ o, s.ob k = some o → o.xs.length < (xs ++ ys).length) (hmk : s.mp k = none) (hb : (xs ++ ys).length * (te.bytes + 1) ≤ 140737488355328) :
    ∃ w' c'', (Builtin.append_ #[t, t] ty #[.slice A xs.length c, .slice B ys.length c']).run P w = .ok (.slice (some ⟨w.heap.size, 0, none⟩) (xs ++ ys).length c'') w' ∧
      ∃ R', Inv C w0 R0 a w' (s.set (.obj k) (.ob (some ⟨e, xs ++ ys⟩))) β (fun i => if i = k then (some ⟨w.heap.size, 0, none⟩, c'') else σ i) R' := by
  obtain ⟨i, z, j1, j2, j3, j4, j5, j6⟩ := hte.info
  obtain ⟨news, n1, n2, n3, n4⟩ := src_of (P := P) ht hy
  obtain ⟨olds, o1, o2, o3, o4⟩ := slR_flat hx
  have hie : i.size = e.sz := by rw [j2, hsz]
  have hlen : (xs ++ ys).length = xs.length + ys.length := by simp
  rw [hlen, Nat.mul_add, Nat.mul_one] at hb
  have hyp : 0 < ys.length := List.length_pos_iff.2 hne
  have hold' : (Builtin.firstCells i.size xs.length (.slice A xs.length c)).run P w.drew = .ok olds.toArray w.drew := by
    by_cases hx0 : xs = []
    · subst hx0
      have : olds = [] := List.eq_nil_of_length_eq_zero (by simpa using o1)
      subst this
      cases A with
      | none => exact run_firstCells_none w.drew i.size 0 0 c
      | some A => exact run_firstCells_some w.drew i.size 0 A 0 c [] (by simp) (fun j u h => by simp at h)
    · obtain ⟨b, o', ha, hc⟩ := o2 hx0
      subst ha
      exact run_firstCells_some w.drew i.size xs.length _ xs.length c olds (by rw [hie]; exact o1) (fun j u hu => by rw [add_plain]; simpa using hc j u hu)
  have hrun := run_append_grow_src (P := P) w t t ty el i z ht j1 j4 A xs.length c olds hold' (.slice B ys.length c') ys.length news (by rw [hie]; exact n1) hg (by omega)
    (growslice_fits (need := xs.length + ys.length) hg (by rw [j3]; omega))
  have hge := grownCap_ge w (xs.length + ys.length) c el
  have hmax := grownCap_le_maxLen w (xs.length + ys.length) c el (by unfold maxLen; omega)
  have hzs : z.cells.size = e.sz := by
    have := All2.length (j6 R w)
    simp at this
    omega
  refine ⟨_, grownCap w (xs.length + ys.length) c el, by rw [hlen]; exact hrun, addF R w.heap.size 0 ((xs ++ ys).length * e.sz), ?_⟩
  have hk0 : Keeps R R w w.drew := Keeps.of_below (fun _ _ hr => hr) (fun b o hr => (hI.dom b o hr).1) (below_drew1 w)
  have := hI.drew.newRow k e (xs ++ ys) ((olds ++ news).toArray ++ Builtin.zeroCells z.cells (grownCap w (xs.length + ys.length) c el - (xs.length + ys.length))) el (grownCap w (xs.length + ys.length) c el) (by rw [hlen]; exact hge) hmax
    (by
      simp only [Array.size_append, List.size_toArray, List.length_append, size_zeroCells, hzs, o1, n2]
      rw [← Nat.add_mul, ← Nat.add_mul]
      exact Nat.mul_le_mul_right _ (by omega)) hold hmk (fun i x hi => by
      rcases Nat.lt_or_ge i xs.length with hil | hil
      · rw [List.getElem?_append_left hil] at hi
        obtain ⟨us, q1, q2, q3⟩ := o4 i x hi
        refine ⟨us, q1, RelE.keep hk0 _ _ _ q2, fun j u hu => ?_⟩
        have h1 := q3 j u hu
        have h2 := (List.getElem?_eq_some_iff.1 h1).1
        rw [Array.getElem?_append_left (by simp; omega)]
        rw [List.getElem?_toArray, List.getElem?_append_left h2]
        exact h1
      · rw [List.getElem?_append_right hil] at hi
        obtain ⟨us, q1, q2, q3⟩ := n4 _ x hi
        refine ⟨us, q1, RelE.keep hk0 _ _ _ q2, fun j u hu => ?_⟩
        have h1 := q3 j u hu
        have h2 := (List.getElem?_eq_some_iff.1 h1).1
        have e1 : i * e.sz + j = olds.length + ((i - xs.length) * e.sz + j) := by
          rw [o1, ← Nat.add_assoc, ← Nat.add_mul]
          congr 2
          omega
        rw [e1, Array.getElem?_append_left (by simp; omega)]
        rw [List.getElem?_toArray, List.getElem?_append_right (by omega), Nat.add_sub_cancel_left]
        exact h1)
  exact this

/-- Into the room that a row of the call's own has left. -/
theorem room_step (hI : Inv C w0 R0 a w s β σ R) {t ty el : TypeId} {te : TI} {k : Nat} {o : Ob} (hk : s.ob k = some o) (ht : P.underlying t = some (.slice el)) (hte : TIok P C.tt el te) (hsz : te.sz = o.e.sz) {ys : List o.e.α} {B : Option Addr} {c' : Nat}
    (hy : SlR (RelE R w o.e) o.e.sz R w false ys (.slice B ys.length c')) (hne : ys ≠ []) (hg : o.xs.length + ys.length ≤ (σ k).2) :
    ∃ w', (Builtin.append_ #[t, t] ty #[.slice (σ k).1 o.xs.length (σ k).2, .slice B ys.length c']).run P w = .ok (.slice (σ k).1 (o.xs ++ ys).length (σ k).2) w' ∧
      ∃ R', Inv C w0 R0 a w' (s.set (.obj k) (.ob (some ⟨o.e, o.xs ++ ys⟩))) β σ R' := by
  have hyp : 0 < ys.length := List.length_pos_iff.2 hne
  obtain ⟨g, off, h3, h4, ⟨arr, el', h5, h6⟩, h7, h8, h9⟩ := (hI.obj k o hk).spare (by omega)
  obtain ⟨i, z, j1, j2, j3, j4, j5, j6⟩ := hte.info
  obtain ⟨news, n1, n2, n3, n4⟩ := src_of (P := P) ht hy
  have hie : i.size = o.e.sz := by rw [j2, hsz]
  have hfit : off + o.xs.length * o.e.sz + news.length ≤ arr.size := by
    have := Nat.mul_le_mul_right o.e.sz hg
    rw [Nat.add_mul] at this
    omega
  have hrun := run_append_room_src (P := P) w t t ty el i ht j1 g off o.xs.length (σ k).2 (.slice B ys.length c') ys.length news (by rw [hie]; exact n1) hg
    (fun j hj => by rw [hie, cell_of h5, Array.getElem?_eq_getElem (by omega)]; rfl) (fun j hj => by simp [World.frozen?, h5])
  rw [hie] at hrun
  have hlen : (o.xs ++ ys).length = o.xs.length + ys.length := by simp
  refine ⟨w.setCells g (off + o.xs.length * o.e.sz) news, by rw [h3, hlen]; exact hrun, addF R g (off + o.xs.length * o.e.sz) (off + (o.xs ++ ys).length * o.e.sz), ?_⟩
  refine hI.growRow k o hk ys g off arr (putAll arr (off + o.xs.length * o.e.sz) news) el' h3 (by omega) (by omega) hne h5 (setCells_get _ _ _ _ _ _ _ h5) (putAll_size _ _ _) (fun q hq => setCells_other _ _ _ _ _ hq) (setCells_rest _ _ _ _)
    (fun q hq => by rw [putAll_get, if_neg (by omega)]) (fun i x hi => ?_)
  obtain ⟨us, q1, q2, q3⟩ := n4 i x hi
  refine ⟨us, q1, q2, fun j u hu => ?_⟩
  have h1 := q3 j u hu
  have h2 := (List.getElem?_eq_some_iff.1 h1).1
  rw [Nat.add_mul, show off + (o.xs.length * o.e.sz + i * o.e.sz) + j = off + o.xs.length * o.e.sz + (i * o.e.sz + j) by omega, putAll_get, if_pos ⟨by omega, by omega, by omega⟩, Nat.add_sub_cancel_left]
  exact h1

theorem append_ok (hT : TabOk P C.tt) (hI : Inv C w0 R0 a w s β σ R) (hK : ∀ a' w', Holds C w0 R0 a' w' (s.apply wr) → K a' w') {t : TypeId} {dx dy : D} {vx vy : Value} (hx : RelT β σ s R w dx vx) (hy : RelT β σ s R w dy vy)
    (hop : ∀ w, (execOp a.eval o).run P w = ((Builtin.append_ #[t, t] o.type #[vx, vy]).run P w).andThen fun v w' => .ok (.value v) w') (h : (appD C o.dst t dx dy).Ok s wr) : o.wp P a w K Q := by
  unfold appD at h
  split at h
  · rename_i e0 bytes d he hd
    obtain ⟨e, ys, h1, h2⟩ := elems_ok hI h hy
    clear h
    obtain ⟨el, te, u1, u2, u3, u4, u5⟩ := elt_of hT he
    obtain ⟨i, z, j1, j2, j3, j4, j5, j6⟩ := u2.info
    split at h1
    · rename_i hee _
      obtain ⟨rfl⟩ := hee
      obtain ⟨B, c', hvy, y1, y2, y3, y4⟩ := h2
      have h2 : SlR (RelE R w e) e.sz R w false ys (.slice B ys.length c') := ⟨B, c', rfl, y1, y2, y3, y4⟩
      have nothing : ∀ (A : Option Addr) (n c : Nat), ys = [] → n ≤ c → (Builtin.append_ #[t, t] o.type #[.slice A n c, vy]).run P w = .ok (.slice A n c) w := by
        intro A n c hys hle
        subst hys
        obtain ⟨news, n1, n2, n3, n4⟩ := src_of (P := P) u1 h2
        have : news = [] := List.eq_nil_of_length_eq_zero (by simpa using n2)
        subst this
        rw [hvy]
        exact run_append_nothing w t t o.type el i u1 j1 A n c hle _ (by rw [j2, u4]; exact n1)
      split at h1
      · rename_i e' xs
        split at h1
        · rename_i hee _
          obtain ⟨rfl⟩ := hee
          simp only [M.Ok] at h1
          split at h1
          · rename_i hob
            simp only [M.Ok] at h1
            split at h1
            rotate_left
            · exact h1.elim
            rename_i hmk
            have hmk := mp_get hmk
            obtain ⟨hb, wr', rfl, h3⟩ := h1
            obtain ⟨A, c, hvx, g1, g2, g3, g4⟩ := hx
            have g3 := g3 rfl
            subst g3
            have hx' : SlR (RelE R w e') e'.sz R w false xs (.slice A xs.length xs.length) := ⟨A, _, rfl, g1, g2, fun x => (by cases x), g4⟩
            by_cases hys : ys = []
            · have hr := nothing A xs.length xs.length hys (Nat.le_refl _)
              subst hys
              have hI' := hI.adopt d (ob_none hob) hmk e' xs A hx'
              have hxs : xs ++ [] = xs := List.append_nil xs
              rw [hxs] at h3
              refine wp_value (w' := w) (v := .slice A xs.length xs.length) (by rw [hop, hvx, hr]; rfl) (hK _ _ ⟨β, fun i => if i = d then (A, xs.length) else σ i, R, ?_⟩)
              rw [hxs]
              refine setTmp_ok hI' h3 ?_
              exact ⟨⟨e', xs⟩, by rw [ob_set_obj, if_pos rfl], Nat.le_refl _, fun _ => by simp⟩
            · obtain ⟨w', c'', r1, R', r2⟩ := grow_step (P := P) (ty := o.type) hT hI u1 u2 u4 d hx' h2 hys (by have := List.length_pos_iff.2 hys; omega) (fun o' ho' => by rw [ob_none hob] at ho'; cases ho') hmk (by rw [u5]; exact hb)
              refine wp_value (by rw [hop, hvx, hvy, r1]; rfl) (hK _ _ ⟨β, fun i => if i = d then (some ⟨w.heap.size, 0, none⟩, c'') else σ i, R', setTmp_ok r2 h3 ?_⟩)
              exact ⟨⟨e', xs ++ ys⟩, by rw [ob_set_obj, if_pos rfl], Nat.le_refl _, fun _ => by simp⟩
          · exact h1.elim
        · exact h1.elim
      · rename_i k n
        simp only [M.Ok] at h1
        split at h1
        · rename_i o' hob
          have hob := ob_of hob
          split at h1
          · rename_i hee _
            obtain ⟨oe, oxs⟩ := o'
            obtain ⟨hee⟩ := hee
            dsimp only at hee
            subst hee
            obtain ⟨hn, hb, wr', rfl, h3⟩ := h1
            dsimp only at hn
            obtain ⟨o'', q1, q2, q3⟩ := hx
            rw [hob] at q1
            cases q1
            have hvx := q3 hn
            have hx' := (hI.obj k _ hob).sl
            dsimp only at hx'
            obtain ⟨A', c, hvx', g1, g2, g3, g4⟩ := hx'
            injection hvx' with e1 e2 e3
            have hx' : SlR (RelE R w oe) oe.sz R w false oxs (.slice (σ k).1 oxs.length (σ k).2) := (hI.obj k _ hob).sl
            by_cases hys : ys = []
            · have hr := nothing (σ k).1 oxs.length (σ k).2 hys (by omega)
              subst hys
              have hxs : oxs ++ [] = oxs := List.append_nil oxs
              have hset : s.set (.obj k) (.ob (some ⟨oe, oxs ++ []⟩)) = s := set_same (by
                rw [hxs]
                have : s (.obj k) = .ob (some ⟨oe, oxs⟩) := by assumption
                exact this)
              refine wp_value (w' := w) (v := .slice (σ k).1 oxs.length (σ k).2) (by rw [hop, hvx, hn, hr]; rfl) (hK _ _ ⟨β, σ, R, ?_⟩)
              have : s.apply ((Key.obj k, Val.ob (some ⟨oe, oxs ++ []⟩)) :: wr') = s.apply wr' := by rw [apply_cons, hset]
              rw [this]
              refine setTmp_ok hI h3 ?_
              exact ⟨⟨oe, oxs⟩, hob, by simp, fun _ => by simp⟩
            · by_cases hroom : oxs.length + ys.length ≤ (σ k).2
              · obtain ⟨w', r1, R', r2⟩ := room_step (P := P) (ty := o.type) hI hob u1 u2 u4 h2 hys hroom
                refine wp_value (by rw [hop, hvx, hn, hvy, r1]; rfl) (hK _ _ ⟨β, σ, R', setTmp_ok r2 h3 ?_⟩)
                exact ⟨⟨oe, oxs ++ ys⟩, by rw [ob_set_obj, if_pos rfl], Nat.le_refl _, fun _ => rfl⟩
              · obtain ⟨w', c'', r1, R', r2⟩ := grow_step (P := P) (ty := o.type) hT hI u1 u2 u4 k hx' h2 hys (by omega) (fun o' ho' => by rw [hob] at ho'; cases ho'; simp; exact List.length_pos_iff.2 hys) (by
                  cases hq : s.mp k with
                  | none => rfl
                  | some m => have := hI.mps.sep k m hq; rw [hob] at this; cases this) (by rw [u5]; exact hb)
                refine wp_value (by rw [hop, hvx, hn, hvy, r1]; rfl) (hK _ _ ⟨β, fun i => if i = k then (some ⟨w.heap.size, 0, none⟩, c'') else σ i, R', setTmp_ok r2 h3 ?_⟩)
                exact ⟨⟨oe, oxs ++ ys⟩, by rw [ob_set_obj, if_pos rfl], Nat.le_refl _, fun _ => by simp⟩
          · exact h1.elim
        · exact h1.elim
      · exact h1.elim
    · exact h1.elim
  · exact h.elim
end
end Go.Di

