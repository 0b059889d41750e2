/- Part 3: an interpreter over plain data for this code, with the proof that it says what the model does, and the contracts of the functions. No condition. -/
import Derived.Test.YtfkmodcjddfeiaaDoorDi02
import Derived.Laws.NewFold
import Derived.Laws.Small
set_option linter.unusedVariables false
set_option linter.unusedSimpArgs false
/-
  DI, part E: each operation does in the model what the interpreter says (operations on values, boxes, loads and stores).
-/
namespace Go.Di
open Go.RowKit

section
variable {P : Program} {C : Cfg} {w0 w : World} {R0 R : Foot} {a : Act} {s : St} {β : Nat → Nat} {σ : Sig} {o : Oper} {wr : List (Key × Val)} {K : Act → World → Prop} {Q : Exit → Act → World → Prop}

theorem done_ok (hI : Inv C w0 R0 a w s β σ R) (hK : ∀ a' w', Holds C w0 R0 a' w' (s.apply wr) → K a' w') {d : D} {v : Value} (h : (setTmp C o.dst d).Ok s wr) (hv : RelT β σ s R w d v)
    (hr : (execOp a.eval o).run P w = .ok (.value v) w) : o.wp P a w K Q := wp_value hr (hK _ _ ⟨β, σ, R, setTmp_ok hI h hv⟩)

theorem int_of {k : IntKind} {n : Int} {v : Value} (h : RelT β σ s R w (.int k n) v) : v = .int k n := h
theorem bool_of {b : Bool} {v : Value} (h : RelT β σ s R w (.bool b) v) : v = .bool b := h

theorem move_ok (hI : Inv C w0 R0 a w s β σ R) (hK : ∀ a' w', Holds C w0 R0 a' w' (s.apply wr) → K a' w') {x : Operand} (hop : o.op = .move x ∨ o.op = .assign x)
    (h : (opd C x fun d => setTmp C o.dst (typed C.tt o.type d)).Ok s wr) : o.wp P a w K Q := by
  obtain ⟨d, h1, h2⟩ := opd_ok hI h
  exact done_ok hI hK h1 (typed_rel h2) (by rcases hop with hop | hop <;> simp [execOp, hop])

theorem pick_ok (hI : Inv C w0 R0 a w s β σ R) (hK : ∀ a' w', Holds C w0 R0 a' w' (s.apply wr) → K a' w') {c x y : Operand} (hop : o.op = .pick c x y) {dec : List (Nat × Bool)} {orc : List (Nat × D)}
    (h : (sem C dec orc o).Ok s wr) : o.wp P a w K Q := by
  unfold sem at h
  rw [hop] at h
  cases c with
  | tmp c =>
    simp only at h
    split at h
    · rename_i t ht
      simp only [M.Ok] at h
      split at h
      · rename_i u hu
        obtain ⟨rfl, h⟩ := h
        obtain ⟨d, h1, h2⟩ := opd_ok hI h
        have hc := hI.tmps c
        simp only [St.tmp, hu] at hc
        have hc' : a.tmps.getD c undef = .bool u := hc
        refine done_ok hI hK h1 h2 ?_
        have he : a.eval (.tmp c) = .bool u := hc'
        cases u <;> simp [execOp, hop, he, asBool]
      · exact h.elim
    · simp only [M.Ok] at h
      split at h
      · rename_i hu
        obtain ⟨d, h1, h2⟩ := opd_ok hI h
        have hc := hI.tmps c
        simp only [St.tmp, hu] at hc
        have he : a.eval (.tmp c) = .bool true := hc
        exact done_ok hI hK h1 h2 (by simp [execOp, hop, he, asBool])
      · rename_i hu
        obtain ⟨d, h1, h2⟩ := opd_ok hI h
        have hc := hI.tmps c
        simp only [St.tmp, hu] at hc
        have he : a.eval (.tmp c) = .bool false := hc
        exact done_ok hI hK h1 h2 (by simp [execOp, hop, he, asBool])
      · exact h.elim
  | const v => exact h.elim
  | global g => exact h.elim
  | func f => exact h.elim

theorem run_newVar (t : TypeId) (v : Value) : (newVar t v).run P w = .ok ⟨w.heap.size, 0, none⟩ (w.alloc (.cells v.cells t)) := by simp [newVar, newRow]

theorem newBox_ok (hI : Inv C w0 R0 a w s β σ R) (hK : ∀ a' w', Holds C w0 R0 a' w' (s.apply wr) → K a' w') {cs : List D} {arr : Array Value} {el : TypeId} (h : (newBox C o.dst cs).Ok s wr)
    (hc : All2 (RelTC σ s R w) cs arr.toList) (hr : (execOp a.eval o).run P w = .ok (.value (.pointer (some ⟨w.heap.size, 0, none⟩))) (w.alloc (.cells arr el))) : o.wp P a w K Q := by
  unfold newBox at h
  split at h
  · rename_i t ht
    split at h
    · rename_i hlt
      simp only [M.Ok] at h
      split at h
      · rename_i hb
        obtain ⟨_, rfl, _, rfl, rfl⟩ := h
        refine wp_value hr (hK _ _ ⟨fun i => if i = t then w.heap.size else β i, σ, R, ?_⟩)
        rw [ht]
        exact hI.newBox t (okT_lt hlt) (okT_fx hlt) (bx_of hb) cs arr el hc
      · exact h.elim
    · exact h.elim
  · exact h.elim

theorem alloc_ok (hT : TabOk P C.tt) (hI : Inv C w0 R0 a w s β σ R) (hK : ∀ a' w', Holds C w0 R0 a' w' (s.apply wr) → K a' w') {t : TypeId} (hop : o.op = .alloc t) {dec : List (Nat × Bool)} {orc : List (Nat × D)}
    (h : (sem C dec orc o).Ok s wr) : o.wp P a w K Q := by
  unfold sem at h
  rw [hop] at h
  simp only at h
  split at h
  · rename_i ti ht
    obtain ⟨i, z, h1, h2, h3, h4, _, h5⟩ := (hT t ti ht).info
    exact newBox_ok (el := t) hI hK h ((h5 R w).imp fun _ _ => RelTC.of0) (by simp [execOp, hop, Instr.alloc, zeroValue, typeInfo, h1, h4, run_newVar])
  · exact h.elim

theorem box_ok (hI : Inv C w0 R0 a w s β σ R) (hK : ∀ a' w', Holds C w0 R0 a' w' (s.apply wr) → K a' w') {t : TypeId} {x : Operand} (hop : o.op = .box t x) {dec : List (Nat × Bool)} {orc : List (Nat × D)}
    (h : (sem C dec orc o).Ok s wr) : o.wp P a w K Q := by
  unfold sem at h
  rw [hop] at h
  obtain ⟨d, h1, h2⟩ := opd_ok hI h
  obtain ⟨h3, h4, _⟩ := cells_ok hI h1 (typed_rel h2)
  exact newBox_ok (el := t) hI hK h3 h4 (by simp [execOp, hop, Instr.box, run_newVar])

/-- Reading at a place of known cells. -/
theorem allI_tc : ∀ (cs : List D) (zs : List Int) (vs : List Value), allI cs = some zs → All2 (RelTC σ s R w) cs vs → vs = zs.map (Value.int .i64)
  | [], zs, vs, h, hr => by
    cases h
    exact all2_nil hr
  | d :: l, zs, vs, h, hr => by
    obtain ⟨v, vs', rfl, h1, h2⟩ := all2_cons hr
    simp only [allI] at h
    split at h
    · rename_i x xs hx hxs
      cases h
      rw [allI_tc l xs vs' hxs h2]
      unfold asI at hx
      split at hx
      · cases hx
        have : v = .int .i64 x := h1
        rw [this]; rfl
      · cases hx
    · cases h

theorem list_take_get {α : Type} (l : List α) (off n : Nat) (h : off + n ≤ l.length) : ((l.drop off).take n).length = n := by simp; omega

/-- The cells that a load reads, and what they are. -/
theorem loadAtD_ok {ti : TI} {cs : List D} {off : Nat} {k : D → M} (h : (loadAtD ti cs off k).Ok s wr) {vs : List Value} (hc : All2 (RelTC σ s R w) cs vs) :
    off + ti.sz ≤ vs.length ∧ (ti.agg = false → ti.sz = 1) ∧ ∃ d, (k d).Ok s wr ∧ RelT β σ s R w d (if ti.agg = true then .agg ((vs.drop off).take ti.sz).toArray else (vs.getD off undef)) := by
  unfold loadAtD at h
  split at h
  · rename_i zs hz
    obtain ⟨h1, h⟩ := h
    have hv := allI_tc cs zs vs hz hc
    subst hv
    split at h
    · rename_i ha
      refine ⟨by simpa using h1, fun x => (by rw [ha] at x; cases x), _, h, ?_⟩
      rw [if_pos ha]
      refine ⟨_, rfl, ?_⟩
      refine All2.of_get (by simp; omega) fun i x y hx hy => ?_
      have hi : i < ti.sz := by
        have := (List.getElem?_eq_some_iff.1 hx).1
        simpa using this
      simp only [List.getElem?_map, List.getElem?_range hi, Option.map_some, Option.some.injEq] at hx
      subst hx
      simp only [List.getElem?_take, List.getElem?_drop, hi, if_true, List.getElem?_map] at hy
      have hlt : off + i < zs.length := by omega
      rw [List.getElem?_eq_getElem hlt] at hy
      simp only [Option.map_some, Option.some.injEq] at hy
      show y = _
      rw [← hy, List.getD_eq_getElem?_getD, List.getElem?_eq_getElem hlt]
      rfl
    · rename_i ha
      split at h
      · rename_i hs
        have hs := Nat.eq_of_beq_eq_true hs
        refine ⟨by simpa using h1, fun _ => hs, _, h, ?_⟩
        rw [if_neg (by rw [ha]; simp)]
        have hlt : off < zs.length := by omega
        show _ = _
        simp [List.getD_eq_getElem?_getD, hlt]
      · exact h.elim
  · split at h
    · rename_i hle
      have hle : off + ti.sz ≤ cs.length := Nat.le_of_ble_eq_true hle
      have hl := All2.length hc
      split at h
      · rename_i ha
        refine ⟨by omega, fun x => (by rw [ha] at x; cases x), _, h, ?_⟩
        rw [if_pos ha]
        exact ⟨_, rfl, (hc.drop off).take ti.sz⟩
      · rename_i ha
        split at h
        · rename_i d hs hd
          have hs := Nat.eq_of_beq_eq_true hs
          refine ⟨by omega, fun _ => hs, _, h, ?_⟩
          rw [if_neg (by rw [ha]; simp)]
          obtain ⟨v, hv, hr⟩ := All2.get hc off d hd
          rw [List.getD_eq_getElem?_getD, hv]
          exact RelT.ofTC hr
        · exact h.elim
    · exact h.elim

/-- Cells that lie in the memory are loaded. -/
theorem loadAt_run {t : TypeId} {ti : TI} (hT : TIok P C.tt t ti) {b o' off : Nat} (vs : List Value) (hc : ∀ j u, vs[j]? = some u → w.cell? ⟨b, o' + j, none⟩ = some u) (hle : off + ti.sz ≤ vs.length) (hsz : ti.agg = false → ti.sz = 1) :
    (Instr.loadAt t (.pointer (some ⟨b, o' + off, none⟩))).run P w = .ok (if ti.agg = true then .agg ((vs.drop off).take ti.sz).toArray else (vs.getD off undef)) w := by
  have h1 := loadVar_run (P := P) (C := C) (w := w) hT (b := b) (o := o' + off) ((vs.drop off).take ti.sz) (list_take_get vs off ti.sz hle) (fun j u hu => by
    rw [List.getElem?_take, List.getElem?_drop] at hu
    split at hu
    · have := hc (off + j) u hu
      rw [show o' + off + j = o' + (off + j) by omega]
      exact this
    · cases hu)
  rcases h1 with h1 | ⟨h1, h2⟩
  · simp only [Instr.loadAt, Instr.sureAddr, pure_bind]
    rw [h1]
    split
    · rfl
    · rename_i ha
      have hs := hsz (by simpa using ha)
      rw [hs]
      congr 1
      cases hd : vs.drop off with
      | nil => simp [List.getD_eq_getElem?_getD]; have := congrArg List.length hd; simp at this; omega
      | cons u l =>
        have : vs[off]? = some u := by rw [← List.head?_drop, hd]; rfl
        simp [List.getD_eq_getElem?_getD, this]
  · exact absurd (hsz h1) h2

theorem cell_of {g : Nat} {arr : Array Value} {el : TypeId} (h : w.heap[g]? = some (.cells arr el (0, 0))) (j : Nat) : w.cell? ⟨g, j, none⟩ = arr[j]? := by
  simp [World.cell?, h]

theorem BoxOk.all {i : Nat} {b : Box} (h : BoxOk β σ s R w0 w i b) : ∃ arr el, w.heap[β i]? = some (.cells arr el (0, 0)) ∧ All2 (RelTC σ s R w) b.cells arr.toList := by
  obtain ⟨_, ⟨arr, el, h2, h3, h4, h5⟩, _⟩ := h
  refine ⟨arr, el, h2, ?_⟩
  cases hf : b.frozen with
  | true => exact (h3 hf).imp fun _ _ => RelTC.ofC
  | false => exact h4 hf

/-- The cells behind a pointer to memory that stays. -/
theorem ref_cells {cs : List D} {b o' : Nat} (h : RefAt (RelC R w) R w cs b o') : ∃ vs : List Value, All2 (RelC R w) cs vs ∧ ∀ j u, vs[j]? = some u → R b (o' + j) ∧ w.cell? ⟨b, o' + j, none⟩ = some u := by
  induction cs generalizing o' with
  | nil => exact ⟨[], trivial, fun j u hu => by simp at hu⟩
  | cons d l ih =>
    obtain ⟨u, h1, h2, h3⟩ := h 0 d rfl
    obtain ⟨vs, h4, h5⟩ := ih (o' := o' + 1) (fun j x hx => by
      obtain ⟨u, p1, p2, p3⟩ := h (j + 1) x (by simpa using hx)
      exact ⟨u, p1, by rw [show o' + 1 + j = o' + (j + 1) by omega]; exact p2, by rw [show o' + 1 + j = o' + (j + 1) by omega]; exact p3⟩)
    refine ⟨u :: vs, ⟨h1, h4⟩, fun j x hx => ?_⟩
    cases j with
    | zero =>
      simp only [List.getElem?_cons_zero, Option.some.injEq] at hx
      subst hx
      exact ⟨h2, h3⟩
    | succ j =>
      simp only [List.getElem?_cons_succ] at hx
      have := h5 j x hx
      rw [show o' + (j + 1) = o' + 1 + j by omega]
      exact this

theorem load_ok (hT : TabOk P C.tt) (hI : Inv C w0 R0 a w s β σ R) (hK : ∀ a' w', Holds C w0 R0 a' w' (s.apply wr) → K a' w') {t : TypeId} {x : Operand} (hop : o.op = .load t x) {dec : List (Nat × Bool)} {orc : List (Nat × D)}
    (h : (sem C dec orc o).Ok s wr) : o.wp P a w K Q := by
  unfold sem at h
  rw [hop] at h
  simp only at h
  split at h
  · rename_i ti ht
    obtain ⟨d, h1, h2⟩ := opd_ok hI h
    split at h1
    · rename_i b off
      simp only [M.Ok] at h1
      split at h1
      · rename_i bx hbx
        obtain ⟨⟨b', hb'⟩, hv⟩ := h2
        have hbx := bx_of hbx
        obtain ⟨arr, el, p1, p2⟩ := (hI.box b bx hbx).all
        obtain ⟨q1, q2, d, q3, q4⟩ := loadAtD_ok (β := β) h1 p2
        refine done_ok hI hK q3 q4 ?_
        have := loadAt_run (P := P) (C := C) (w := w) (hT t ti ht) (b := β b) (o' := 0) (off := off) arr.toList (fun j u hu => by
          rw [Nat.zero_add, cell_of p1]
          simpa using hu) q1 q2
        rw [Nat.zero_add] at this
        simp [execOp, hop, hv, this]
      · exact h1.elim
    · rename_i cs off
      obtain ⟨b, o', hv, hr⟩ := h2
      obtain ⟨vs, p1, p2⟩ := ref_cells hr
      obtain ⟨q1, q2, d, q3, q4⟩ := loadAtD_ok (β := β) h1 (p1.imp fun _ _ => RelTC.ofC (σ := σ) (s := s))
      refine done_ok hI hK q3 q4 ?_
      have := loadAt_run (P := P) (C := C) (w := w) (hT t ti ht) (b := b) (o' := o') (off := off) vs (fun j u hu => (p2 j u hu).2) q1 q2
      simp [execOp, hop, hv, this]
    · exact h1.elim
  · exact h.elim
end
end Go.Di

/-
  DI, part F: soundness of stores and of built values.
-/
namespace Go.Di
open Go.RowKit

/-! ### Cells put one after the other -/
def putAll (arr : Array Value) (o : Nat) : List Value → Array Value
  | [] => arr
  | v :: r => putAll (arr.setIfInBounds o v) (o + 1) r

theorem putAll_size : ∀ (vs : List Value) (arr : Array Value) (o : Nat), (putAll arr o vs).size = arr.size
  | [], _, _ => rfl
  | v :: r, arr, o => by rw [putAll, putAll_size r]; simp

theorem putAll_get : ∀ (vs : List Value) (arr : Array Value) (o : Nat) (q : Nat), (putAll arr o vs)[q]? = if o ≤ q ∧ q < o + vs.length ∧ q < arr.size then vs[q - o]? else arr[q]?
  | [], arr, o, q => by
    simp only [putAll, List.length_nil, Nat.add_zero]
    rw [if_neg (by omega)]
  | v :: r, arr, o, q => by
    rw [putAll, putAll_get r]
    simp only [Array.size_setIfInBounds, Array.getElem?_setIfInBounds, List.length_cons]
    by_cases h1 : o + 1 ≤ q ∧ q < o + 1 + r.length ∧ q < arr.size
    · rw [if_pos h1, if_pos (by omega)]
      have : q - o = (q - (o + 1)) + 1 := by omega
      rw [this, List.getElem?_cons_succ]
    · rw [if_neg h1]
      by_cases h2 : o = q
      · subst h2
        by_cases h3 : o < arr.size
        · rw [if_pos rfl, if_pos h3, if_pos (by omega)]
          simp
        · rw [if_pos rfl, if_neg h3, if_neg (by omega)]
          simp [h3]
      · rw [if_neg h2, if_neg (by omega)]

theorem setCells_get (g : Nat) : ∀ (vs : List Value) (o : Nat) (w : World) (arr : Array Value) (el : TypeId) (f : Nat × Nat), w.heap[g]? = some (.cells arr el f) → (w.setCells g o vs).heap[g]? = some (.cells (putAll arr o vs) el f)
  | [], _, _, _, _, _, h => h
  | v :: r, o, w, arr, el, f, h => by
    rw [World.setCells]
    exact setCells_get g r (o + 1) _ _ el f (by simp [World.setCell, Array.getElem?_modify, h])
theorem setCells_other (g : Nat) : ∀ (vs : List Value) (o : Nat) (w : World) (k : Nat), k ≠ g → (w.setCells g o vs).heap[k]? = w.heap[k]?
  | [], _, _, _, _ => rfl
  | v :: r, o, w, k, h => by
    rw [World.setCells, setCells_other g r _ _ k h, Below.heap_setCell _ _ _ _ h]
theorem setCells_rest (g : Nat) : ∀ (vs : List Value) (o : Nat) (w : World), (w.setCells g o vs).os = w.os ∧ (w.setCells g o vs).tape = w.tape ∧ (w.setCells g o vs).output = w.output ∧ (w.setCells g o vs).heap.size = w.heap.size
  | [], _, _ => ⟨rfl, rfl, rfl, rfl⟩
  | v :: r, o, w => by
    obtain ⟨h1, h2, h3, h4⟩ := setCells_rest g r (o + 1) (w.setCell ⟨g, o, none⟩ v)
    exact ⟨h1, h2, h3, h4.trans (by simp [World.setCell])⟩

theorem replAt_length (cs : List D) (off : Nat) (new : List D) (h : off + new.length ≤ cs.length) : (replAt cs off new).length = cs.length := by
  simp [replAt]; omega
theorem replAt_get (cs : List D) (off : Nat) (new : List D) (h : off + new.length ≤ cs.length) (q : Nat) : (replAt cs off new)[q]? = if off ≤ q ∧ q < off + new.length then new[q - off]? else cs[q]? := by
  unfold replAt
  by_cases h1 : q < off
  · rw [if_neg (by omega), List.getElem?_append_left (by simp; omega), List.getElem?_take, if_pos h1]
  · rw [List.getElem?_append_right (by simp; omega)]
    have hl : (cs.take off).length = off := by simp; omega
    rw [hl]
    by_cases h2 : q < off + new.length
    · rw [if_pos (by omega), List.getElem?_append_left (by omega)]
    · rw [if_neg (by omega), List.getElem?_append_right (by omega), List.getElem?_drop]
      congr 1
      omega

theorem all2_repl {p : D → Value → Prop} {cs : List D} {arr : Array Value} {off : Nat} {new : List D} {vs : List Value} (h : All2 p cs arr.toList) (hn : All2 p new vs) (hle : off + new.length ≤ cs.length) :
    All2 p (replAt cs off new) (putAll arr off vs).toList := by
  have hl := All2.length h
  have hv := All2.length hn
  refine All2.of_get (by rw [replAt_length _ _ _ hle, hl]; simp [putAll_size]) fun i a b ha hb => ?_
  rw [replAt_get _ _ _ hle] at ha
  rw [Array.getElem?_toList, putAll_get] at hb
  simp only [Array.length_toList] at hl
  by_cases hc : off ≤ i ∧ i < off + new.length
  · rw [if_pos hc] at ha
    rw [if_pos (by omega)] at hb
    obtain ⟨y, hy, hp⟩ := All2.get hn _ a ha
    rw [hb] at hy
    cases hy
    exact hp
  · rw [if_neg hc] at ha
    rw [if_neg (by omega)] at hb
    obtain ⟨y, hy, hp⟩ := All2.get h _ a ha
    rw [Array.getElem?_toList, hb] at hy
    cases hy
    exact hp

theorem foldl_put (off : Nat) : ∀ (l : List Value) (k : Nat) (arr : Array Value), (l.zipIdx k).foldl (fun cs (p : Value × Nat) => cs.setIfInBounds (off + p.2) p.1) arr = putAll arr (off + k) l
  | [], _, _ => rfl
  | v :: r, k, arr => by
    simp only [List.zipIdx_cons, List.foldl_cons, putAll]
    rw [foldl_put off r (k + 1)]
    rw [Nat.add_assoc]

theorem fill_put (off : Nat) (v : Value) (cells : Array Value) : v.cells.zipIdx.foldl (fun cs (c, j) => cs.setIfInBounds (off + j) c) cells = putAll cells off v.cells.toList := by
  rw [← Array.foldl_toList]
  have := foldl_put off v.cells.toList 0 cells
  simp only [Nat.add_zero] at this
  rw [← this]
  congr 1
  simp

section
variable {P : Program} {C : Cfg} {w0 w : World} {R0 R : Foot} {a : Act} {s : St} {β : Nat → Nat} {σ : Sig} {o : Oper} {wr : List (Key × Val)} {K : Act → World → Prop} {Q : Exit → Act → World → Prop}

theorem storeAt_run {t : TypeId} {ti : TI} (hT : TIok P C.tt t ti) {g off : Nat} {v : Value} {arr : Array Value} {el : TypeId} (h : w.heap[g]? = some (.cells arr el (0, 0))) (hsz : v.cells.size = ti.sz) (hle : off + ti.sz ≤ arr.size)
    (h1 : ∀ u ∈ v.cells.toList, u.oneCell' = true) : (Instr.storeAt t (.pointer (some ⟨g, off, none⟩)) v).run P w = .ok () (w.setCells g off v.cells.toList) := by
  have hs := sizeOf_run (P := P) (C := C) (w := w) hT
  have hc := run_storeCells_cells (P := P) g off v.cells.toList 0 w (fun j hj => by
    simp only [Array.length_toList] at hj
    rw [cell_of h, Nat.add_zero, Array.getElem?_eq_getElem (by omega)]; rfl) (fun j hj => by simp [World.frozen?, h]) h1
  simp only [Nat.add_zero] at hc
  simp [Instr.storeAt, Instr.sureAddr, storeVar, hs, hsz, hc]

theorem store_ok (hT : TabOk P C.tt) (hI : Inv C w0 R0 a w s β σ R) (hK : ∀ a' w', Holds C w0 R0 a' w' (s.apply wr) → K a' w') {t : TypeId} {x y : Operand} (hop : o.op = .store t x y) {dec : List (Nat × Bool)} {orc : List (Nat × D)}
    (h : (sem C dec orc o).Ok s wr) : o.wp P a w K Q := by
  unfold sem at h
  rw [hop] at h
  simp only at h
  split at h
  · rename_i ti ht
    obtain ⟨d, h1, h2⟩ := opd_ok hI h
    obtain ⟨dy, h1', h3⟩ := opd_ok hI h1
    clear h1
    have h1 := h1'
    clear h1'
    split at h1
    · rename_i b off
      simp only [M.Ok] at h1
      split at h1
      · rename_i bx hbx
        split at h1
        · rename_i hf hl hle
          obtain ⟨⟨b', hb'⟩, hv⟩ := h2
          have hbx := bx_of hbx
          obtain ⟨arr, el, p1, p2⟩ := (hI.box b bx hbx).all
          obtain ⟨h4, h5, h6⟩ := cells_ok hI h1 (typed_rel h3)
          obtain ⟨wr', rfl, h7⟩ := h4
          have hl := Nat.eq_of_beq_eq_true hl
          have hle := Nat.le_of_ble_eq_true hle
          have hl5 := All2.length h5
          have hlp := All2.length p2
          simp only [Array.length_toList] at hl5 hlp
          obtain ⟨q1, q2, q3, q4⟩ := setCells_rest (β b) (a.eval y).cells.toList off w
          have hI' := hI.storeBox (w' := w.setCells (β b) off (a.eval y).cells.toList) hbx hf (replAt bx.cells off (cellsOf (typed C.tt t dy))) p1 (setCells_get _ _ _ _ _ _ _ p1) (fun k hk => setCells_other _ _ _ _ _ hk)
            ⟨q1, q2, q3, q4⟩ (all2_repl p2 h5 (by omega))
          refine wp_skipv (w' := w.setCells (β b) off (a.eval y).cells.toList) ?_ (hK _ _ ⟨β, σ, R, setTmp_ok hI' h7 (d := .undef) (v := undef) trivial⟩)
          have := storeAt_run (P := P) (C := C) (w := w) (hT t ti ht) (g := β b) (off := off) (v := a.eval y) p1 (by omega) (by omega) h6
          simp [execOp, hop, hv, this]
        · exact h1.elim
      · exact h1.elim
    · exact h1.elim
  · exact h.elim

/-! ### Built values -/
theorem mapM_run {α γ : Type} (f : α → Sem γ) (g : α → γ) : ∀ (l : List α), (∀ x ∈ l, (f x).run P w = .ok (g x) w) → (l.mapM f).run P w = .ok (l.map g) w
  | [], _ => rfl
  | x :: l, h => by
    rw [List.mapM_cons]
    simp only [Sem.run_bind, h x (by simp), Result.andThen_ok, mapM_run f g l (fun y hy => h y (by simp [hy])), Sem.run_pure, List.map_cons]
theorem mapM_run_array {α γ : Type} (f : α → Sem γ) (g : α → γ) (l : Array α) (h : ∀ x ∈ l.toList, (f x).run P w = .ok (g x) w) : (l.mapM f).run P w = .ok (l.map g) w := by
  rw [Array.mapM_eq_mapM_toList]
  simp only [Sem.run_map, Sem.run_bind, mapM_run f g l.toList h, Result.andThen_ok, map_eq_pure_bind, Sem.run_pure]
  congr 1
  apply Array.ext'
  simp

/-- What the parts of a built value are. -/
def PartOk (σ : Sig) (s : St) (R : Foot) (w : World) (p : Nat × D) (q : Nat × Value) : Prop := p.1 = q.1 ∧ ∀ tt t, All2 (RelTC σ s R w) (cellsOf (typed tt t p.2)) q.2.cells.toList

theorem fillS_ok {tt : TypeId → Option TI} {fs : List (Nat × TypeId)} {place : Nat → Option (Nat × Nat)} (hp : ∀ i off ft ti, fs[i]? = some (off, ft) → tt ft = some ti → place i = some (off, ti.sz)) :
    ∀ (l : List (Nat × D)) (pv : List (Nat × Value)) (cs cs' : List D) (arr : Array Value), All2 (PartOk σ s R w) l pv → All2 (RelTC σ s R w) cs arr.toList → fillS tt fs cs l = some cs' → ∃ arr', Instr.fill place arr pv = some arr' ∧ All2 (RelTC σ s R w) cs' arr'.toList
  | [], [], cs, cs', arr, _, h, hf => by
    cases hf
    exact ⟨arr, rfl, h⟩
  | [], _ :: _, _, _, _, h, _, _ => h.elim
  | _ :: _, [], _, _, _, h, _, _ => h.elim
  | (i, d) :: l, (j, v) :: pv, cs, cs', arr, ⟨⟨hij, hd⟩, hr⟩, h, hf => by
    dsimp only at hij hd
    subst hij
    simp only [fillS] at hf
    split at hf
    · rename_i off ft hfs
      split at hf
      · rename_i ti hti
        split at hf
        · rename_i h1 h2
          have h1 := Nat.eq_of_beq_eq_true h1
          have h2 := Nat.le_of_ble_eq_true h2
          have hdd := hd tt ft
          have hl1 := All2.length hdd
          have hl2 := All2.length h
          simp only [Array.length_toList] at hl1 hl2
          obtain ⟨arr', p1, p2⟩ := fillS_ok hp l pv _ cs' (putAll arr off v.cells.toList) hr (all2_repl h hdd h2) hf
          refine ⟨arr', ?_, p2⟩
          rw [Instr.fill, hp i off ft ti hfs hti]
          simp only
          rw [if_neg (by simp; omega), fill_put]
          exact p1
        · cases hf
      · cases hf
    · cases hf

theorem fillA_ok {tt : TypeId → Option TI} {el : TypeId} {sz : Nat} {place : Nat → Option (Nat × Nat)} (hp : ∀ i, place i = some (i * sz, sz)) :
    ∀ (l : List (Nat × D)) (pv : List (Nat × Value)) (cs cs' : List D) (arr : Array Value), All2 (PartOk σ s R w) l pv → All2 (RelTC σ s R w) cs arr.toList → fillA el tt sz cs l = some cs' → ∃ arr', Instr.fill place arr pv = some arr' ∧ All2 (RelTC σ s R w) cs' arr'.toList
  | [], [], cs, cs', arr, _, h, hf => by
    cases hf
    exact ⟨arr, rfl, h⟩
  | [], _ :: _, _, _, _, h, _, _ => h.elim
  | _ :: _, [], _, _, _, h, _, _ => h.elim
  | (i, d) :: l, (j, v) :: pv, cs, cs', arr, ⟨⟨hij, hd⟩, hr⟩, h, hf => by
    dsimp only at hij hd
    subst hij
    simp only [fillA] at hf
    split at hf
    · rename_i h1 h2
      have h1 := Nat.eq_of_beq_eq_true h1
      have h2 := Nat.le_of_ble_eq_true h2
      have hdd := hd tt el
      have hl1 := All2.length hdd
      have hl2 := All2.length h
      simp only [Array.length_toList] at hl1 hl2
      obtain ⟨arr', p1, p2⟩ := fillA_ok hp l pv _ cs' (putAll arr (i * sz) v.cells.toList) hr (all2_repl h hdd h2) hf
      refine ⟨arr', ?_, p2⟩
      rw [Instr.fill, hp i]
      simp only
      rw [if_neg (by simp; omega), fill_put]
      exact p1
    · cases hf

/-- The cells of some values that may be laid down. -/
theorem parts_ok (hI : Inv C w0 R0 a w s β σ R) {m : M} : ∀ {ds : List D} {vs : List Value}, (chk (ds.flatMap cellsOf) m).Ok s wr → All2 (RelT β σ s R w) ds vs → m.Ok s wr ∧ ∀ (is : List Nat), is.length = ds.length → All2 (PartOk σ s R w) (is.zip ds) (is.zip vs)
  | [], [], h, _ => ⟨h, fun is _ => by cases is <;> simp [All2]⟩
  | [], _ :: _, _, h => h.elim
  | _ :: _, [], _, h => h.elim
  | d :: ds, v :: vs, h, ⟨h1, h2⟩ => by
    have happ : ∀ (cs cs' : List D) (m : M), (chk (cs ++ cs') m).Ok s wr → (chk cs (chk cs' m)).Ok s wr := by
      intro cs
      induction cs with
      | nil => exact fun cs' m h => h
      | cons c cs ih =>
        intro cs' m h
        simp only [List.cons_append, chk] at h ⊢
        cases c with
        | own i n =>
          simp only [M.Ok] at h ⊢
          split at h
          · exact ⟨h.1, ih _ _ h.2⟩
          · exact h.elim
        | _ => first | exact ih _ _ h | exact h.elim
    rw [List.flatMap_cons] at h
    obtain ⟨p1, p2, p3⟩ := cells_ok hI (happ _ _ _ h) h1
    obtain ⟨q1, q2⟩ := parts_ok hI p1 h2
    refine ⟨q1, fun is his => ?_⟩
    match is, his with
    | i :: is, his =>
      refine ⟨⟨rfl, fun tt t => ?_⟩, q2 is (by simpa using his)⟩
      dsimp only
      cases d with
      | nil =>
        have hv : v = .slice none 0 0 := h1
        have : cellsOf (typed tt t .nil) = [typed tt t .nil] := by
          unfold typed
          cases elt tt t with
          | none => rfl
          | some p => rfl
        rw [this, hv]
        exact ⟨typed_tc (d := .nil) rfl, trivial⟩
      | _ => exact p2

theorem zip_map {α γ δ : Type} (f : α → γ) (g : α → δ) : ∀ (l : List α), (l.map f).zip (l.map g) = l.map fun x => (f x, g x)
  | [] => rfl
  | x :: l => by simp [zip_map f g l]

theorem build_ok (hT : TabOk P C.tt) (hI : Inv C w0 R0 a w s β σ R) (hK : ∀ a' w', Holds C w0 R0 a' w' (s.apply wr) → K a' w') {t : TypeId} {parts : Array (Nat × Operand)} (hop : o.op = .build t parts) {dec : List (Nat × Bool)} {orc : List (Nat × D)}
    (h : (sem C dec orc o).Ok s wr) : o.wp P a w K Q := by
  unfold sem at h
  rw [hop] at h
  obtain ⟨ds, h1, h2⟩ := opds_ok hI h
  clear h
  obtain ⟨h3, h4⟩ := parts_ok hI h1 h2
  have hlen := All2.length h2
  have hparts := h4 (parts.toList.map (·.1)) (by simp at hlen ⊢; omega)
  have hpv : (parts.toList.map (·.1)).zip (List.map a.eval (parts.toList.map (·.2))) = (parts.map fun (i, x) => (i, a.eval x)).toList := by
    rw [Array.toList_map]
    rw [List.map_map]
    exact zip_map _ _ _
  rw [hpv] at hparts
  split at h3
  · rename_i ti ht
    have hti := hT t ti ht
    obtain ⟨i, z, j1, j2, j3, j4, _, j5⟩ := hti.info
    have hz : (zeroValue t).run P w = .ok z w := by simp [zeroValue, typeInfo, j1, j4]
    have hzc : All2 (RelTC σ s R w) ti.zero z.cells.toList := (j5 R w).imp fun _ _ => RelTC.of0
    split at h3
    · rename_i fs hk
      have hu := hti.und
      rw [hk] at hu
      obtain ⟨fields, u1, u2, u3, u4, u5⟩ := hu
      split at h3
      · rename_i cs hcs
        have hm := mapM_run_array (P := P) (w := w) (fun (f : Field) => do pure (f.offset, ← sizeOf f.type)) (fun f => (f.offset, ((C.tt f.type).map (·.sz)).getD 0)) fields (fun f hf => by
          obtain ⟨n, hn⟩ := List.getElem?_of_mem hf
          obtain ⟨tf, htf⟩ := (u2 n f (by simpa using hn)).2
          simp [sizeOf_run (P := P) (C := C) (w := w) (hT _ _ htf), htf])
        obtain ⟨arr', f1, f2⟩ := fillS_ok (σ := σ) (s := s) (R := R) (w := w) (tt := C.tt) (fs := fs) (place := ((fields.map fun f => (f.offset, ((C.tt f.type).map (·.sz)).getD 0))[·]?)) (fun i off ft tf hi htf => by
          have hi' : i < fields.size := by rw [u3]; exact (List.getElem?_eq_some_iff.1 hi).1
          have := (u2 i fields[i] (Array.getElem?_eq_getElem hi')).1
          rw [hi] at this
          cases this
          simp [hi', htf]) _ _ _ _ _ hparts hzc hcs
        refine done_ok hI hK h3 (v := .agg arr') ⟨_, rfl, f2⟩ ?_
        have f1' := f1
        rw [Array.toList_map] at f1'
        change Instr.fill _ z.cells (List.map (fun x => (x.fst, a.eval x.snd)) parts.toList) = some arr' at f1'
        generalize Array.map (fun (f : Field) => (f.offset, ((C.tt f.type).map (·.sz)).getD 0)) fields = pl at hm f1'
        simp only [bind_pure_comp] at hm
        simp [execOp, hop, Instr.build, hz, run_underlying u1, hm, f1']
      · exact h3.elim
    · rename_i n el hk
      have hu := hti.und
      rw [hk] at hu
      obtain ⟨u1, te, u2⟩ := hu
      rw [u2] at h3
      simp only at h3
      split at h3
      · rename_i cs hcs
        obtain ⟨arr', f1, f2⟩ := fillA_ok (σ := σ) (s := s) (R := R) (w := w) (tt := C.tt) (el := el) (sz := te.sz) (place := fun i => some (i * te.sz, te.sz)) (fun i => rfl) _ _ _ _ _ hparts hzc hcs
        refine done_ok hI hK h3 (v := .agg arr') ⟨_, rfl, f2⟩ ?_
        have f1' := f1
        rw [Array.toList_map] at f1'
        change Instr.fill _ z.cells (List.map (fun x => (x.fst, a.eval x.snd)) parts.toList) = some arr' at f1'
        simp [execOp, hop, Instr.build, hz, run_underlying u1, sizeOf_run (P := P) (C := C) (w := w) (hT _ _ u2), f1']
      · exact h3.elim
    · exact h3.elim
  · exact h3.elim
end
end Go.Di

/-
  DI, part G: soundness of the operations on numbers, of parts of values, of addresses.
-/
namespace Go.Di
open Go.RowKit

theorem wrap_in {z : Int} (h : inI64 z) : IntKind.i64.wrap z = z := by
  obtain ⟨h1, h2⟩ := h
  have hb : IntKind.i64.bits = 64 := rfl
  have hs : IntKind.i64.signed = true := rfl
  simp only [IntKind.wrap, hb, hs, Bool.true_and, decide_eq_true_eq]
  have e1 : (2 : Int) ^ 64 = 18446744073709551616 := by decide
  have e2 : (2 : Int) ^ (64 - 1) = 9223372036854775808 := by decide
  rw [e1, e2]
  split <;> omega

section
variable {P : Program} {C : Cfg} {w0 w : World} {R0 R : Foot} {a : Act} {s : St} {β : Nat → Nat} {σ : Sig} {o : Oper} {wr : List (Key × Val)} {K : Act → World → Prop} {Q : Exit → Act → World → Prop}

theorem binI_ok {op : BinOp} {ty : TypeId} {x y : Int} {k : D → M} (h : (binI op x y k).Ok s wr) : ∃ d v, (k d).Ok s wr ∧ RelT β σ s R w d v ∧ (binOp op ty (.int .i64 x) (.int .i64 y)).run P w = .ok v w := by
  cases op with
  | add => exact ⟨_, _, h.2, rfl, by simp [binOp, Op.intArith, wrap_in h.1]⟩
  | sub => exact ⟨_, _, h.2, rfl, by simp [binOp, Op.intArith, wrap_in h.1]⟩
  | mul => exact ⟨_, _, h.2, rfl, by simp [binOp, Op.intArith, wrap_in h.1]⟩
  | quo => exact ⟨_, _, h.2, rfl, by simp [binOp, Op.intDiv, h.1.1, wrap_in h.1.2]⟩
  | rem => exact ⟨_, _, h.2, rfl, by simp [binOp, Op.intDiv, show ¬ y = 0 from h.1]⟩
  | shl =>
    have h1 : ¬ y < 0 := by have := h.1.1; omega
    have h2 := wrap_in h.1.2
    exact ⟨_, _, h.2, rfl, by
      simp only [binOp, Op.shift, h1, if_false]
      have : IntKind.i64.bits = 64 := rfl
      rw [this, h2]; rfl⟩
  | shr =>
    have h1 : ¬ y < 0 := by have := h.1; omega
    exact ⟨_, _, h.2, rfl, by
      simp only [binOp, Op.shift, h1, if_false]
      have : IntKind.i64.bits = 64 := rfl
      rw [this]; rfl⟩
  | eql => exact ⟨_, _, h, rfl, by simp [binOp, Op.intCmp]⟩
  | neq => exact ⟨_, _, h, rfl, by simp [binOp, Op.intCmp]⟩
  | lss => exact ⟨_, _, h, rfl, by simp [binOp, Op.intCmp]⟩
  | leq => exact ⟨_, _, h, rfl, by simp [binOp, Op.intCmp]⟩
  | gtr => exact ⟨_, _, h, rfl, by simp [binOp, Op.intCmp]⟩
  | geq => exact ⟨_, _, h, rfl, by simp [binOp, Op.intCmp]⟩
  | and => exact ⟨_, _, h, rfl, by simp [binOp, Op.intBits]; rfl⟩
  | or => exact ⟨_, _, h, rfl, by simp [binOp, Op.intBits]; rfl⟩
  | xor => exact h.elim
  | andNot => exact h.elim

theorem agg_ints {cs : List D} {zs : List Int} (hz : allI cs = some zs) {v : Value} (h : RelT β σ s R w (.agg cs) v) : v = .agg (zs.map (Value.int .i64)).toArray := by
  obtain ⟨vs, rfl, h⟩ := h
  rw [← allI_tc cs zs _ hz h]

theorem equal_bool {t : TypeId} (h : P.underlying t = some .bool) (x y : Bool) : (Op.equal t (.bool x) (.bool y)).run P w = .ok (x == y) w := by
  exact run_equalIn_bool w 9999 t x y h

theorem eqT_of {n : Nat} {ty : TypeId} (h : eqT C ty n = true) : ∃ ti, C.tt ty = some ti ∧ ti.eq = true ∧ n = ti.sz := by
  unfold eqT at h
  split at h
  · rename_i ti ht
    simp only [Bool.and_eq_true] at h
    exact ⟨ti, ht, h.1, Nat.eq_of_beq_eq_true h.2⟩
  · cases h

theorem bin_ok (hT : TabOk P C.tt) (hI : Inv C w0 R0 a w s β σ R) (hK : ∀ a' w', Holds C w0 R0 a' w' (s.apply wr) → K a' w') {op : BinOp} {t t' : TypeId} {x y : Operand} (hop : o.op = .binOp op t x y t') {dec : List (Nat × Bool)} {orc : List (Nat × D)}
    (h : (sem C dec orc o).Ok s wr) : o.wp P a w K Q := by
  unfold sem at h
  rw [hop] at h
  obtain ⟨dx, h1, h2⟩ := opd_ok hI h
  clear h
  obtain ⟨dy, h, h3⟩ := opd_ok hI h1
  clear h1
  unfold binD at h
  split at h
  · rename_i p
    split at h
    · rename_i q
      have e1 : a.eval x = .int .i64 p := h2
      have e2 : a.eval y = .int .i64 q := h3
      obtain ⟨d, v, j1, j2, j3⟩ := binI_ok (P := P) (R := R) (w := w) (β := β) (σ := σ) (ty := t) h
      refine done_ok hI hK j1 j2 ?_
      have g : (eqGuard op t x y (.int .i64 p) (.int .i64 q)).run P w = .ok () w := by
        cases op <;> simp [eqGuard]
      simp [execOp, hop, e1, e2, g, j3]
    · exact h.elim
  · rename_i p
    split at h
    · rename_i q hb
      have e1 : a.eval x = .bool p := h2
      have e2 : a.eval y = .bool q := h3
      have hu : P.underlying t = some .bool := by
        unfold isBoolT at hb
        split at hb
        · rename_i ti ht
          split at hb
          · rename_i hk
            have := (hT t ti ht).und
            rw [hk] at this
            exact this
          · cases hb
        · cases hb
      split at h
      · exact done_ok hI hK h (v := .bool (p == q)) rfl (by simp [execOp, hop, e1, e2, eqGuard, binOp, equal_bool hu])
      · exact done_ok hI hK h (v := .bool (!(p == q))) rfl (by simp [execOp, hop, e1, e2, eqGuard, binOp, equal_bool hu])
      · exact h.elim
    · exact h.elim
  · rename_i p
    split at h
    · rename_i q
      split at h
      · rename_i xs ys hx hy
        split at h
        · rename_i t1 t2
          obtain ⟨ti, k1, k2, k3⟩ := eqT_of t1
          obtain ⟨ti', l1, l2, l3⟩ := eqT_of t2
          rw [k1] at l1
          cases l1
          have e1 := agg_ints hx h2
          have e2 := agg_ints hy h3
          obtain ⟨g1, g2⟩ := (hT t ti k1).eqok k2
          have g3 := g2 w xs ys k3 l3
          split at h
          · exact done_ok hI hK h (v := .bool (eqI xs ys)) rfl (by simp only [execOp, hop, e1, e2]; simp [eqGuard, binOp, g1, g3])
          · exact done_ok hI hK h (v := .bool (!(eqI xs ys))) rfl (by simp only [execOp, hop, e1, e2]; simp [eqGuard, binOp, g1, g3])
          · exact h.elim
        · exact h.elim
      · exact h.elim
    · exact h.elim
  · exact h.elim

theorem un_ok (hI : Inv C w0 R0 a w s β σ R) (hK : ∀ a' w', Holds C w0 R0 a' w' (s.apply wr) → K a' w') {op : UnOp} {t : TypeId} {x : Operand} (hop : o.op = .unOp op t x) {dec : List (Nat × Bool)} {orc : List (Nat × D)}
    (h : (sem C dec orc o).Ok s wr) : o.wp P a w K Q := by
  unfold sem at h
  rw [hop] at h
  cases op with
  | not =>
    obtain ⟨d, h1, h2⟩ := opd_ok hI h
    split at h1
    · rename_i b
      have e : a.eval x = .bool b := h2
      exact done_ok hI hK h1 (v := .bool (!b)) rfl (by simp [execOp, hop, e, Op.unary])
    · exact h1.elim
  | neg =>
    obtain ⟨d, h1, h2⟩ := opd_ok hI h
    split at h1
    · rename_i z
      have e : a.eval x = .int .i64 z := h2
      have hw := wrap_in h1.1
      exact done_ok hI hK h1.2 (v := .int .i64 (0 - z)) rfl (by simp only [execOp, hop, e, Op.unary, Op.intArith]; rw [hw]; simp)
    · exact h1.elim
  | xor => exact h.elim
  | plus => exact h.elim

/-! ### Parts of values -/
theorem part_run {t : TypeId} {ti : TI} (hT : TIok P C.tt t ti) {off : Nat} (vs : Array Value) (hle : off + ti.sz ≤ vs.toList.length) (hsz : ti.agg = false → ti.sz = 1) :
    (part t vs off).run P w = .ok (if ti.agg = true then .agg ((vs.toList.drop off).take ti.sz).toArray else (vs.toList.getD off undef)) w := by
  have h1 := isAgg_run (P := P) (C := C) (w := w) hT
  have h2 := sizeOf_run (P := P) (C := C) (w := w) hT
  cases ha : ti.agg with
  | true =>
    simp [part, h1, ha, h2]
    apply Array.ext'
    simp
  | false =>
    have := hsz ha
    have hlt : off < vs.size := by simp at hle; omega
    simp [part, h1, ha, hlt, List.getD_eq_getElem?_getD]

theorem field_ok (hT : TabOk P C.tt) (hI : Inv C w0 R0 a w s β σ R) (hK : ∀ a' w', Holds C w0 R0 a' w' (s.apply wr) → K a' w') {t : TypeId} {x : Operand} {f : Nat} (hop : o.op = .field t x f) {dec : List (Nat × Bool)} {orc : List (Nat × D)}
    (h : (sem C dec orc o).Ok s wr) : o.wp P a w K Q := by
  unfold sem at h
  rw [hop] at h
  simp only at h
  split at h
  · rename_i ti ht
    split at h
    · rename_i fs hk
      split at h
      · rename_i off ft hf
        split at h
        · rename_i tf htf
          obtain ⟨d, h1, h2⟩ := opd_ok hI h
          split at h1
          · rename_i cs
            obtain ⟨vs, e, hr⟩ := h2
            have hu := (hT t ti ht).und
            rw [hk] at hu
            obtain ⟨fields, u1, u2, u3, u4⟩ := hu
            obtain ⟨p1, p2, d, p3, p4⟩ := loadAtD_ok (β := β) h1 hr
            refine done_ok hI hK p3 p4 ?_
            have hi : f < fields.size := by rw [u3]; exact (List.getElem?_eq_some_iff.1 hf).1
            have hfe := (u2 f fields[f] (Array.getElem?_eq_getElem hi)).1
            rw [hf] at hfe
            cases hfe
            have := part_run (P := P) (C := C) (w := w) (hT _ _ htf) vs p1 p2
            simp [execOp, hop, e, Instr.field, run_underlying u1, hi, asAgg, this]
          · exact h1.elim
        · exact h.elim
      · exact h.elim
    · exact h.elim
  · exact h.elim

theorem fieldAddr_ok (hT : TabOk P C.tt) (hI : Inv C w0 R0 a w s β σ R) (hK : ∀ a' w', Holds C w0 R0 a' w' (s.apply wr) → K a' w') {t : TypeId} {x : Operand} {f : Nat} (hop : o.op = .fieldAddr t x f) {dec : List (Nat × Bool)} {orc : List (Nat × D)}
    (h : (sem C dec orc o).Ok s wr) : o.wp P a w K Q := by
  unfold sem at h
  rw [hop] at h
  simp only at h
  split at h
  · rename_i ti ht
    split at h
    · rename_i fs hk
      split at h
      · rename_i off ft hf
        split at h
        · rename_i tf htf
          split at h
          · rename_i hz
            obtain ⟨d, h1, h2⟩ := opd_ok hI h
            have hz' : ¬ tf.sz = 0 := fun e => by rw [beq_t e] at hz; cases hz
            have hu := (hT t ti ht).und
            rw [hk] at hu
            obtain ⟨fields, u1, u2, u3, u4⟩ := hu
            have hi : f < fields.size := by rw [u3]; exact (List.getElem?_eq_some_iff.1 hf).1
            have hfe := (u2 f fields[f] (Array.getElem?_eq_getElem hi)).1
            rw [hf] at hfe
            cases hfe
            have hs := sizeOf_run (P := P) (C := C) (w := w) (hT _ _ htf)
            split at h1
            · rename_i b o'
              obtain ⟨hb, e⟩ := h2
              exact done_ok hI hK h1 (v := .pointer (some ⟨β b, o' + fields[f].offset, none⟩)) ⟨hb, rfl⟩ (by simp [execOp, hop, e, Instr.fieldAt, run_underlying u1, hi, Instr.sureAddr, fieldPlace, hs, hz', add_plain])
            · rename_i cs o'
              obtain ⟨b, o'', e, hr⟩ := h2
              exact done_ok hI hK h1 (v := .pointer (some ⟨b, o'' + (o' + fields[f].offset), none⟩)) ⟨b, o'', rfl, hr⟩ (by simp [execOp, hop, e, Instr.fieldAt, run_underlying u1, hi, Instr.sureAddr, fieldPlace, hs, hz', add_plain, Nat.add_assoc])
            · exact h1.elim
          · exact h.elim
        · exact h.elim
      · exact h.elim
    · exact h.elim
  · exact h.elim

theorem elt_of {t : TypeId} {e : E} {bytes : Nat} (hT : TabOk P C.tt) (h : elt C.tt t = some (e, bytes)) : ∃ el te, P.underlying t = some (.slice el) ∧ TIok P C.tt el te ∧ te.e = some e ∧ te.sz = e.sz ∧ te.bytes = bytes := by
  unfold elt at h
  split at h
  · rename_i ti ht
    split at h
    · rename_i el hk
      split at h
      · rename_i te hte
        split at h
        · rename_i e' he
          split at h
          · rename_i hs
            cases h
            have hu := (hT t ti ht).und
            rw [hk] at hu
            exact ⟨el, te, hu.1, hT _ _ hte, he, (Nat.eq_of_beq_eq_true hs).symm, rfl⟩
          · cases h
        · cases h
      · cases h
    · cases h
  · cases h

/-- An element of a slice by its cells. -/
theorem slR_elem {e : E} {xs : List e.α} {v : Value} {full : Bool} (h : SlR (RelE R w e) e.sz R w full xs v) {i : Nat} (hi : i < xs.length) :
    ∃ b o c, v = .slice (some ⟨b, o, none⟩) xs.length c ∧ ∀ x, xs[i]? = some x → RefAt (RelC R w) R w (e.enc x) b (o + i * e.sz) := by
  obtain ⟨A, c, hv, h1, h2, _, h4⟩ := h
  obtain ⟨b, o, ha, hc⟩ := h4 (by omega)
  subst ha
  refine ⟨b, o, c, hv, fun x hx j d hd => ?_⟩
  obtain ⟨vs, k1, k2, k3⟩ := hc i x hx
  obtain ⟨u, hu, hr⟩ := All2.get (enc_rel e x vs k2) j d hd
  exact ⟨u, RelC.of0 hr, k3 j u hu⟩

theorem indexAddr_ok (hT : TabOk P C.tt) (hI : Inv C w0 R0 a w s β σ R) (hK : ∀ a' w', Holds C w0 R0 a' w' (s.apply wr) → K a' w') {t : TypeId} {x y : Operand} (hop : o.op = .indexAddr t x y) {dec : List (Nat × Bool)} {orc : List (Nat × D)}
    (h : (sem C dec orc o).Ok s wr) : o.wp P a w K Q := by
  unfold sem at h
  rw [hop] at h
  simp only at h
  split at h
  · rename_i ti ht
    split at h
    · rename_i n el hk
      split at h
      · rename_i te hte
        obtain ⟨d, h1, h2⟩ := opd_ok hI h
        clear h
        obtain ⟨i, h, h3⟩ := opd_ok hI h1
        clear h1
        have hu := (hT t ti ht).und
        rw [hk] at hu
        have hs := sizeOf_run (P := P) (C := C) (w := w) (hT _ _ hte)
        split at h
        · rename_i b off z
          obtain ⟨hz, h⟩ := h
          obtain ⟨hb, e⟩ := h2
          have e2 : a.eval y = .int .i64 z := h3
          exact done_ok hI hK h (v := .pointer (some ⟨β b, off + z.toNat * te.sz, none⟩)) ⟨hb, rfl⟩ (by simp [execOp, hop, e, e2, Instr.indexAt, asIntOf, run_underlying hu.1, Instr.sureAddr, hz, hs, add_plain])
        · rename_i cs off z
          obtain ⟨hz, h⟩ := h
          obtain ⟨b, o', e, hr⟩ := h2
          have e2 : a.eval y = .int .i64 z := h3
          exact done_ok hI hK h (v := .pointer (some ⟨b, o' + (off + z.toNat * te.sz), none⟩)) ⟨b, o', rfl, hr⟩ (by simp [execOp, hop, e, e2, Instr.indexAt, asIntOf, run_underlying hu.1, Instr.sureAddr, hz, hs, add_plain, Nat.add_assoc])
        · exact h.elim
      · exact h.elim
    · rename_i el hk
      split at h
      · rename_i e0 bytes he
        obtain ⟨d, h1, h2⟩ := opd_ok hI h
        clear h
        obtain ⟨i, h, h3⟩ := opd_ok hI h1
        clear h1
        split at h
        · rename_i z
          obtain ⟨e, xs, h4, h5⟩ := elems_ok hI h (typed_rel h2)
          split at h4
          · rename_i hee _
            obtain ⟨rfl⟩ := hee
            obtain ⟨hz, h6⟩ := h4
            have hzl : z.toNat < xs.length := by omega
            obtain ⟨b, o', c, k1, k2⟩ := slR_elem h5 hzl
            have k3 := k2 xs[z.toNat] (List.getElem?_eq_getElem hzl)
            have e2 : a.eval y = .int .i64 z := h3
            have hg : xs.getD z.toNat e.z = xs[z.toNat] := by rw [List.getD_eq_getElem?_getD, List.getElem?_eq_getElem hzl]; rfl
            rw [hg] at h6
            obtain ⟨el', te, u1, u2, u3, u4, u5⟩ := elt_of hT he
            have hs := sizeOf_run (P := P) (C := C) (w := w) u2
            refine done_ok hI hK h6 (v := .pointer (some ⟨b, o' + z.toNat * e.sz + 0, none⟩)) ⟨b, o' + z.toNat * e.sz, rfl, k3⟩ ?_
            simp [execOp, hop, k1, e2, Instr.indexAt, asIntOf, run_underlying u1, hz, hs, u4, add_plain]
          · exact h4.elim
        · exact h.elim
      · exact h.elim
    · exact h.elim
  · exact h.elim

theorem index_ok (hT : TabOk P C.tt) (hI : Inv C w0 R0 a w s β σ R) (hK : ∀ a' w', Holds C w0 R0 a' w' (s.apply wr) → K a' w') {t : TypeId} {x y : Operand} (hop : o.op = .index t x y) {dec : List (Nat × Bool)} {orc : List (Nat × D)}
    (h : (sem C dec orc o).Ok s wr) : o.wp P a w K Q := by
  unfold sem at h
  rw [hop] at h
  simp only at h
  split at h
  · rename_i ti ht
    split at h
    · rename_i n el hk
      split at h
      · rename_i te hte
        obtain ⟨d, h1, h2⟩ := opd_ok hI h
        clear h
        obtain ⟨i, h, h3⟩ := opd_ok hI h1
        clear h1
        have hu := (hT t ti ht).und
        rw [hk] at hu
        have hs := sizeOf_run (P := P) (C := C) (w := w) (hT _ _ hte)
        split at h
        · rename_i cs z
          obtain ⟨hz, h⟩ := h
          obtain ⟨vs, e, hr⟩ := h2
          have e2 : a.eval y = .int .i64 z := h3
          obtain ⟨p1, p2, d, p3, p4⟩ := loadAtD_ok (β := β) h hr
          have := part_run (P := P) (C := C) (w := w) (hT _ _ hte) vs p1 p2
          exact done_ok hI hK p3 p4 (by simp [execOp, hop, e, e2, Instr.index, asIntOf, run_underlying hu.1, hz, hs, this])
        · exact h.elim
      · exact h.elim
    · exact h.elim
  · exact h.elim

theorem extract_ok (hI : Inv C w0 R0 a w s β σ R) (hK : ∀ a' w', Holds C w0 R0 a' w' (s.apply wr) → K a' w') {x : Operand} {ix : Nat} (hop : o.op = .extract x ix) {dec : List (Nat × Bool)} {orc : List (Nat × D)}
    (h : (sem C dec orc o).Ok s wr) : o.wp P a w K Q := by
  unfold sem at h
  rw [hop] at h
  obtain ⟨d, h1, h2⟩ := opd_ok hI h
  split at h1
  · rename_i vs
    split at h1
    · rename_i d hd
      obtain ⟨us, e, hr⟩ := h2
      obtain ⟨u, hu, hr'⟩ := All2.get hr ix d hd
      exact done_ok hI hK h1 (v := u) (RelT.ofA hr') (by
        have : us[ix]? = some u := by simpa using hu
        simp [execOp, hop, e, Instr.extract, this])
    · exact h1.elim
  · exact h1.elim
end
end Go.Di

