/- Part 21: an interpreter over plain data for this code, with the proof that it says what the model does, and the contracts of the functions. No condition. -/
import Derived.Test.YtfkmodcjddfeiaaDoorDi20
set_option linter.unusedVariables false
set_option linter.unusedSimpArgs false
/-
  DI, part P2: rows that were written are shut: from then on they are told by their elements. Contracts of functions that return such rows.
-/
namespace Go.Di
open Go.RowKit

/-- A cell as it is told for good. -/
def asC (s : St) : D → Option D
  | .own i n => match s (.obj i) with
    | .ob (some o) => match Nat.beq n o.xs.length with
      | true => some (.sl false o.e o.xs)
      | false => none
    | _ => none
  | .int k n => some (.int k n)
  | .bool b => some (.bool b)
  | .nil => some .nil
  | .sl f e xs => some (.sl f e xs)
  | _ => none
def asCs (s : St) : List D → Option (List D)
  | [] => some []
  | d :: l => match asC s d, asCs s l with
    | some d', some l' => some (d' :: l')
    | _, _ => none
def chunks (n : Nat) : Nat → List D → List (List D)
  | 0, _ => []
  | k + 1, l => l.take n :: chunks n k (l.drop n)
def shutC (i : Nat) (e : E) (xs : List e.α) : D → D
  | .row j n => match Nat.beq j i, Nat.beq n xs.length with
    | true, true => .sl false e xs
    | _, _ => .row j n
  | d => d
def shutD (i : Nat) (e : E) (xs : List e.α) : D → D
  | .agg cs => .agg (cs.map (shutC i e xs))
  | d => shutC i e xs d
def shutV (i : Nat) (e : E) (xs : List e.α) : Val → Val
  | .d d => .d (shutD i e xs d)
  | .bx (some b) => .bx (some ⟨b.frozen, b.cells.map (shutC i e xs)⟩)
  | v => v
def shutK (i : Nat) (e : E) (xs : List e.α) (cs : List D) (k : Key) (v : Val) : Val := match k.eqb (.box i) with
  | true => .bx (some ⟨true, cs⟩)
  | false => shutV i e xs v
def shutL (i : Nat) (e : E) (L : List (Key × Val)) : Option (List (Key × Val)) := match (ofL L) (.box i) with
  | .bx (some b) => match b.frozen, asCs (ofL L) b.cells with
    | false, some cs => match decAll e (chunks e.sz (cs.length / e.sz) cs), Nat.beq (cs.length / e.sz * e.sz) cs.length with
      | some xs, true => some (L.map fun p => (p.1, shutK i e xs cs p.1 p.2))
      | _, _ => none
    | _, _ => none
  | _ => none

theorem all2_nil' {α β γ : Type} {p : α → β → Prop} {q : γ → β → Prop} : ∀ {m : List β}, All2 p ([] : List α) m → All2 q ([] : List γ) m
  | [], _ => trivial
  | _ :: _, h => h.elim

theorem ofL_map (G : Key → Val → Val) : ∀ (L : List (Key × Val)) (k : Key), (ofL (L.map fun p => (p.1, G p.1 p.2))) k = G k ((ofL L) k) ∨ ((ofL L) k = dflt k ∧ (ofL (L.map fun p => (p.1, G p.1 p.2))) k = dflt k)
  | [], k => .inr ⟨rfl, rfl⟩
  | (k0, v0) :: L, k => by
    simp only [List.map_cons, ofL, St.set]
    cases h : k0.eqb k with
    | true =>
      obtain rfl := eqb_eq h
      exact .inl rfl
    | false => exact ofL_map G L k

section
variable {P : Program} {C : Cfg} {w0 w : World} {R0 R : Foot} {a : Act} {s : St} {β : Nat → Nat} {σ : Sig}

/-- The same, told otherwise. -/
theorem Inv.retell (h : Inv C w0 R0 a w s β σ R) {s' : St} (ho : ∀ i, s'.ob i = s.ob i) (hm : ∀ i, s'.mp i = s.mp i) (ht : ∀ j v, RelT β σ s R w (s.tmp j) v → RelT β σ s' R w (s'.tmp j) v)
    (hb : ∀ j b', s'.bx j = some b' → ∃ b, s.bx j = some b ∧ b'.frozen = b.frozen ∧ b'.cells.length = b.cells.length ∧ (∀ vs, All2 (RelC R w) b.cells vs → All2 (RelC R w) b'.cells vs) ∧ ∀ vs, All2 (RelTC β σ s R w) b.cells vs → All2 (RelTC β σ s' R w) b'.cells vs) : Inv C w0 R0 a w s' β σ R := by
  refine ⟨h.below, h.defers, h.fix, h.nt, h.sub, h.dom, h.glob, fun i => ht i _ (h.tmps i), fun i b' hi => ?_, fun i j bi bj hi hj e => ?_, fun k o hk => ?_, ?_, h.mps.same hm ho⟩
  · obtain ⟨b, hi0, hf, hl, g1, g2⟩ := hb i b' hi
    obtain ⟨h1, ⟨arr, el, h2, h3, h4, h5⟩, h6⟩ := h.box i b hi0
    refine ⟨h1, ⟨arr, el, h2, fun x => ?_, fun x => ?_, fun x => h5 (hf ▸ x)⟩, fun x => h6 (hf ▸ x)⟩
    · rw [hl]
      exact g1 _ (h3 (hf ▸ x))
    · rw [hl]
      exact g2 _ (h4 (hf ▸ x))
  · obtain ⟨b, hi0, _⟩ := hb i bi hi
    obtain ⟨b2, hj0, _⟩ := hb j bj hj
    exact h.inj i j b b2 hi0 hj0 e
  · obtain ⟨h1, h2⟩ := h.obj k o (by rw [← ho]; exact hk)
    refine ⟨h1, fun hl => ?_⟩
    obtain ⟨g, off, q1, q2, q3, q4, q5, q6⟩ := h2 hl
    exact ⟨g, off, q1, q2, q3, fun i b hi => by
      obtain ⟨b0, hi0, _⟩ := hb i b hi
      exact q4 i b0 hi0, fun k' o' hk' => q5 k' o' (by rw [← ho]; exact hk'), q6⟩
  · refine ⟨h.far.sz, fun b hb' => ?_, fun b hb' => ?_⟩
    · obtain ⟨p1, p2, p3, p4⟩ := h.far.ke b hb'
      refine ⟨p1, p2, fun i x hi hx => ?_, fun k o hk => p4 k o (by rw [← ho]; exact hk)⟩
      obtain ⟨b0, hi0, hf, _⟩ := hb i x hi
      exact p3 i b0 hi0 (hf ▸ hx)
    · obtain ⟨p1, p2, p3, p4, p5⟩ := h.far.no b hb'
      refine ⟨p1, p2, p3, fun i x hi => ?_, fun k o hk => p5 k o (by rw [← ho]; exact hk)⟩
      obtain ⟨b0, hi0, _⟩ := hb i x hi
      exact p4 i b0 hi0

theorem asC_ok (hI : Inv C w0 R0 a w s β σ R) {d d' : D} {v : Value} (h : asC s d = some d') (hr : RelTC β σ s R w d v) : RelC0 R w d' v := by
  unfold asC at h
  split at h
  · split at h
    · rename_i o ho
      split at h
      · rename_i hn
        cases h
        exact obj_sl hI (ob_of ho) (Nat.eq_of_beq_eq_true hn) hr
      · cases h
    · cases h
  all_goals first | (cases h; exact hr) | cases h
theorem asCs_ok (hI : Inv C w0 R0 a w s β σ R) : ∀ {cs cs' : List D} {vs : List Value}, asCs s cs = some cs' → All2 (RelTC β σ s R w) cs vs → All2 (RelC0 R w) cs' vs
  | [], cs', vs, h, hr => by
    cases h
    exact all2_nil' hr
  | d :: l, cs', vs, h, hr => by
    obtain ⟨v, vs, rfl, h1, h2⟩ := all2_cons hr
    simp only [asCs] at h
    split at h
    · rename_i d' l' hd hl
      cases h
      exact ⟨asC_ok hI hd h1, asCs_ok hI hl h2⟩
    · cases h
theorem asCs_length : ∀ {cs cs' : List D}, asCs s cs = some cs' → cs'.length = cs.length
  | [], cs', h => by
    cases h
    rfl
  | d :: l, cs', h => by
    simp only [asCs] at h
    split at h
    · rename_i d' l' hd hl
      cases h
      simp [asCs_length hl]
    · cases h

theorem dec_chunk {e : E} : ∀ (k : Nat) (cs : List D) (xs : List e.α) (vs : List Value), decAll e (chunks e.sz k cs) = some xs → All2 (RelC0 R w) cs vs → xs.length = k ∧ ∀ (i : Nat) (x : e.α), xs[i]? = some x → RelE R w e x ((vs.drop (i * e.sz)).take e.sz)
  | 0, cs, xs, vs, h, hr => by
    cases h
    exact ⟨rfl, fun i x hx => by simp at hx⟩
  | k + 1, cs, xs, vs, h, hr => by
    simp only [chunks, decAll] at h
    split at h
    · rename_i x xs' hx hxs
      cases h
      obtain ⟨h1, h2⟩ := dec_chunk k (cs.drop e.sz) xs' (vs.drop e.sz) hxs (hr.drop e.sz)
      refine ⟨by simp [h1], fun i y hy => ?_⟩
      cases i with
      | zero =>
        simp only [List.getElem?_cons_zero, Option.some.injEq] at hy
        subst hy
        rw [Nat.zero_mul, List.drop_zero]
        exact dec_rel e _ _ _ hx (hr.take e.sz)
      | succ i =>
        have := h2 i y (by simpa using hy)
        rw [List.drop_drop] at this
        rw [show (i + 1) * e.sz = e.sz + i * e.sz by rw [Nat.add_mul]; omega]
        exact this
    · cases h

/-- A row that is a box is shut. -/
theorem Holds.shut {i : Nat} {e : E} {L L' : List (Key × Val)} (h : shutL i e L = some L') (hH : Holds C w0 R0 a w (ofL L)) : Holds C w0 R0 a w (ofL L') := by
  obtain ⟨β, σ, R, hI⟩ := hH
  unfold shutL at h
  split at h
  · rename_i b hb
    split at h
    · rename_i cs hf hcs
      split at h
      · rename_i xs hxs hn
        cases h
        have hn := Nat.eq_of_beq_eq_true hn
        obtain ⟨s, hs⟩ : ∃ s, s = ofL L := ⟨_, rfl⟩
        rw [← hs] at hI hb hcs
        have hbx : s.bx i = some b := bx_of hb
        have hB := hI.box i b hbx
        obtain ⟨arr, el, p2, p3, p4, p5⟩ := hB.cells
        have hrel := asCs_ok hI hcs (p4 hf)
        have hlen := asCs_length hcs
        have hl2 := All2.length hrel
        obtain ⟨n, ⟨arr', el', q1, q2⟩, hI1⟩ := hI.freeze hbx cs (fun ar e2 hq => by
          rw [p2] at hq
          cases hq
          rw [hlen]
          exact hrel.imp fun _ _ => RelC.of0)
        rw [p2] at q1
        cases q1
        subst q2
        obtain ⟨hxl, hxe⟩ := dec_chunk (R := R) (w := w) (cs.length / e.sz) cs xs _ hxs hrel
        have hk1 : Keeps R (addF R (β i) 0 arr.size) w w := ⟨fun _ _ hr => .inl hr, fun _ _ _ _ h => h, fun _ _ _ _ h => h⟩
        obtain ⟨R1, hR1⟩ : ∃ R1, R1 = addF R (β i) 0 arr.size := ⟨_, rfl⟩
        rw [← hR1] at hI1 hk1
        have hbl : b.cells.length ≤ arr.size := by
          have := All2.length (p4 hf)
          rw [List.length_take, Array.length_toList] at this
          omega
        -- what a row of box i is, told by its elements
        have hrow : ∀ v c, c ≤ maxLen → xs.length ≤ c → v = .slice (some ⟨β i, 0, none⟩) xs.length c → SlR (RelE R1 w e) e.sz R1 w false xs v := by
          intro v c hc1 hc2 hv
          refine ⟨some ⟨β i, 0, none⟩, c, hv, hc2, hc1, fun x => (by cases x), fun hp => ⟨β i, 0, rfl, fun q x hx => ?_⟩⟩
          have hq : q < xs.length := (List.getElem?_eq_some_iff.1 hx).1
          have hle : (q + 1) * e.sz ≤ cs.length := by
            have := Nat.mul_le_mul_right e.sz (show q + 1 ≤ cs.length / e.sz by omega)
            omega
          rw [Nat.add_mul] at hle
          refine ⟨_, ?_, RelE.keep hk1 _ _ _ (hxe q x hx), fun j u hu => ?_⟩
          · rw [List.length_take, List.length_drop, ← hl2]
            omega
          · have hj : j < e.sz := by
              have := (List.getElem?_eq_some_iff.1 hu).1
              rw [List.length_take] at this
              omega
            rw [List.getElem?_take, if_pos hj, List.getElem?_drop, List.getElem?_take, if_pos (by omega), Array.getElem?_toList] at hu
            rw [Nat.zero_add]
            refine ⟨by rw [hR1]; exact .inr ⟨rfl, Nat.zero_le _, by omega⟩, ?_⟩
            rw [cell_of p2]
            exact hu
        have hmap := ofL_map (shutK i e xs cs) L
        rw [← hs] at hmap
        obtain ⟨s1, hs1⟩ : ∃ s1, s1 = s.set (.box i) (.bx (some ⟨true, cs⟩)) := ⟨_, rfl⟩
        obtain ⟨s', hs'⟩ : ∃ s', s' = ofL (L.map fun p => (p.1, shutK i e xs cs p.1 p.2)) := ⟨_, rfl⟩
        rw [← hs'] at hmap ⊢
        rw [← hs1] at hI1
        have hget : ∀ k, s' k = shutK i e xs cs k (s k) := by
          intro k
          rcases hmap k with h | ⟨h1, h2⟩
          · exact h
          · rw [h2, h1]
            unfold shutK
            cases hk : k.eqb (.box i) with
            | true =>
              obtain rfl := eqb_eq hk
              rw [hb] at h1
              cases h1
            | false => cases k <;> rfl
        have htmp : ∀ j, s' (.tmp j) = shutV i e xs (s (.tmp j)) := fun j => hget _
        have hobj : ∀ j, s' (.obj j) = shutV i e xs (s (.obj j)) := fun j => hget _
        have hmp : ∀ j, s' (.mp j) = shutV i e xs (s (.mp j)) := fun j => hget _
        have hbox : ∀ j, s' (.box j) = if i = j then .bx (some ⟨true, cs⟩) else shutV i e xs (s (.box j)) := by
          intro j
          rw [hget]
          unfold shutK
          simp only [Key.eqb]
          by_cases he : i = j
          · rw [if_pos he, beq_t he.symm]
          · rw [if_neg he, beq_f (fun x => he x.symm)]
        have hbx' : ∀ j, (∃ b, s1.bx j = some b) → ∃ b, s'.bx j = some b := by
          intro j ⟨b1, hb1⟩
          unfold St.bx
          rw [hbox]
          by_cases he : i = j
          · rw [if_pos he]
            exact ⟨_, rfl⟩
          · rw [if_neg he]
            rw [hs1, bx_set_box, if_neg he] at hb1
            unfold St.bx at hb1
            split at hb1
            · rename_i b2 hb2
              subst hb1
              exact ⟨_, by rw [hb2]; rfl⟩
            · rename_i zs hz
              exact ⟨_, by rw [hz]; rfl⟩
            · cases hb1
        have hob' : ∀ j, s'.ob j = s1.ob j := by
          intro j
          have : s1.ob j = s.ob j := by rw [hs1]; rfl
          rw [this]
          unfold St.ob
          rw [hobj]
          cases s (.obj j) with
          | bx b => cases b <;> rfl
          | _ => rfl
        have hmp' : ∀ j, s'.mp j = s1.mp j := by
          intro j
          have : s1.mp j = s.mp j := by rw [hs1]; rfl
          rw [this]
          unfold St.mp
          rw [hmp]
          cases s (.mp j) with
          | bx b => cases b <;> rfl
          | _ => rfl
        have hTC : ∀ d v, RelTC β σ s1 R1 w d v → RelTC β σ s' R1 w (shutC i e xs d) v := by
          intro d v hr
          cases d with
          | row j m =>
            obtain ⟨hb1, c, c1, c2, hv⟩ := hr
            by_cases he : j = i ∧ m = xs.length
            · obtain ⟨rfl, rfl⟩ := he
              simp only [shutC, Nat.beq_refl]
              exact hrow v c c2 c1 hv
            · have : shutC i e xs (.row j m) = .row j m := by
                simp only [shutC]
                split
                · rename_i h1 h2
                  exact absurd ⟨Nat.eq_of_beq_eq_true h1, Nat.eq_of_beq_eq_true h2⟩ he
                · rfl
              rw [this]
              exact ⟨hbx' j hb1, c, c1, c2, hv⟩
          | own j m =>
            obtain ⟨o, h1, h2⟩ := hr
            exact ⟨o, by rw [hob']; exact h1, h2⟩
          | mref j =>
            obtain ⟨⟨m, h1⟩, h2⟩ := hr
            exact ⟨⟨m, by rw [hmp']; exact h1⟩, h2⟩
          | _ => exact hr
        have hTCs : ∀ ds vs, All2 (RelTC β σ s1 R1 w) ds vs → All2 (RelTC β σ s' R1 w) (ds.map (shutC i e xs)) vs := by
          intro ds
          induction ds with
          | nil => exact fun vs h => all2_nil' h
          | cons d ds ih =>
            intro vs h
            obtain ⟨v, vs, rfl, h1, h2⟩ := all2_cons h
            exact ⟨hTC _ _ h1, ih _ h2⟩
        have hCs : ∀ ds vs, All2 (RelC R1 w) ds vs → All2 (RelC R1 w) (ds.map (shutC i e xs)) vs := by
          intro ds
          induction ds with
          | nil => exact fun vs h => all2_nil' h
          | cons d ds ih =>
            intro vs h
            obtain ⟨v, vs, rfl, h1, h2⟩ := all2_cons h
            refine ⟨?_, ih _ h2⟩
            cases d with
            | row j m => exact h1.elim
            | _ => exact h1
        refine ⟨β, σ, R1, hI1.retell hob' hmp' (fun j v hr => ?_) (fun j b' hj => ?_)⟩
        · have e1 : s1.tmp j = s.tmp j := by rw [hs1]; rfl
          rw [e1] at hr
          unfold St.tmp at hr ⊢
          rw [htmp]
          cases hsj : s (.tmp j) with
          | d d =>
            rw [hsj] at hr
            simp only [shutV] at hr ⊢
            cases d with
            | row k m => exact RelT.ofTC (hTC (.row k m) v hr)
            | agg ds =>
              obtain ⟨vs, hv, hr⟩ := hr
              exact ⟨vs, hv, hTCs _ _ hr⟩
            | own k m => exact RelT.ofTC (hTC (.own k m) v hr)
            | mref k => exact RelT.ofTC (hTC (.mref k) v hr)
            | ptr k m => exact ⟨hbx' k hr.1, hr.2⟩
            | _ => exact hr
          | bx b => cases b <;> exact trivial
          | ob o => exact trivial
          | mp m => exact trivial
          | rw zs => exact trivial
        · unfold St.bx at hj
          rw [hbox] at hj
          by_cases he : i = j
          · subst he
            rw [if_pos rfl] at hj
            cases hj
            refine ⟨⟨true, cs⟩, by rw [hs1, bx_set_box, if_pos rfl], rfl, rfl, fun _ h => h, fun vs h => ?_⟩
            -- a box that is shut has no such cells; what it has is told for good
            have h0 : ∀ (ds : List D) (us : List Value), ds.all is0 = true → All2 (RelTC β σ s1 R1 w) ds us → All2 (RelTC β σ s' R1 w) ds us := by
              intro ds
              induction ds with
              | nil => exact fun us _ h => all2_nil' h
              | cons d ds ih =>
                intro us ha h
                obtain ⟨u, us, rfl, h1, h2⟩ := all2_cons h
                simp only [List.all_cons, Bool.and_eq_true] at ha
                refine ⟨?_, ih _ ha.2 h2⟩
                cases d <;> first | exact h1 | exact absurd ha.1 (by simp [is0])
            refine h0 cs vs ?_ h
            have : ∀ (ds ds' : List D), asCs s ds = some ds' → ds'.all is0 = true := by
              intro ds
              induction ds with
              | nil => intro ds' h; cases h; rfl
              | cons d ds ih =>
                intro ds' h
                simp only [asCs] at h
                split at h
                · rename_i d' l' hd hl
                  cases h
                  rw [List.all_cons, ih _ hl, Bool.and_true]
                  unfold asC at hd
                  split at hd
                  · split at hd
                    · split at hd <;> cases hd
                      rfl
                    · cases hd
                  all_goals first | (cases hd; rfl) | cases hd
                · cases h
            exact this _ _ hcs
          · rw [if_neg he] at hj
            have e1 : s1.bx j = s.bx j := by rw [hs1, bx_set_box, if_neg he]
            cases hsj : s (.box j) with
            | bx b0 =>
              rw [hsj] at hj
              cases b0 with
              | none => cases hj
              | some b0 =>
                simp only [shutV, Option.some.injEq] at hj
                subst hj
                exact ⟨b0, by rw [e1]; exact bx_of hsj, rfl, by simp, fun vs h => hCs _ _ h, fun vs h => hTCs _ _ h⟩
            | rw zs =>
              rw [hsj] at hj
              simp only [shutV, Option.some.injEq] at hj
              subst hj
              refine ⟨_, by rw [e1]; exact rw_of hsj, rfl, rfl, fun _ h => h, fun vs h => ?_⟩
              have := hTCs _ _ h
              have em : (intC zs).map (shutC i e xs) = intC zs := by
                simp only [intC, List.map_map]
                rfl
              rw [em] at this
              exact this
            | d d => rw [hsj] at hj; cases hj
            | ob o => rw [hsj] at hj; cases hj
            | mp m => rw [hsj] at hj; cases hj
      · cases h
    · cases h
  · cases h

/-- Rows are shut ahead of a piece of code. -/
theorem WpL.shut {i : Nat} {e : E} {c : Code} {L L' : List (Key × Val)} {Post : Ex → List (Key × Val) → Prop} (hs : shutL i e L = some L') (h : WpL P C c L' Post) : WpL P C c L Post :=
  fun w0 R0 a w Q ro n hro hH hQ => h w0 R0 a w Q ro n hro (Holds.shut hs hH) hQ
theorem LoopT.shut {glob : Nat → Option (List D)} {n : Nat} {i : Nat} {e : E} {c : Code} {L L' L2 : List (Key × Val)} {x : Ex} (hs : shutL i e L = some L') (h : LoopT P glob n c L' x L2) : LoopT P glob n c L x L2 := ⟨WpL.shut hs h.wp⟩

/-- Rows are shut, one after the other; what is not looked at is forgotten. -/
def shuts : List (Nat × E) → List Key → List (Key × Val) → Option (List (Key × Val))
  | [], ks, L => match closedK ks (pickK (ofL L) ks) with
    | true => some (pickK (ofL L) ks)
    | false => none
  | (i, e) :: r, ks, L => match shutL i e L with
    | some L' => shuts r ks L'
    | none => none
theorem Holds.shuts {ks : List Key} : ∀ {l : List (Nat × E)} {L L' : List (Key × Val)}, Di.shuts l ks L = some L' → Holds C w0 R0 a w (ofL L) → Holds C w0 R0 a w (ofL L')
  | [], L, L', h, hH => by
    simp only [Di.shuts] at h
    split at h
    · rename_i hc
      cases h
      exact hH.restrict hc
    · cases h
  | (i, e) :: r, L, L', h, hH => by
    simp only [Di.shuts] at h
    split at h
    · rename_i L1 h1
      exact Holds.shuts h (Holds.shut h1 hH)
    · cases h
theorem LoopT.shuts {glob : Nat → Option (List D)} {n : Nat} {l : List (Nat × E)} {ks : List Key} {c : Code} {L L' L2 : List (Key × Val)} {x : Ex} (hs : Di.shuts l ks L = some L') (h : LoopT P glob n c L' x L2) : LoopT P glob n c L x L2 :=
  ⟨fun w0 R0 a w Q ro n hro hH hQ => h.wp w0 R0 a w Q ro n hro (Holds.shuts hs hH) hQ⟩

theorem contractL_of_path {tt : TypeId → Option TI} {glob : Nat → Option (List D)} {n : Nat} (hG : Good P (mk P tt glob n)) {f : FuncId} {code : Code} {c t b : Nat} (hf : FnOk P (mk P tt glob n) f code [.cell c t]) {dec : List (Nat × Bool)} {orc : List (Nat × D)} {lorc : Lorc} {args cs cells : List D} {ps : List Prop}
    (h : callL (mk P tt glob n) dec orc lorc code c t b args = some (ps, cs, cells)) (hp : allP ps) : ContractL P glob f args cs cells := contractL_of_call hG rfl (fun _ h => h) (fun _ h => h) rfl rfl hf h (allP_mem hp)
end
end Go.Di

/-
  ChainKnown: its books, and what it is built of.
-/
namespace Go.Di
/-- The types of the law: those of package chain, and lists of books. -/
def typesK : List (Nat × TI) := (80, ⟨.slice 26, 1, 24, [.nil], some (.list .book), false⟩) :: types
theorem typesK_ok : TabOk Proofs.Tryd.prog (lookN typesK) := tabOk (by kernel_rfl)
theorem GK (n : Nat) : Good Proofs.Tryd.prog (mk Proofs.Tryd.prog (lookN typesK) glob n) := good mixed_ok typesK_ok
/-- A book of the chapter, whose sections are a row with no room to spare. -/
def fullD (b : Book) : D := .agg [.sl true .sec b.secs, .sl false .int b.turns, .sl false .sv b.svs, .int .i64 b.rule, .int .i64 b.days]
/-- The same, and a row that may be written: its cells, and what it holds. -/
def liveCs (turns : List Int) (svs : List Sv) : List D := [.row 0 2, .sl false .int turns, .sl false .sv svs, .int .i64 30, .int .i64 12]
def liveSecs : List D := [.int .i64 40, .int .i64 42, .int .i64 1, .int .i64 2, .int .i64 38, .int .i64 39, .int .i64 0, .int .i64 1]
def six : List Sec := [⟨⟨40, 42⟩, ⟨1, 2⟩⟩, ⟨⟨38, 39⟩, ⟨0, 1⟩⟩]
/-- The wrong books. -/
def badL : List Book := [⟨[], [], [], 0, 0⟩, ⟨six ++ (six ++ six), [6], [], 30, 12⟩, ⟨[⟨⟨40, 44⟩, ⟨1, 2⟩⟩, ⟨⟨38, 39⟩, ⟨0, 1⟩⟩], [6], [], 30, 12⟩, ⟨[⟨⟨198, 201⟩, ⟨1, 2⟩⟩, ⟨⟨38, 39⟩, ⟨0, 1⟩⟩], [6], [], 30, 12⟩,
  ⟨[⟨⟨40, 42⟩, ⟨0, 3⟩⟩, ⟨⟨38, 39⟩, ⟨0, 1⟩⟩], [6], [], 30, 12⟩, ⟨six, [6], [], 30, 31⟩, ⟨six, [6], [], -1, 12⟩, ⟨six, [6], [], 30, 20⟩, rdBook [6, 6] [], rdBook [0] [], rdBook [13] [], rdBook [1, 2, 3, 4, 5] [],
  rdBook [] [⟨2, 0, 0, 0⟩], rdBook [] [⟨0, 13, 0, 0⟩], rdBook [] [⟨0, 0, 201, 0⟩], rdBook [] [⟨0, 0, 0, 6⟩], rdBook [] (List.replicate 9 ⟨0, 0, 0, 0⟩)]
end Go.Di

namespace Go.Di
theorem bookL_fn : FnOk Proofs.Tryd.prog (mk Proofs.Tryd.prog (lookN typesK) glob 15) 63 (body Proofs.Tryd.f63) [.cell 4 26] := ⟨Proofs.Tryd.f63, by kernel_rfl, by kernel_rfl, by kernel_rfl, by kernel_rfl, by kernel_rfl⟩
theorem ownL_fn : FnOk Proofs.Tryd.prog (mk Proofs.Tryd.prog (lookN typesK) glob 3) 62 (body Proofs.Tryd.f62) [.cell 0 26] := ⟨Proofs.Tryd.f62, by kernel_rfl, by kernel_rfl, by kernel_rfl, by kernel_rfl, by kernel_rfl⟩
theorem ownL_full  :
    callF (mk Proofs.Tryd.prog (lookN typesK) glob 3) [] [(2, fullD ownB)] [] (body Proofs.Tryd.f62) [.cell 0 26] [] =
      some ([Contract Proofs.Tryd.prog glob 63 [D.sl false E.int [(6 : Int)], D.sl false E.sv []] (D.agg [D.sl true E.sec (Book.secs ownB), D.sl false E.int (Book.turns ownB), D.sl false E.sv (Book.svs ownB), D.int .i64 (Book.rule ownB), D.int .i64 (Book.days ownB)])], D.agg [D.sl true E.sec (Book.secs ownB), D.sl false E.int (Book.turns ownB), D.sl false E.sv (Book.svs ownB), D.int .i64 (Book.rule ownB), D.int .i64 (Book.days ownB)]) := by kernel_rfl
theorem bookL_live (turns : List Int) (svs : List Sv) :
    callL (mk Proofs.Tryd.prog (lookN typesK) glob 15) [] [(5, spD ⟨40, 42⟩), (6, spD ⟨1, 2⟩), (7, .agg [.int .i64 40, .int .i64 42, .int .i64 1, .int .i64 2]), (8, spD ⟨38, 39⟩), (9, spD ⟨0, 1⟩), (10, .agg [.int .i64 38, .int .i64 39, .int .i64 0, .int .i64 1]), (11, .row 0 0)] [] (body Proofs.Tryd.f63) 4 26 11 [.sl false .int turns, .sl false .sv svs] =
      some ([Contract Proofs.Tryd.prog glob 61 [D.int .i64 (40 : Int), D.int .i64 (42 : Int)] (D.agg [D.int .i64 (Span.lo (Span.mk (40 : Int) (42 : Int))), D.int .i64 (Span.hi (Span.mk (40 : Int) (42 : Int)))]), Contract Proofs.Tryd.prog glob 61 [D.int .i64 (1 : Int), D.int .i64 (2 : Int)] (D.agg [D.int .i64 (Span.lo (Span.mk (1 : Int) (2 : Int))), D.int .i64 (Span.hi (Span.mk (1 : Int) (2 : Int)))]), Contract Proofs.Tryd.prog glob 67 [D.agg [D.int .i64 (Span.lo (Span.mk (40 : Int) (42 : Int))), D.int .i64 (Span.hi (Span.mk (40 : Int) (42 : Int)))], D.agg [D.int .i64 (Span.lo (Span.mk (1 : Int) (2 : Int))), D.int .i64 (Span.hi (Span.mk (1 : Int) (2 : Int)))]] (D.agg [D.int .i64 (40 : Int), D.int .i64 (42 : Int), D.int .i64 (1 : Int), D.int .i64 (2 : Int)]), Contract Proofs.Tryd.prog glob 61 [D.int .i64 (38 : Int), D.int .i64 (39 : Int)] (D.agg [D.int .i64 (Span.lo (Span.mk (38 : Int) (39 : Int))), D.int .i64 (Span.hi (Span.mk (38 : Int) (39 : Int)))]), Contract Proofs.Tryd.prog glob 61 [D.int .i64 (0 : Int), D.int .i64 (1 : Int)] (D.agg [D.int .i64 (Span.lo (Span.mk (0 : Int) (1 : Int))), D.int .i64 (Span.hi (Span.mk (0 : Int) (1 : Int)))]), Contract Proofs.Tryd.prog glob 67 [D.agg [D.int .i64 (Span.lo (Span.mk (38 : Int) (39 : Int))), D.int .i64 (Span.hi (Span.mk (38 : Int) (39 : Int)))], D.agg [D.int .i64 (Span.lo (Span.mk (0 : Int) (1 : Int))), D.int .i64 (Span.hi (Span.mk (0 : Int) (1 : Int)))]] (D.agg [D.int .i64 (38 : Int), D.int .i64 (39 : Int), D.int .i64 (0 : Int), D.int .i64 (1 : Int)])], [D.row 0 2, D.sl false E.int turns, D.sl false E.sv svs, D.int .i64 (30 : Int), D.int .i64 (12 : Int)], [D.int .i64 (40 : Int), D.int .i64 (42 : Int), D.int .i64 (1 : Int), D.int .i64 (2 : Int), D.int .i64 (38 : Int), D.int .i64 (39 : Int), D.int .i64 (0 : Int), D.int .i64 (1 : Int)]) := by kernel_rfl
theorem ownL_live  :
    callL (mk Proofs.Tryd.prog (lookN typesK) glob 3) [] [(2, .tup [.undef, .agg (liveCs [6] []), .agg liveSecs])] [] (body Proofs.Tryd.f62) 0 26 2 [] =
      some ([ContractL Proofs.Tryd.prog glob 63 [D.sl false E.int [(6 : Int)], D.sl false E.sv []] [D.row 0 2, D.sl false E.int [(6 : Int)], D.sl false E.sv [], D.int .i64 (30 : Int), D.int .i64 (12 : Int)] [D.int .i64 (40 : Int), D.int .i64 (42 : Int), D.int .i64 (1 : Int), D.int .i64 (2 : Int), D.int .i64 (38 : Int), D.int .i64 (39 : Int), D.int .i64 (0 : Int), D.int .i64 (1 : Int)]], [D.row 0 2, D.sl false E.int [(6 : Int)], D.sl false E.sv [], D.int .i64 (30 : Int), D.int .i64 (12 : Int)], [D.int .i64 (40 : Int), D.int .i64 (42 : Int), D.int .i64 (1 : Int), D.int .i64 (2 : Int), D.int .i64 (38 : Int), D.int .i64 (39 : Int), D.int .i64 (0 : Int), D.int .i64 (1 : Int)]) := by kernel_rfl
end Go.Di

