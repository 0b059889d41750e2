/- Part 17: an interpreter over plain data for this code, with the proof that it says what the model does, and the contracts of the functions. No condition. -/
import Derived.Test.YtfkmodcjddfeiaaDoorDi16
set_option linter.unusedVariables false
set_option linter.unusedSimpArgs false
namespace Go.Di
open Go.RowKit

theorem Contract.toArgs {P : Program} {glob : Nat → Option (List D)} {f : FuncId} {args args' : List D} {r : D} (h : Contract P glob f args r) (hr : ∀ R w vs, All2 (Rel R w) args' vs → All2 (Rel R w) args vs) : Contract P glob f args' r :=
  ⟨h.form, fun w R vs hs hg ha => h.calls w R vs hs hg (hr R w vs ha)⟩
theorem Contract.toRes {P : Program} {glob : Nat → Option (List D)} {f : FuncId} {args : List D} {r r' : D} (h : Contract P glob f args r) (hr : ∀ R w v, Rel R w r v → Rel R w r' v) : Contract P glob f args r' :=
  ⟨h.form, fun w R vs hs hg ha => (h.calls w R vs hs hg ha).mono fun e w' ⟨v, he, hb, R', h1, h2, h3⟩ => ⟨v, he, hb, R', h1, h2, hr _ _ _ h3⟩⟩

/-- The last cell of a book without truths. -/
theorem nil_trc {R : Foot} {w : World} {b : Book} {m : D} {v : Value} (h : Rel R w (.agg (bkC b m .nil)) v) : Rel R w (.agg (bkC b m (.sl false .trc []))) v := by
  obtain ⟨vs, hv, h⟩ := h
  have hlen : (bkC b m (.sl false .trc [])).length = vs.toList.length := by have := All2.length h; exact this
  refine ⟨vs, hv, All2.of_get hlen fun i d u hd hu => ?_⟩
  have hi : i < 7 := (List.getElem?_eq_some_iff.1 hd).1
  by_cases h6 : i = 6
  · subst h6
    cases hd
    obtain ⟨u', hu', hr⟩ := All2.get h 6 .nil rfl
    rw [hu] at hu'
    cases hu'
    have hr : u = .slice none 0 0 := hr
    rw [hr]
    exact sl_nil _ _ _ _ _
  · have hd' : (bkC b m .nil)[i]? = some d := by
      match i, hi, h6, hd with
      | 0, _, _, hd => exact hd
      | 1, _, _, hd => exact hd
      | 2, _, _, hd => exact hd
      | 3, _, _, hd => exact hd
      | 4, _, _, hd => exact hd
      | 5, _, _, hd => exact hd
      | n + 6, hi, h6, _ => omega
    obtain ⟨u', hu', hr⟩ := All2.get h i d hd'
    rw [hu] at hu'
    cases hu'
    exact hr

theorem getD_mem {α : Type} (l : List α) (i : Nat) (d : α) (h : i < l.length) : l.getD i d ∈ l := by
  rw [List.getD_eq_getElem?_getD, List.getElem?_eq_getElem h]
  exact List.getElem_mem h

/-- All surveys of a place and a day, together. -/
def openStep (but : List Int) (l : List Ent) (i : Nat) (y : Sv) : List Ent :=
  if (i : Int) ∈ but then l else updK l (y.s, y.d) (match lookK l (y.s, y.d) with
    | some old => bothF old ⟨y.r - y.e, y.r + y.e⟩
    | none => ⟨y.r - y.e, y.r + y.e⟩)
def openTo (b : Book) (but : List Int) : Nat → List Ent
  | 0 => [((-1, -1), ⟨0, 0⟩)]
  | k + 1 => openStep but (openTo b but k) k (svZ b k)
def openF (b : Book) (but : List Int) : List Ent := openTo b but b.svs.length

theorem plain72 : Cfg.plain (mk Proofs.Tryd.prog (lookN types) glob 72) := ⟨fun _ h => h, fun _ h => h, rfl⟩

structure SvOk (y : Sv) : Prop where
  d : y.d ≤ 1000
  r : -100000 ≤ y.r ∧ y.r ≤ 100000
  e : -100000 ≤ y.e ∧ y.e ≤ 100000

theorem opened_loop (b : Book) (but : List Int) (hb : but.length ≤ 100000) (hs : b.svs.length ≤ 100000) (hsv : ∀ y ∈ b.svs, SvOk y) :
    WpL Proofs.Tryd.prog (mk Proofs.Tryd.prog (lookN types) glob 72) (.block 0 (.loop (Code.at [1, 1, 0, 1, 0, 0] (body Proofs.Tryd.f119)))) (opS b but (openTo b but 0) 0) (fun e L' => e = .normal ∧ L' = opE b (openF b but)) := by
  have hcon := fun (v : Int) => contains_con but v (by omega)
  refine WpL.block (WpL.loop (S := fun i : {i : Nat // i ≤ b.svs.length} => opS b but (openTo b but i.1) i.1) (fun i => b.svs.length - i.1) ?_ ⟨0, Nat.zero_le _⟩)
  rintro ⟨i, hi⟩
  dsimp only
  by_cases hlt : i < b.svs.length
  · have hy : SvOk (svZ b i) := hsv _ (getD_mem _ _ _ hlt)
    obtain ⟨_, ⟨r1, r2⟩, ⟨e1, e2⟩⟩ := hy
    have hgo : WpL Proofs.Tryd.prog (mk Proofs.Tryd.prog (lookN types) glob 72) (Code.at [1, 1, 0, 1, 0, 0] (body Proofs.Tryd.f119)) (opS b but (openTo b but i) i) (fun e L' => e = .normal ∧ L' = opS b but (openTo b but (i + 1)) (i + 1)) := by
      have hst : openTo b but (i + 1) = openStep but (openTo b but i) i (svZ b i) := rfl
      rw [hst]
      unfold openStep
      have hc := hcon i
      by_cases hm : (i : Int) ∈ but
      · rw [decide_eq_true hm] at hc
        rw [if_pos hm]
        exact WpL.path (G 72) (op_skip b but _ i) ⟨decide_eq_true (by omega), ⟨by omega, by omega⟩, by omega, hc, rfl, by simp only [inI64]; omega, trivial⟩ ⟨rfl, rfl⟩
      · rw [decide_eq_false hm] at hc
        rw [if_neg hm]
        cases hl : lookK (openTo b but i) ((svZ b i).s, (svZ b i).d) with
        | none =>
          exact WpL.path (G 72) (op_new b but _ i) ⟨decide_eq_true (by omega), ⟨by omega, by omega⟩, by omega, hc, by omega, by omega, by omega, by omega, by simp only [inI64]; omega, by omega, by omega, by simp only [inI64]; omega, by omega, by rw [hl]; rfl, by omega, by omega, plain72, by simp only [inI64]; omega, trivial⟩ ⟨rfl, rfl⟩
        | some old =>
          have hbo := both_con old ⟨(svZ b i).r - (svZ b i).e, (svZ b i).r + (svZ b i).e⟩
          exact WpL.path (G 72) (op_old b but _ i (bothF old ⟨(svZ b i).r - (svZ b i).e, (svZ b i).r + (svZ b i).e⟩)) ⟨decide_eq_true (by omega), ⟨by omega, by omega⟩, by omega, hc, by omega, by omega, by omega, by omega, by simp only [inI64]; omega, by omega, by omega, by simp only [inI64]; omega, by omega, by rw [hl]; rfl, by omega, by omega, by rw [hl]; exact hbo, by omega, by omega, plain72, by simp only [inI64]; omega, trivial⟩ ⟨rfl, rfl⟩
    refine hgo.mono fun e L' hL => ?_
    obtain ⟨rfl, rfl⟩ := hL
    exact ⟨⟨i + 1, hlt⟩, rfl, by dsimp only; omega⟩
  · have hie : i = b.svs.length := by omega
    refine WpL.path (G 72) (op_end b but _ i) ⟨decide_eq_false (by omega), trivial⟩ ?_
    show (if 0 = 0 then _ else _)
    rw [if_pos rfl]
    exact ⟨rfl, by rw [hie]; rfl⟩

theorem mx_in {a b lo hi : Int} (ha : lo ≤ a ∧ a ≤ hi) (hb : lo ≤ b ∧ b ≤ hi) : lo ≤ mx a b ∧ mx a b ≤ hi := by unfold mx; split <;> omega
theorem mn_in {a b lo hi : Int} (ha : lo ≤ a ∧ a ≤ hi) (hb : lo ≤ b ∧ b ≤ hi) : lo ≤ mn a b ∧ mn a b ≤ hi := by unfold mn; split <;> omega
theorem updK_ok {p : Ent → Prop} : ∀ {l : List Ent} {k : K2} {v : Span}, (∀ e ∈ l, p e) → p (k, v) → ∀ e ∈ updK l k v, p e
  | [], k, v, _, h => by simpa [updK] using h
  | (k', u) :: l, k, v, hl, h => by
    intro e he
    simp only [updK] at he
    split at he
    · rcases List.mem_cons.1 he with rfl | he
      · exact h
      · exact hl e (by simp [he])
    · rcases List.mem_cons.1 he with rfl | he
      · exact hl _ (by simp)
      · exact updK_ok (fun e he => hl e (by simp [he])) h e he
theorem lookK_ok {p : Ent → Prop} : ∀ {l : List Ent} {k : K2} {v : Span}, (∀ e ∈ l, p e) → lookK l k = some v → p (k, v)
  | (k', u) :: l, k, v, hl, h => by
    simp only [lookK] at h
    split at h
    · rename_i hk
      cases h
      subst hk
      exact hl _ (by simp)
    · exact lookK_ok (fun e he => hl e (by simp [he])) h
theorem openTo_ok (b : Book) (but : List Int) (hsv : ∀ y ∈ b.svs, SvOk y) : ∀ k, k ≤ b.svs.length → ∀ e ∈ openTo b but k, EntOk e
  | 0, _ => by
    intro e he
    simp only [openTo, List.mem_singleton] at he
    subst he
    exact ⟨by decide, by decide, by decide⟩
  | k + 1, hk => by
    have ih := openTo_ok b but hsv k (by omega)
    have hy : SvOk (svZ b k) := hsv _ (getD_mem _ _ _ hk)
    obtain ⟨d1, ⟨r1, r2⟩, ⟨e1, e2⟩⟩ := hy
    show ∀ e ∈ openStep but (openTo b but k) k (svZ b k), EntOk e
    unfold openStep
    split
    · exact ih
    · refine updK_ok ih ?_
      split
      · rename_i old hold
        obtain ⟨_, o1, o2⟩ := lookK_ok ih hold
        refine ⟨d1, ?_, ?_⟩
        · exact mx_in o1 (by dsimp only; omega)
        · exact mn_in o2 (by dsimp only; omega)
      · exact ⟨d1, by dsimp only; omega, by dsimp only; omega⟩

/-- What is asked of a book. -/
structure BookOk (b : Book) : Prop where
  secs : b.secs.length ≤ 4
  turns : b.turns.length ≤ 1000
  svs : b.svs.length ≤ 100000
  sv : ∀ y ∈ b.svs, SvOk y
  wear : ∀ p < b.secs.length, 0 ≤ (b.secs.getD p sec0).w.lo ∧ -1 ≤ (b.secs.getD p sec0).w.hi ∧ (b.secs.getD p sec0).w.hi ≤ 1000
def truthsF (b : Book) (but : List Int) : List TrC := wholeGo b (openF b but) b.secs.length 0 ⟨0, 0, 0, 0⟩

theorem opened_con (b : Book) (hb : BookOk b) (but : List Int) (hbut : but.length ≤ 100000) (hlen : (truthsF b but).length ≤ 1000000) : Contract Proofs.Tryd.prog glob 119 [bookD b, .sl false .int but] (bkD b (.spot (openF b but)) (truthsF b but)) := by
  have hent := openTo_ok b but hb.sv b.svs.length (Nat.le_refl _)
  have hwh : Contract Proofs.Tryd.prog glob 167 [.agg (bkC b (.map (.spot (openF b but))) .nil)] (opW b (openF b but)) := (whole_con b (.spot (openF b but)) []).toArgs fun R w vs h => by
    obtain ⟨v, l, rfl, h1, h2⟩ := all2_cons h
    exact ⟨nil_trc h1, h2⟩
  have hcode : body Proofs.Tryd.f119 = .seq (Code.at [0] (body Proofs.Tryd.f119)) (.seq (Code.at [1, 0] (body Proofs.Tryd.f119)) (.seq (.seq (Code.at [1, 1, 0, 0] (body Proofs.Tryd.f119)) (.block 0 (.loop (Code.at [1, 1, 0, 1, 0, 0] (body Proofs.Tryd.f119)))))
    (.seq (.seq (Code.at [1, 1, 1, 0, 0] (body Proofs.Tryd.f119)) (.block 2 (.rangeFunc (.tmp 63) #[64] (Code.at [1, 1, 1, 0, 1, 0, 0] (body Proofs.Tryd.f119)) (Code.at [1, 1, 1, 0, 1, 0, 1] (body Proofs.Tryd.f119))))) (Code.at [1, 1, 1, 1] (body Proofs.Tryd.f119))))) := by kernel_rfl
  -- up to the loop over all truths
  have hpre : WpL Proofs.Tryd.prog (mk Proofs.Tryd.prog (lookN types) glob 72) (.seq (Code.at [1, 1, 0, 0] (body Proofs.Tryd.f119)) (.block 0 (.loop (Code.at [1, 1, 0, 1, 0, 0] (body Proofs.Tryd.f119))))) (opB b but) (fun e L' => e = .normal ∧ L' = opE b (openF b but)) :=
    WpL.seq (WpL.path (G 72) (op_2 b but) trivial (opened_loop b but hbut hb.svs hb.sv))
  have hstart : WpL Proofs.Tryd.prog (mk Proofs.Tryd.prog (lookN types) glob 72) (Code.at [1, 1, 1, 0, 0] (body Proofs.Tryd.f119)) (opE b (openF b but)) (fun e L' => e = .normal ∧ L' = (.tmp 63, .d (opW b (openF b but))) :: opR b (openF b but) []) :=
    WpL.tell (fun _ h => h) (j := 14) (m := .spot (openF b but)) rfl (WpL.path (G 72) (op_12 b (openF b but)) ⟨hwh, trivial⟩ ⟨rfl, rfl⟩)
  have hgoal : ∀ (r : D), (∀ (ke : Nat → Prop) (w1 : World) (ds : List Deferred), WpL Proofs.Tryd.prog (mkE Proofs.Tryd.prog (lookN types) glob 72 ke w1 ds) (Code.at [1, 1, 1, 1] (body Proofs.Tryd.f119)) (opR b (openF b but) (truthsF b but)) (fun e L' => e = .ret ∧ ∃ ps, fin (mkE Proofs.Tryd.prog (lookN types) glob 72 ke w1 ds) [.cell 4 129] (ofL L') = some (ps, r) ∧ allP ps)) →
      Contract Proofs.Tryd.prog glob 119 [bookD b, .sl false .int but] r := by
    intro r hend
    refine contract_of_marks types_ok op_fn ?_
    intro w0 R0 a Q hH hQ
    rw [hcode]
    refine wpIn_seq (WpL.path (G 72) (op_0 b but) trivial (Post := fun e L' => e = .normal ∧ L' = opA b but) ⟨rfl, rfl⟩ w0 R0 a w0 _ none 1 (fun _ => rfl) hH fun e L' a1 W1 hp hH1 => ?_)
    obtain ⟨rfl, rfl⟩ := hp
    show Code.wpIn _ _ _ _ _ _ _
    refine wpIn_seq (WpL.path (G 72) (op_1 b but) ⟨plain72, by omega, plain72, trivial⟩ (Post := fun e L' => e = .normal ∧ L' = opB b but) ⟨rfl, rfl⟩ w0 R0 a1 W1 _ none 1 (fun _ => rfl) hH1 fun e L' a2 W2 hp hH2 => ?_)
    obtain ⟨rfl, rfl⟩ := hp
    show Code.wpIn _ _ _ _ _ _ _
    refine wpIn_seq (hpre w0 R0 a2 W2 _ none 1 (fun _ => rfl) hH2 fun e L' a3 W3 hp hH3 => ?_)
    obtain ⟨rfl, rfl⟩ := hp
    show Code.wpIn _ _ _ _ _ _ _
    refine wpIn_seq (wpIn_seq (hstart w0 R0 a3 W3 _ none 1 (fun _ => rfl) hH3 fun e L' a4 W4 hp hH4 => ?_))
    obtain ⟨rfl, rfl⟩ := hp
    show Code.wpIn _ _ _ _ _ _ _
    refine range_frame (tt := lookN types) (glob := glob) (n := 72) (gf := 192) (caps := [cellsOf (bkD b (.spot (openF b but)) [])]) (Told := fun _ => ToldT) (xs := truthsF b but) (S := opR b (openF b but)) (S1 := opR1 b (openF b but)) (fx := [4, 5]) (dx := trD) (L := (.tmp 63, .d (opW b (openF b but))) :: opR b (openF b but) []) (ks := opRK0)
      ?_ ⟨Proofs.Tryd.f192, by kernel_rfl, by kernel_rfl, by kernel_rfl⟩ ?_ (by decide) (by decide) ?_ ?_ ?_ ?_ rfl (by kernel_rfl) (by kernel_rfl) (fun k => by rfl) ?_ hH4 ?_
    · intro KE R w lb h1 h2 h3 h4
      obtain ⟨p1, m, e1, h5, h6⟩ := all2_cons h4
      obtain rfl := all2_nil h6
      have hlb : lb = #[p1] := by rw [← Array.toArray_toList (xs := lb), e1]
      subst hlb
      obtain ⟨bb, oo, hp, hr⟩ := h5
      refine whole_seq (ts := []) hb.secs hb.turns hent hb.wear h1 h2 ⟨bb, oo, by rw [hp]; simp, fun j d hd => ?_⟩ h3
      obtain ⟨u, q1, q2, q3⟩ := hr j d hd
      exact ⟨u, RelC.of0 q1, q2, q3⟩
    · rintro R T x vs W rfl
      exact ⟨trV x, fun _ _ => False, rfl, fun _ _ h => h.elim, ⟨_, rfl, rfl, rfl, rfl, rfl, rfl, rfl, rfl, rfl, rfl, rfl, rfl, rfl, trivial⟩⟩
    · intro pre i hi
      cases pre with
      | nil => exact tmpIn_ok (fx := [4, 5]) (by kernel_rfl) i hi
      | cons y r => exact tmpIn_ok (fx := [4, 5]) (by kernel_rfl) i hi
    · intro pre i
      cases pre <;> rfl
    · rintro pre x ke no w1 fv _
      cases pre with
      | nil => exact WpL.path (goodR mixed_ok types_ok) (op_as0 b _ x ke no w1 fv) trivial ⟨rfl, rfl⟩
      | cons y r => exact WpL.path (goodR mixed_ok types_ok) (op_as1 b _ y r x ke no w1 fv) trivial ⟨rfl, rfl⟩
    · rintro pre x ke no w1 fv ⟨post, hpost⟩
      have hl : pre.length + 1 ≤ 1000000 := by
        have := congrArg List.length hpost
        simp at this
        omega
      cases pre with
      | nil => exact WpL.path (goodR mixed_ok types_ok) (op_bd0 b _ x ke no w1 fv) ⟨by omega, by decide, rfl, trivial⟩ ⟨rfl, rfl⟩
      | cons y r => exact WpL.path (goodR mixed_ok types_ok) (op_bd1 b _ y r x ke no w1 fv) ⟨by omega, rfl, by simp at hl ⊢; omega, rfl, trivial⟩ ⟨rfl, rfl⟩
    · exact freeIn_ok (by kernel_rfl)
    · intro D a5 W5 hD hH5 hWD
      show Code.wpIn _ _ _ _ _ _ _
      refine hend _ _ _ w0 R0 a5 W5 _ none 1 (fun _ => rfl) hH5 fun e L' a6 W6 hp hH6 => ?_
      obtain ⟨rfl, hfin⟩ := hp
      exact hQ D a6 W6 W5 _ L' hD hH6 hWD hfin (.inr rfl)
  cases ht : truthsF b but with
  | nil =>
    refine (hgoal (.agg (bkC b (.map (.spot (openF b but))) .nil)) ?_).toRes fun R w v h => nil_trc h
    intro ke w1 ds
    rw [ht]
    exact WpL.path (goodE mixed_ok types_ok) (op_150 b _ ke w1 ds) trivial ⟨rfl, [], by kernel_rfl, trivial⟩
  | cons y r =>
    refine hgoal _ ?_
    intro ke w1 ds
    rw [ht]
    exact WpL.path (goodE mixed_ok types_ok) (op_151 b _ y r ke w1 ds) ⟨rfl, trivial⟩ ⟨rfl, [(y :: r).length = (y :: r).length], by kernel_rfl, ⟨rfl, trivial⟩⟩
end Go.Di

namespace Go.Di
theorem asked_fn : FnOk Proofs.Tryd.prog (mk Proofs.Tryd.prog (lookN types) glob 25) 121 (body Proofs.Tryd.f121) [.cell 4 129, .tmp 5] := ⟨Proofs.Tryd.f121, by kernel_rfl, by kernel_rfl, by kernel_rfl, by kernel_rfl, by kernel_rfl⟩
theorem right__fn : FnOk Proofs.Tryd.prog (mk Proofs.Tryd.prog (lookN types) glob 15) 37 (body Proofs.Tryd.f37) [.tmp 2, .tmp 3] := ⟨Proofs.Tryd.f37, by kernel_rfl, by kernel_rfl, by kernel_rfl, by kernel_rfl, by kernel_rfl⟩
theorem thickA_fn : FnOk Proofs.Tryd.prog (mk Proofs.Tryd.prog (lookN types) glob 33) 41 (body Proofs.Tryd.f41) [.cell 6 51, .tmp 7] := ⟨Proofs.Tryd.f41, by kernel_rfl, by kernel_rfl, by kernel_rfl, by kernel_rfl, by kernel_rfl⟩
theorem wear1_fn : FnOk Proofs.Tryd.prog (mk Proofs.Tryd.prog (lookN types) glob 13) 126 (body Proofs.Tryd.f126) [.cell 3 51] := ⟨Proofs.Tryd.f126, by kernel_rfl, by kernel_rfl, by kernel_rfl, by kernel_rfl, by kernel_rfl⟩
theorem wearA_fn : FnOk Proofs.Tryd.prog (mk Proofs.Tryd.prog (lookN types) glob 23) 42 (body Proofs.Tryd.f42) [.cell 4 51, .tmp 5] := ⟨Proofs.Tryd.f42, by kernel_rfl, by kernel_rfl, by kernel_rfl, by kernel_rfl, by kernel_rfl⟩
theorem day0_fn : FnOk Proofs.Tryd.prog (mk Proofs.Tryd.prog (lookN types) glob 33) 127 (body Proofs.Tryd.f127) [.tmp 6, .tmp 7] := ⟨Proofs.Tryd.f127, by kernel_rfl, by kernel_rfl, by kernel_rfl, by kernel_rfl, by kernel_rfl⟩
theorem day1_fn : FnOk Proofs.Tryd.prog (mk Proofs.Tryd.prog (lookN types) glob 33) 127 (body Proofs.Tryd.f127) [.tmp 6, .tmp 7] := ⟨Proofs.Tryd.f127, by kernel_rfl, by kernel_rfl, by kernel_rfl, by kernel_rfl, by kernel_rfl⟩
theorem thinA_fn : FnOk Proofs.Tryd.prog (mk Proofs.Tryd.prog (lookN types) glob 11) 43 (body Proofs.Tryd.f43) [.tmp 4, .tmp 5] := ⟨Proofs.Tryd.f43, by kernel_rfl, by kernel_rfl, by kernel_rfl, by kernel_rfl, by kernel_rfl⟩
theorem goneA_fn : FnOk Proofs.Tryd.prog (mk Proofs.Tryd.prog (lookN types) glob 11) 44 (body Proofs.Tryd.f44) [.tmp 4, .tmp 5] := ⟨Proofs.Tryd.f44, by kernel_rfl, by kernel_rfl, by kernel_rfl, by kernel_rfl, by kernel_rfl⟩
theorem fitsA_fn : FnOk Proofs.Tryd.prog (mk Proofs.Tryd.prog (lookN types) glob 39) 47 (body Proofs.Tryd.f47) [.tmp 4, .tmp 5] := ⟨Proofs.Tryd.f47, by kernel_rfl, by kernel_rfl, by kernel_rfl, by kernel_rfl, by kernel_rfl⟩
theorem asked_bad (b : Book) (is : Bool) (e : Int) :
    callF (mk Proofs.Tryd.prog (lookN types) glob 25) [(11, true)] [(9, .int .i64 e)] [] (body Proofs.Tryd.f121) [.cell 4 129, .tmp 5] [bookD b, .bool is] =
      some ([Contract Proofs.Tryd.prog glob 64 [D.agg [D.sl false E.sec (Book.secs b), D.sl false E.int (Book.turns b), D.sl false E.sv (Book.svs b), D.int .i64 (Book.rule b), D.int .i64 (Book.days b)]] (D.int .i64 e), (e != (0 : Int)) = true], D.tup [D.agg [D.nil, D.nil, D.nil, D.int .i64 (0 : Int), D.int .i64 (0 : Int), D.nilmap, D.nil], D.int .i64 e]) := by kernel_rfl
theorem asked_ask (b : Book) (is : Bool) (e : Int) :
    callF (mk Proofs.Tryd.prog (lookN types) glob 25) [(11, false), (15, true)] [(9, .int .i64 e)] [] (body Proofs.Tryd.f121) [.cell 4 129, .tmp 5] [bookD b, .bool is] =
      some ([Contract Proofs.Tryd.prog glob 64 [D.agg [D.sl false E.sec (Book.secs b), D.sl false E.int (Book.turns b), D.sl false E.sv (Book.svs b), D.int .i64 (Book.rule b), D.int .i64 (Book.days b)]] (D.int .i64 e), (e != (0 : Int)) = false, (!is) = true], D.tup [D.agg [D.nil, D.nil, D.nil, D.int .i64 (0 : Int), D.int .i64 (0 : Int), D.nilmap, D.nil], D.int .i64 (11 : Int)]) := by kernel_rfl
theorem asked_false (b : Book) (is : Bool) (e : Int) (m : Mp) (ts : List TrC) :
    callF (mk Proofs.Tryd.prog (lookN types) glob 25) [(11, false), (15, false), (22, true)] [(9, .int .i64 e), (18, bkD b m ts)] [] (body Proofs.Tryd.f121) [.cell 4 129, .tmp 5] [bookD b, .bool is] =
      some ([Contract Proofs.Tryd.prog glob 64 [D.agg [D.sl false E.sec (Book.secs b), D.sl false E.int (Book.turns b), D.sl false E.sv (Book.svs b), D.int .i64 (Book.rule b), D.int .i64 (Book.days b)]] (D.int .i64 e), (e != (0 : Int)) = false, (!is) = false, Contract Proofs.Tryd.prog glob 119 [D.agg [D.sl false E.sec (Book.secs b), D.sl false E.int (Book.turns b), D.sl false E.sv (Book.svs b), D.int .i64 (Book.rule b), D.int .i64 (Book.days b)], D.sl false E.int []] (D.agg [D.sl false E.sec (Book.secs b), D.sl false E.int (Book.turns b), D.sl false E.sv (Book.svs b), D.int .i64 (Book.rule b), D.int .i64 (Book.days b), D.map m, D.sl false E.trc ts]), ((Nat.cast : Nat → Int) (List.length ts) == (0 : Int)) = true], D.tup [D.agg [D.sl false E.sec (Book.secs b), D.sl false E.int (Book.turns b), D.sl false E.sv (Book.svs b), D.int .i64 (Book.rule b), D.int .i64 (Book.days b), D.map m, D.sl false E.trc ts], D.int .i64 (12 : Int)]) := by kernel_rfl
theorem asked_ok (b : Book) (is : Bool) (e : Int) (m : Mp) (ts : List TrC) :
    callF (mk Proofs.Tryd.prog (lookN types) glob 25) [(11, false), (15, false), (22, false)] [(9, .int .i64 e), (18, bkD b m ts)] [] (body Proofs.Tryd.f121) [.cell 4 129, .tmp 5] [bookD b, .bool is] =
      some ([Contract Proofs.Tryd.prog glob 64 [D.agg [D.sl false E.sec (Book.secs b), D.sl false E.int (Book.turns b), D.sl false E.sv (Book.svs b), D.int .i64 (Book.rule b), D.int .i64 (Book.days b)]] (D.int .i64 e), (e != (0 : Int)) = false, (!is) = false, Contract Proofs.Tryd.prog glob 119 [D.agg [D.sl false E.sec (Book.secs b), D.sl false E.int (Book.turns b), D.sl false E.sv (Book.svs b), D.int .i64 (Book.rule b), D.int .i64 (Book.days b)], D.sl false E.int []] (D.agg [D.sl false E.sec (Book.secs b), D.sl false E.int (Book.turns b), D.sl false E.sv (Book.svs b), D.int .i64 (Book.rule b), D.int .i64 (Book.days b), D.map m, D.sl false E.trc ts]), ((Nat.cast : Nat → Int) (List.length ts) == (0 : Int)) = false], D.tup [D.agg [D.sl false E.sec (Book.secs b), D.sl false E.int (Book.turns b), D.sl false E.sv (Book.svs b), D.int .i64 (Book.rule b), D.int .i64 (Book.days b), D.map m, D.sl false E.trc ts], D.int .i64 (0 : Int)]) := by kernel_rfl
theorem right__bad (b : Book) (e : Int) :
    callF (mk Proofs.Tryd.prog (lookN types) glob 15) [(8, true)] [(6, .int .i64 e)] [] (body Proofs.Tryd.f37) [.tmp 2, .tmp 3] [bookD b] =
      some ([Contract Proofs.Tryd.prog glob 64 [D.agg [D.sl false E.sec (Book.secs b), D.sl false E.int (Book.turns b), D.sl false E.sv (Book.svs b), D.int .i64 (Book.rule b), D.int .i64 (Book.days b)]] (D.int .i64 e), (e != (0 : Int)) = true], D.tup [D.bool false, D.int .i64 e]) := by kernel_rfl
theorem right__ok (b : Book) (e : Int) (m : Mp) (ts : List TrC) :
    callF (mk Proofs.Tryd.prog (lookN types) glob 15) [(8, false)] [(6, .int .i64 e), (11, bkD b m ts)] [] (body Proofs.Tryd.f37) [.tmp 2, .tmp 3] [bookD b] =
      some ([Contract Proofs.Tryd.prog glob 64 [D.agg [D.sl false E.sec (Book.secs b), D.sl false E.int (Book.turns b), D.sl false E.sv (Book.svs b), D.int .i64 (Book.rule b), D.int .i64 (Book.days b)]] (D.int .i64 e), (e != (0 : Int)) = false, Contract Proofs.Tryd.prog glob 119 [D.agg [D.sl false E.sec (Book.secs b), D.sl false E.int (Book.turns b), D.sl false E.sv (Book.svs b), D.int .i64 (Book.rule b), D.int .i64 (Book.days b)], D.sl false E.int []] (D.agg [D.sl false E.sec (Book.secs b), D.sl false E.int (Book.turns b), D.sl false E.sv (Book.svs b), D.int .i64 (Book.rule b), D.int .i64 (Book.days b), D.map m, D.sl false E.trc ts])], D.tup [D.bool (decide ((Nat.cast : Nat → Int) (List.length ts) > (0 : Int))), D.int .i64 (0 : Int)]) := by kernel_rfl
theorem thickA_no (b : Book) (s d : Int) (e : Int) :
    callF (mk Proofs.Tryd.prog (lookN types) glob 33) [(15, false), (24, true)] [(14, .bool (isSectionF b s)), (18, .bool (isDayF b d)), (20, .tup [zbookD, .int .i64 e])] [] (body Proofs.Tryd.f41) [.cell 6 51, .tmp 7] [bookD b, .int .i64 s, .int .i64 d] =
      some ([Contract Proofs.Tryd.prog glob 124 [D.agg [D.sl false E.sec (Book.secs b), D.sl false E.int (Book.turns b), D.sl false E.sv (Book.svs b), D.int .i64 (Book.rule b), D.int .i64 (Book.days b)], D.int .i64 s] (D.bool (isSectionF b s)), isSectionF b s = false, isSectionF b s = false, isSectionF b s = false, isSectionF b s = false, Contract Proofs.Tryd.prog glob 121 [D.agg [D.sl false E.sec (Book.secs b), D.sl false E.int (Book.turns b), D.sl false E.sv (Book.svs b), D.int .i64 (Book.rule b), D.int .i64 (Book.days b)], D.bool false] (D.tup [D.agg [D.nil, D.nil, D.nil, D.int .i64 (0 : Int), D.int .i64 (0 : Int), D.nilmap, D.nil], D.int .i64 e]), (e != (0 : Int)) = true, 0 + 2 ≤ 2], D.tup [D.agg [D.int .i64 (0 : Int), D.int .i64 (0 : Int)], D.int .i64 e]) := by kernel_rfl
theorem thickA_err (b : Book) (s d : Int) (e : Int) :
    callF (mk Proofs.Tryd.prog (lookN types) glob 33) [(15, true), (24, true)] [(14, .bool (isSectionF b s)), (18, .bool (isDayF b d)), (20, .tup [zbookD, .int .i64 e])] [] (body Proofs.Tryd.f41) [.cell 6 51, .tmp 7] [bookD b, .int .i64 s, .int .i64 d] =
      some ([Contract Proofs.Tryd.prog glob 124 [D.agg [D.sl false E.sec (Book.secs b), D.sl false E.int (Book.turns b), D.sl false E.sv (Book.svs b), D.int .i64 (Book.rule b), D.int .i64 (Book.days b)], D.int .i64 s] (D.bool (isSectionF b s)), isSectionF b s = true, isSectionF b s = true, isSectionF b s = true, Contract Proofs.Tryd.prog glob 122 [D.agg [D.sl false E.sec (Book.secs b), D.sl false E.int (Book.turns b), D.sl false E.sv (Book.svs b), D.int .i64 (Book.rule b), D.int .i64 (Book.days b)], D.int .i64 d] (D.bool (isDayF b d)), isSectionF b s = true, Contract Proofs.Tryd.prog glob 121 [D.agg [D.sl false E.sec (Book.secs b), D.sl false E.int (Book.turns b), D.sl false E.sv (Book.svs b), D.int .i64 (Book.rule b), D.int .i64 (Book.days b)], D.bool (isDayF b d)] (D.tup [D.agg [D.nil, D.nil, D.nil, D.int .i64 (0 : Int), D.int .i64 (0 : Int), D.nilmap, D.nil], D.int .i64 e]), (e != (0 : Int)) = true, 0 + 2 ≤ 2], D.tup [D.agg [D.int .i64 (0 : Int), D.int .i64 (0 : Int)], D.int .i64 e]) := by kernel_rfl
theorem thickA_false (b : Book) (s d : Int) (m : Mp) :
    callF (mk Proofs.Tryd.prog (lookN types) glob 33) [(15, true)] [(14, .bool (isSectionF b s)), (18, .bool (isDayF b d)), (20, .tup [bkD b m [], .int .i64 12])] [] (body Proofs.Tryd.f41) [.cell 6 51, .tmp 7] [bookD b, .int .i64 s, .int .i64 d] =
      some ([Contract Proofs.Tryd.prog glob 124 [D.agg [D.sl false E.sec (Book.secs b), D.sl false E.int (Book.turns b), D.sl false E.sv (Book.svs b), D.int .i64 (Book.rule b), D.int .i64 (Book.days b)], D.int .i64 s] (D.bool (isSectionF b s)), isSectionF b s = true, isSectionF b s = true, isSectionF b s = true, Contract Proofs.Tryd.prog glob 122 [D.agg [D.sl false E.sec (Book.secs b), D.sl false E.int (Book.turns b), D.sl false E.sv (Book.svs b), D.int .i64 (Book.rule b), D.int .i64 (Book.days b)], D.int .i64 d] (D.bool (isDayF b d)), isSectionF b s = true, Contract Proofs.Tryd.prog glob 121 [D.agg [D.sl false E.sec (Book.secs b), D.sl false E.int (Book.turns b), D.sl false E.sv (Book.svs b), D.int .i64 (Book.rule b), D.int .i64 (Book.days b)], D.bool (isDayF b d)] (D.tup [D.agg [D.sl false E.sec (Book.secs b), D.sl false E.int (Book.turns b), D.sl false E.sv (Book.svs b), D.int .i64 (Book.rule b), D.int .i64 (Book.days b), D.map m, D.sl false E.trc []], D.int .i64 (12 : Int)]), 0 + 2 ≤ 2], D.tup [D.agg [D.int .i64 (0 : Int), D.int .i64 (0 : Int)], D.int .i64 (12 : Int)]) := by kernel_rfl
theorem thickA_ok (b : Book) (s d : Int) (m : Mp) (ts : List TrC) (o : Span) :
    callF (mk Proofs.Tryd.prog (lookN types) glob 33) [(15, true)] [(14, .bool (isSectionF b s)), (18, .bool (isDayF b d)), (20, .tup [bkD b m ts, .int .i64 0]), (32, spD o)] [] (body Proofs.Tryd.f41) [.cell 6 51, .tmp 7] [bookD b, .int .i64 s, .int .i64 d] =
      some ([Contract Proofs.Tryd.prog glob 124 [D.agg [D.sl false E.sec (Book.secs b), D.sl false E.int (Book.turns b), D.sl false E.sv (Book.svs b), D.int .i64 (Book.rule b), D.int .i64 (Book.days b)], D.int .i64 s] (D.bool (isSectionF b s)), isSectionF b s = true, isSectionF b s = true, isSectionF b s = true, Contract Proofs.Tryd.prog glob 122 [D.agg [D.sl false E.sec (Book.secs b), D.sl false E.int (Book.turns b), D.sl false E.sv (Book.svs b), D.int .i64 (Book.rule b), D.int .i64 (Book.days b)], D.int .i64 d] (D.bool (isDayF b d)), isSectionF b s = true, Contract Proofs.Tryd.prog glob 121 [D.agg [D.sl false E.sec (Book.secs b), D.sl false E.int (Book.turns b), D.sl false E.sv (Book.svs b), D.int .i64 (Book.rule b), D.int .i64 (Book.days b)], D.bool (isDayF b d)] (D.tup [D.agg [D.sl false E.sec (Book.secs b), D.sl false E.int (Book.turns b), D.sl false E.sv (Book.svs b), D.int .i64 (Book.rule b), D.int .i64 (Book.days b), D.map m, D.sl false E.trc ts], D.int .i64 (0 : Int)]), Contract Proofs.Tryd.prog glob 123 [D.agg [D.sl false E.sec (Book.secs b), D.sl false E.int (Book.turns b), D.sl false E.sv (Book.svs b), D.int .i64 (Book.rule b), D.int .i64 (Book.days b), D.map m, D.sl false E.trc ts], D.int .i64 s, D.int .i64 d, D.sl false E.int (Book.turns b)] (D.agg [D.int .i64 (Span.lo o), D.int .i64 (Span.hi o)]), 0 + 2 ≤ 2], D.tup [D.agg [D.int .i64 (Span.lo o), D.int .i64 (Span.hi o)], D.int .i64 (0 : Int)]) := by kernel_rfl
theorem wear1_all (x : TrC) (p : Int) :
    callF (mk Proofs.Tryd.prog (lookN types) glob 13) [] [] [] (body Proofs.Tryd.f126) [.cell 3 51] [trD x, .ref [.int .i64 p] 0] =
      some ([0 + 1 ≤ 1, (0 : Int) ≤ p ∧ p < (Nat.cast : Nat → Int) 4, 0 + 0 + Int.toNat p * 1 + 1 ≤ 12, 0 + 1 ≤ 1, (0 : Int) ≤ p ∧ p < (Nat.cast : Nat → Int) 4, 0 + 0 + Int.toNat p * 1 + 1 ≤ 12, 0 + 2 ≤ 2], D.agg [D.int .i64 (List.getD [TrC.w0 x, TrC.w1 x, TrC.w2 x, TrC.w3 x, Span.lo (TrC.f0 x), Span.hi (TrC.f0 x), Span.lo (TrC.f1 x), Span.hi (TrC.f1 x), Span.lo (TrC.f2 x), Span.hi (TrC.f2 x), Span.lo (TrC.f3 x), Span.hi (TrC.f3 x)] (0 + 0 + Int.toNat p * 1) (0 : Int)), D.int .i64 (List.getD [TrC.w0 x, TrC.w1 x, TrC.w2 x, TrC.w3 x, Span.lo (TrC.f0 x), Span.hi (TrC.f0 x), Span.lo (TrC.f1 x), Span.hi (TrC.f1 x), Span.lo (TrC.f2 x), Span.hi (TrC.f2 x), Span.lo (TrC.f3 x), Span.hi (TrC.f3 x)] (0 + 0 + Int.toNat p * 1) (0 : Int))]) := by kernel_rfl
theorem wearA_err (b : Book) (p : Int) (e : Int) :
    callF (mk Proofs.Tryd.prog (lookN types) glob 23) [(17, true)] [(12, .bool (isSectionF b p)), (13, .tup [zbookD, .int .i64 e])] [] (body Proofs.Tryd.f42) [.cell 4 51, .tmp 5] [bookD b, .int .i64 p] =
      some ([0 + 1 ≤ 1, Contract Proofs.Tryd.prog glob 124 [D.agg [D.sl false E.sec (Book.secs b), D.sl false E.int (Book.turns b), D.sl false E.sv (Book.svs b), D.int .i64 (Book.rule b), D.int .i64 (Book.days b)], D.int .i64 p] (D.bool (isSectionF b p)), Contract Proofs.Tryd.prog glob 121 [D.agg [D.sl false E.sec (Book.secs b), D.sl false E.int (Book.turns b), D.sl false E.sv (Book.svs b), D.int .i64 (Book.rule b), D.int .i64 (Book.days b)], D.bool (isSectionF b p)] (D.tup [D.agg [D.nil, D.nil, D.nil, D.int .i64 (0 : Int), D.int .i64 (0 : Int), D.nilmap, D.nil], D.int .i64 e]), (e != (0 : Int)) = true, 0 + 2 ≤ 2], D.tup [D.agg [D.int .i64 (0 : Int), D.int .i64 (0 : Int)], D.int .i64 e]) := by kernel_rfl
theorem wearA_false (b : Book) (p : Int) (m : Mp) :
    callF (mk Proofs.Tryd.prog (lookN types) glob 23) [] [(12, .bool (isSectionF b p)), (13, .tup [bkD b m [], .int .i64 12])] [] (body Proofs.Tryd.f42) [.cell 4 51, .tmp 5] [bookD b, .int .i64 p] =
      some ([0 + 1 ≤ 1, Contract Proofs.Tryd.prog glob 124 [D.agg [D.sl false E.sec (Book.secs b), D.sl false E.int (Book.turns b), D.sl false E.sv (Book.svs b), D.int .i64 (Book.rule b), D.int .i64 (Book.days b)], D.int .i64 p] (D.bool (isSectionF b p)), Contract Proofs.Tryd.prog glob 121 [D.agg [D.sl false E.sec (Book.secs b), D.sl false E.int (Book.turns b), D.sl false E.sv (Book.svs b), D.int .i64 (Book.rule b), D.int .i64 (Book.days b)], D.bool (isSectionF b p)] (D.tup [D.agg [D.sl false E.sec (Book.secs b), D.sl false E.int (Book.turns b), D.sl false E.sv (Book.svs b), D.int .i64 (Book.rule b), D.int .i64 (Book.days b), D.map m, D.sl false E.trc []], D.int .i64 (12 : Int)]), 0 + 2 ≤ 2], D.tup [D.agg [D.int .i64 (0 : Int), D.int .i64 (0 : Int)], D.int .i64 (12 : Int)]) := by kernel_rfl
theorem wearA_ok (b : Book) (p : Int) (m : Mp) (ts : List TrC) (o : Span) :
    callF (mk Proofs.Tryd.prog (lookN types) glob 23) [] [(12, .bool (isSectionF b p)), (13, .tup [bkD b m ts, .int .i64 0]), (22, spD o)] [] (body Proofs.Tryd.f42) [.cell 4 51, .tmp 5] [bookD b, .int .i64 p] =
      some ([0 + 1 ≤ 1, Contract Proofs.Tryd.prog glob 124 [D.agg [D.sl false E.sec (Book.secs b), D.sl false E.int (Book.turns b), D.sl false E.sv (Book.svs b), D.int .i64 (Book.rule b), D.int .i64 (Book.days b)], D.int .i64 p] (D.bool (isSectionF b p)), Contract Proofs.Tryd.prog glob 121 [D.agg [D.sl false E.sec (Book.secs b), D.sl false E.int (Book.turns b), D.sl false E.sv (Book.svs b), D.int .i64 (Book.rule b), D.int .i64 (Book.days b)], D.bool (isSectionF b p)] (D.tup [D.agg [D.sl false E.sec (Book.secs b), D.sl false E.int (Book.turns b), D.sl false E.sv (Book.svs b), D.int .i64 (Book.rule b), D.int .i64 (Book.days b), D.map m, D.sl false E.trc ts], D.int .i64 (0 : Int)]), Contract Proofs.Tryd.prog glob 125 [D.agg [D.sl false E.sec (Book.secs b), D.sl false E.int (Book.turns b), D.sl false E.sv (Book.svs b), D.int .i64 (Book.rule b), D.int .i64 (Book.days b), D.map m, D.sl false E.trc ts], D.fn 126 [] [[D.int .i64 p]]] (D.agg [D.int .i64 (Span.lo o), D.int .i64 (Span.hi o)]), 0 + 2 ≤ 2], D.tup [D.agg [D.int .i64 (Span.lo o), D.int .i64 (Span.hi o)], D.int .i64 (0 : Int)]) := by kernel_rfl
theorem day0_err (b : Book) (s : Int) (e : Int) :
    callF (mk Proofs.Tryd.prog (lookN types) glob 33) [(20, true)] [(15, .bool (isSectionF b s)), (16, .tup [zbookD, .int .i64 e])] [] (body Proofs.Tryd.f127) [.tmp 6, .tmp 7] [bookD b, .int .i64 s, .int .i64 0] =
      some ([Contract Proofs.Tryd.prog glob 124 [D.agg [D.sl false E.sec (Book.secs b), D.sl false E.int (Book.turns b), D.sl false E.sv (Book.svs b), D.int .i64 (Book.rule b), D.int .i64 (Book.days b)], D.int .i64 s] (D.bool (isSectionF b s)), Contract Proofs.Tryd.prog glob 121 [D.agg [D.sl false E.sec (Book.secs b), D.sl false E.int (Book.turns b), D.sl false E.sv (Book.svs b), D.int .i64 (Book.rule b), D.int .i64 (Book.days b)], D.bool (isSectionF b s)] (D.tup [D.agg [D.nil, D.nil, D.nil, D.int .i64 (0 : Int), D.int .i64 (0 : Int), D.nilmap, D.nil], D.int .i64 e]), (e != (0 : Int)) = true], D.tup [D.int .i64 (0 : Int), D.int .i64 e]) := by kernel_rfl
theorem day0_false (b : Book) (s : Int) (m : Mp) :
    callF (mk Proofs.Tryd.prog (lookN types) glob 33) [] [(15, .bool (isSectionF b s)), (16, .tup [bkD b m [], .int .i64 12])] [] (body Proofs.Tryd.f127) [.tmp 6, .tmp 7] [bookD b, .int .i64 s, .int .i64 0] =
      some ([Contract Proofs.Tryd.prog glob 124 [D.agg [D.sl false E.sec (Book.secs b), D.sl false E.int (Book.turns b), D.sl false E.sv (Book.svs b), D.int .i64 (Book.rule b), D.int .i64 (Book.days b)], D.int .i64 s] (D.bool (isSectionF b s)), Contract Proofs.Tryd.prog glob 121 [D.agg [D.sl false E.sec (Book.secs b), D.sl false E.int (Book.turns b), D.sl false E.sv (Book.svs b), D.int .i64 (Book.rule b), D.int .i64 (Book.days b)], D.bool (isSectionF b s)] (D.tup [D.agg [D.sl false E.sec (Book.secs b), D.sl false E.int (Book.turns b), D.sl false E.sv (Book.svs b), D.int .i64 (Book.rule b), D.int .i64 (Book.days b), D.map m, D.sl false E.trc []], D.int .i64 (12 : Int)])], D.tup [D.int .i64 (0 : Int), D.int .i64 (12 : Int)]) := by kernel_rfl
theorem day0_none (b : Book) (s : Int) (m : Mp) (ts : List TrC) (k : Int) :
    callF (mk Proofs.Tryd.prog (lookN types) glob 33) [(31, true)] [(15, .bool (isSectionF b s)), (16, .tup [bkD b m ts, .int .i64 0]), (27, .int .i64 k)] [] (body Proofs.Tryd.f127) [.tmp 6, .tmp 7] [bookD b, .int .i64 s, .int .i64 0] =
      some ([Contract Proofs.Tryd.prog glob 124 [D.agg [D.sl false E.sec (Book.secs b), D.sl false E.int (Book.turns b), D.sl false E.sv (Book.svs b), D.int .i64 (Book.rule b), D.int .i64 (Book.days b)], D.int .i64 s] (D.bool (isSectionF b s)), Contract Proofs.Tryd.prog glob 121 [D.agg [D.sl false E.sec (Book.secs b), D.sl false E.int (Book.turns b), D.sl false E.sv (Book.svs b), D.int .i64 (Book.rule b), D.int .i64 (Book.days b)], D.bool (isSectionF b s)] (D.tup [D.agg [D.sl false E.sec (Book.secs b), D.sl false E.int (Book.turns b), D.sl false E.sv (Book.svs b), D.int .i64 (Book.rule b), D.int .i64 (Book.days b), D.map m, D.sl false E.trc ts], D.int .i64 (0 : Int)]), Contract Proofs.Tryd.prog glob 171 [D.agg [D.sl false E.sec (Book.secs b), D.sl false E.int (Book.turns b), D.sl false E.sv (Book.svs b), D.int .i64 (Book.rule b), D.int .i64 (Book.days b), D.map m, D.sl false E.trc ts], D.int .i64 s, D.int .i64 (0 : Int), D.sl false E.int (Book.turns b)] (D.int .i64 k), decide (k > Book.days b) = true], D.tup [D.int .i64 (0 : Int), D.int .i64 (4 : Int)]) := by kernel_rfl
theorem day0_ok (b : Book) (s : Int) (m : Mp) (ts : List TrC) (k : Int) :
    callF (mk Proofs.Tryd.prog (lookN types) glob 33) [(31, false)] [(15, .bool (isSectionF b s)), (16, .tup [bkD b m ts, .int .i64 0]), (27, .int .i64 k)] [] (body Proofs.Tryd.f127) [.tmp 6, .tmp 7] [bookD b, .int .i64 s, .int .i64 0] =
      some ([Contract Proofs.Tryd.prog glob 124 [D.agg [D.sl false E.sec (Book.secs b), D.sl false E.int (Book.turns b), D.sl false E.sv (Book.svs b), D.int .i64 (Book.rule b), D.int .i64 (Book.days b)], D.int .i64 s] (D.bool (isSectionF b s)), Contract Proofs.Tryd.prog glob 121 [D.agg [D.sl false E.sec (Book.secs b), D.sl false E.int (Book.turns b), D.sl false E.sv (Book.svs b), D.int .i64 (Book.rule b), D.int .i64 (Book.days b)], D.bool (isSectionF b s)] (D.tup [D.agg [D.sl false E.sec (Book.secs b), D.sl false E.int (Book.turns b), D.sl false E.sv (Book.svs b), D.int .i64 (Book.rule b), D.int .i64 (Book.days b), D.map m, D.sl false E.trc ts], D.int .i64 (0 : Int)]), Contract Proofs.Tryd.prog glob 171 [D.agg [D.sl false E.sec (Book.secs b), D.sl false E.int (Book.turns b), D.sl false E.sv (Book.svs b), D.int .i64 (Book.rule b), D.int .i64 (Book.days b), D.map m, D.sl false E.trc ts], D.int .i64 s, D.int .i64 (0 : Int), D.sl false E.int (Book.turns b)] (D.int .i64 k), decide (k > Book.days b) = false], D.tup [D.int .i64 k, D.int .i64 (0 : Int)]) := by kernel_rfl
theorem day1_err (b : Book) (s : Int) (e : Int) :
    callF (mk Proofs.Tryd.prog (lookN types) glob 33) [(20, true)] [(15, .bool (isSectionF b s)), (16, .tup [zbookD, .int .i64 e])] [] (body Proofs.Tryd.f127) [.tmp 6, .tmp 7] [bookD b, .int .i64 s, .int .i64 1] =
      some ([Contract Proofs.Tryd.prog glob 124 [D.agg [D.sl false E.sec (Book.secs b), D.sl false E.int (Book.turns b), D.sl false E.sv (Book.svs b), D.int .i64 (Book.rule b), D.int .i64 (Book.days b)], D.int .i64 s] (D.bool (isSectionF b s)), Contract Proofs.Tryd.prog glob 121 [D.agg [D.sl false E.sec (Book.secs b), D.sl false E.int (Book.turns b), D.sl false E.sv (Book.svs b), D.int .i64 (Book.rule b), D.int .i64 (Book.days b)], D.bool (isSectionF b s)] (D.tup [D.agg [D.nil, D.nil, D.nil, D.int .i64 (0 : Int), D.int .i64 (0 : Int), D.nilmap, D.nil], D.int .i64 e]), (e != (0 : Int)) = true], D.tup [D.int .i64 (0 : Int), D.int .i64 e]) := by kernel_rfl
theorem day1_false (b : Book) (s : Int) (m : Mp) :
    callF (mk Proofs.Tryd.prog (lookN types) glob 33) [] [(15, .bool (isSectionF b s)), (16, .tup [bkD b m [], .int .i64 12])] [] (body Proofs.Tryd.f127) [.tmp 6, .tmp 7] [bookD b, .int .i64 s, .int .i64 1] =
      some ([Contract Proofs.Tryd.prog glob 124 [D.agg [D.sl false E.sec (Book.secs b), D.sl false E.int (Book.turns b), D.sl false E.sv (Book.svs b), D.int .i64 (Book.rule b), D.int .i64 (Book.days b)], D.int .i64 s] (D.bool (isSectionF b s)), Contract Proofs.Tryd.prog glob 121 [D.agg [D.sl false E.sec (Book.secs b), D.sl false E.int (Book.turns b), D.sl false E.sv (Book.svs b), D.int .i64 (Book.rule b), D.int .i64 (Book.days b)], D.bool (isSectionF b s)] (D.tup [D.agg [D.sl false E.sec (Book.secs b), D.sl false E.int (Book.turns b), D.sl false E.sv (Book.svs b), D.int .i64 (Book.rule b), D.int .i64 (Book.days b), D.map m, D.sl false E.trc []], D.int .i64 (12 : Int)])], D.tup [D.int .i64 (0 : Int), D.int .i64 (12 : Int)]) := by kernel_rfl
theorem day1_none (b : Book) (s : Int) (m : Mp) (ts : List TrC) (k : Int) :
    callF (mk Proofs.Tryd.prog (lookN types) glob 33) [(31, true)] [(15, .bool (isSectionF b s)), (16, .tup [bkD b m ts, .int .i64 0]), (27, .int .i64 k)] [] (body Proofs.Tryd.f127) [.tmp 6, .tmp 7] [bookD b, .int .i64 s, .int .i64 1] =
      some ([Contract Proofs.Tryd.prog glob 124 [D.agg [D.sl false E.sec (Book.secs b), D.sl false E.int (Book.turns b), D.sl false E.sv (Book.svs b), D.int .i64 (Book.rule b), D.int .i64 (Book.days b)], D.int .i64 s] (D.bool (isSectionF b s)), Contract Proofs.Tryd.prog glob 121 [D.agg [D.sl false E.sec (Book.secs b), D.sl false E.int (Book.turns b), D.sl false E.sv (Book.svs b), D.int .i64 (Book.rule b), D.int .i64 (Book.days b)], D.bool (isSectionF b s)] (D.tup [D.agg [D.sl false E.sec (Book.secs b), D.sl false E.int (Book.turns b), D.sl false E.sv (Book.svs b), D.int .i64 (Book.rule b), D.int .i64 (Book.days b), D.map m, D.sl false E.trc ts], D.int .i64 (0 : Int)]), Contract Proofs.Tryd.prog glob 171 [D.agg [D.sl false E.sec (Book.secs b), D.sl false E.int (Book.turns b), D.sl false E.sv (Book.svs b), D.int .i64 (Book.rule b), D.int .i64 (Book.days b), D.map m, D.sl false E.trc ts], D.int .i64 s, D.int .i64 (1 : Int), D.sl false E.int (Book.turns b)] (D.int .i64 k), decide (k > Book.days b) = true], D.tup [D.int .i64 (0 : Int), D.int .i64 (4 : Int)]) := by kernel_rfl
theorem day1_ok (b : Book) (s : Int) (m : Mp) (ts : List TrC) (k : Int) :
    callF (mk Proofs.Tryd.prog (lookN types) glob 33) [(31, false)] [(15, .bool (isSectionF b s)), (16, .tup [bkD b m ts, .int .i64 0]), (27, .int .i64 k)] [] (body Proofs.Tryd.f127) [.tmp 6, .tmp 7] [bookD b, .int .i64 s, .int .i64 1] =
      some ([Contract Proofs.Tryd.prog glob 124 [D.agg [D.sl false E.sec (Book.secs b), D.sl false E.int (Book.turns b), D.sl false E.sv (Book.svs b), D.int .i64 (Book.rule b), D.int .i64 (Book.days b)], D.int .i64 s] (D.bool (isSectionF b s)), Contract Proofs.Tryd.prog glob 121 [D.agg [D.sl false E.sec (Book.secs b), D.sl false E.int (Book.turns b), D.sl false E.sv (Book.svs b), D.int .i64 (Book.rule b), D.int .i64 (Book.days b)], D.bool (isSectionF b s)] (D.tup [D.agg [D.sl false E.sec (Book.secs b), D.sl false E.int (Book.turns b), D.sl false E.sv (Book.svs b), D.int .i64 (Book.rule b), D.int .i64 (Book.days b), D.map m, D.sl false E.trc ts], D.int .i64 (0 : Int)]), Contract Proofs.Tryd.prog glob 171 [D.agg [D.sl false E.sec (Book.secs b), D.sl false E.int (Book.turns b), D.sl false E.sv (Book.svs b), D.int .i64 (Book.rule b), D.int .i64 (Book.days b), D.map m, D.sl false E.trc ts], D.int .i64 s, D.int .i64 (1 : Int), D.sl false E.int (Book.turns b)] (D.int .i64 k), decide (k > Book.days b) = false], D.tup [D.int .i64 k, D.int .i64 (0 : Int)]) := by kernel_rfl
theorem thinA_all (b : Book) (s : Int) (k e : Int) :
    callF (mk Proofs.Tryd.prog (lookN types) glob 11) [] [(8, .tup [.int .i64 k, .int .i64 e])] [] (body Proofs.Tryd.f43) [.tmp 4, .tmp 5] [bookD b, .int .i64 s] =
      some ([Contract Proofs.Tryd.prog glob 127 [D.agg [D.sl false E.sec (Book.secs b), D.sl false E.int (Book.turns b), D.sl false E.sv (Book.svs b), D.int .i64 (Book.rule b), D.int .i64 (Book.days b)], D.int .i64 s, D.int .i64 (0 : Int)] (D.tup [D.int .i64 k, D.int .i64 e])], D.tup [D.int .i64 k, D.int .i64 e]) := by kernel_rfl
theorem goneA_all (b : Book) (s : Int) (k e : Int) :
    callF (mk Proofs.Tryd.prog (lookN types) glob 11) [] [(8, .tup [.int .i64 k, .int .i64 e])] [] (body Proofs.Tryd.f44) [.tmp 4, .tmp 5] [bookD b, .int .i64 s] =
      some ([Contract Proofs.Tryd.prog glob 127 [D.agg [D.sl false E.sec (Book.secs b), D.sl false E.int (Book.turns b), D.sl false E.sv (Book.svs b), D.int .i64 (Book.rule b), D.int .i64 (Book.days b)], D.int .i64 s, D.int .i64 (1 : Int)] (D.tup [D.int .i64 k, D.int .i64 e])], D.tup [D.int .i64 k, D.int .i64 e]) := by kernel_rfl
theorem fitsA_err (b : Book) (x : Sv) (e : Int) :
    callF (mk Proofs.Tryd.prog (lookN types) glob 39) [(18, true)] [(13, .bool (isSurveyF b x)), (14, .tup [zbookD, .int .i64 e])] [] (body Proofs.Tryd.f47) [.tmp 4, .tmp 5] [bookD b, svD x] =
      some ([0 + 4 ≤ 4, Contract Proofs.Tryd.prog glob 128 [D.agg [D.sl false E.sec (Book.secs b), D.sl false E.int (Book.turns b), D.sl false E.sv (Book.svs b), D.int .i64 (Book.rule b), D.int .i64 (Book.days b)], D.agg [D.int .i64 (Sv.s x), D.int .i64 (Sv.d x), D.int .i64 (Sv.r x), D.int .i64 (Sv.e x)]] (D.bool (isSurveyF b x)), Contract Proofs.Tryd.prog glob 121 [D.agg [D.sl false E.sec (Book.secs b), D.sl false E.int (Book.turns b), D.sl false E.sv (Book.svs b), D.int .i64 (Book.rule b), D.int .i64 (Book.days b)], D.bool (isSurveyF b x)] (D.tup [D.agg [D.nil, D.nil, D.nil, D.int .i64 (0 : Int), D.int .i64 (0 : Int), D.nilmap, D.nil], D.int .i64 e]), (e != (0 : Int)) = true], D.tup [D.bool false, D.int .i64 e]) := by kernel_rfl
theorem fitsA_false (b : Book) (x : Sv) (m : Mp) :
    callF (mk Proofs.Tryd.prog (lookN types) glob 39) [] [(13, .bool (isSurveyF b x)), (14, .tup [bkD b m [], .int .i64 12])] [] (body Proofs.Tryd.f47) [.tmp 4, .tmp 5] [bookD b, svD x] =
      some ([0 + 4 ≤ 4, Contract Proofs.Tryd.prog glob 128 [D.agg [D.sl false E.sec (Book.secs b), D.sl false E.int (Book.turns b), D.sl false E.sv (Book.svs b), D.int .i64 (Book.rule b), D.int .i64 (Book.days b)], D.agg [D.int .i64 (Sv.s x), D.int .i64 (Sv.d x), D.int .i64 (Sv.r x), D.int .i64 (Sv.e x)]] (D.bool (isSurveyF b x)), Contract Proofs.Tryd.prog glob 121 [D.agg [D.sl false E.sec (Book.secs b), D.sl false E.int (Book.turns b), D.sl false E.sv (Book.svs b), D.int .i64 (Book.rule b), D.int .i64 (Book.days b)], D.bool (isSurveyF b x)] (D.tup [D.agg [D.sl false E.sec (Book.secs b), D.sl false E.int (Book.turns b), D.sl false E.sv (Book.svs b), D.int .i64 (Book.rule b), D.int .i64 (Book.days b), D.map m, D.sl false E.trc []], D.int .i64 (12 : Int)])], D.tup [D.bool false, D.int .i64 (12 : Int)]) := by kernel_rfl
theorem fitsA_ok (b : Book) (x : Sv) (m : Mp) (ts : List TrC) (m2 : Mp) (ts2 : List TrC) :
    callF (mk Proofs.Tryd.prog (lookN types) glob 39) [] [(13, .bool (isSurveyF b x)), (14, .tup [bkD b m ts, .int .i64 0]), (35, bkD ⟨b.secs, b.turns, b.svs ++ [x], b.rule, b.days⟩ m2 ts2)] [] (body Proofs.Tryd.f47) [.tmp 4, .tmp 5] [bookD b, svD x] =
      some ([0 + 4 ≤ 4, Contract Proofs.Tryd.prog glob 128 [D.agg [D.sl false E.sec (Book.secs b), D.sl false E.int (Book.turns b), D.sl false E.sv (Book.svs b), D.int .i64 (Book.rule b), D.int .i64 (Book.days b)], D.agg [D.int .i64 (Sv.s x), D.int .i64 (Sv.d x), D.int .i64 (Sv.r x), D.int .i64 (Sv.e x)]] (D.bool (isSurveyF b x)), Contract Proofs.Tryd.prog glob 121 [D.agg [D.sl false E.sec (Book.secs b), D.sl false E.int (Book.turns b), D.sl false E.sv (Book.svs b), D.int .i64 (Book.rule b), D.int .i64 (Book.days b)], D.bool (isSurveyF b x)] (D.tup [D.agg [D.sl false E.sec (Book.secs b), D.sl false E.int (Book.turns b), D.sl false E.sv (Book.svs b), D.int .i64 (Book.rule b), D.int .i64 (Book.days b), D.map m, D.sl false E.trc ts], D.int .i64 (0 : Int)]), (0 : Int) ≤ (0 : Int) ∧ (0 : Int) ≤ (Nat.cast : Nat → Int) (List.length (Book.svs b)) ∧ (Nat.cast : Nat → Int) (List.length (Book.svs b)) ≤ (Nat.cast : Nat → Int) (List.length (Book.svs b)) ∧ (Nat.cast : Nat → Int) (List.length (Book.svs b)) = (Nat.cast : Nat → Int) (List.length (Book.svs b)), 0 + 4 ≤ 4, List.length (List.drop (Int.toNat (0 : Int)) (List.take (Int.toNat ((Nat.cast : Nat → Int) (List.length (Book.svs b)))) (Book.svs b)) ++ [Sv.mk (Sv.s x) (Sv.d x) (Sv.r x) (Sv.e x)]) * (TI.bytes (TI.mk (TK.struct [(0, 3), (1, 3), (2, 3), (3, 3)]) 4 32 [D.int .i64 (0 : Int), D.int .i64 (0 : Int), D.int .i64 (0 : Int), D.int .i64 (0 : Int)] (some E.sv) true) + 1) ≤ 140737488355328, List.length (List.drop (Int.toNat (0 : Int)) (List.take (Int.toNat ((Nat.cast : Nat → Int) (List.length (Book.svs b)))) (Book.svs b)) ++ [Sv.mk (Sv.s x) (Sv.d x) (Sv.r x) (Sv.e x)]) = List.length (Ob.xs (Ob.mk E.sv (List.drop (Int.toNat (0 : Int)) (List.take (Int.toNat ((Nat.cast : Nat → Int) (List.length (Book.svs b)))) (Book.svs b)) ++ [Sv.mk (Sv.s x) (Sv.d x) (Sv.r x) (Sv.e x)]))), List.length (List.drop (Int.toNat (0 : Int)) (List.take (Int.toNat ((Nat.cast : Nat → Int) (List.length (Book.svs b)))) (Book.svs b)) ++ [Sv.mk (Sv.s x) (Sv.d x) (Sv.r x) (Sv.e x)]) = List.length (Ob.xs (Ob.mk E.sv (List.drop (Int.toNat (0 : Int)) (List.take (Int.toNat ((Nat.cast : Nat → Int) (List.length (Book.svs b)))) (Book.svs b)) ++ [Sv.mk (Sv.s x) (Sv.d x) (Sv.r x) (Sv.e x)]))), Contract Proofs.Tryd.prog glob 119 [D.agg [D.sl false E.sec (Book.secs b), D.sl false E.int (Book.turns b), D.sl false E.sv (Ob.xs (Ob.mk E.sv (List.drop (Int.toNat (0 : Int)) (List.take (Int.toNat ((Nat.cast : Nat → Int) (List.length (Book.svs b)))) (Book.svs b)) ++ [Sv.mk (Sv.s x) (Sv.d x) (Sv.r x) (Sv.e x)]))), D.int .i64 (Book.rule b), D.int .i64 (Book.days b)], D.sl false E.int []] (D.agg [D.sl false E.sec (Book.secs (Book.mk (Book.secs b) (Book.turns b) (Book.svs b ++ [x]) (Book.rule b) (Book.days b))), D.sl false E.int (Book.turns (Book.mk (Book.secs b) (Book.turns b) (Book.svs b ++ [x]) (Book.rule b) (Book.days b))), D.sl false E.sv (Book.svs (Book.mk (Book.secs b) (Book.turns b) (Book.svs b ++ [x]) (Book.rule b) (Book.days b))), D.int .i64 (Book.rule (Book.mk (Book.secs b) (Book.turns b) (Book.svs b ++ [x]) (Book.rule b) (Book.days b))), D.int .i64 (Book.days (Book.mk (Book.secs b) (Book.turns b) (Book.svs b ++ [x]) (Book.rule b) (Book.days b))), D.map m2, D.sl false E.trc ts2])], D.tup [D.bool (decide ((Nat.cast : Nat → Int) (List.length ts2) > (0 : Int))), D.int .i64 (0 : Int)]) := by kernel_rfl
end Go.Di

