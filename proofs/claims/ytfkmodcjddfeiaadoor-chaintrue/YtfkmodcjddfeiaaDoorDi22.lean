/- Part 22: an interpreter over plain data for this code, with the proof that it says what the model does, and the contracts of the functions. No condition. -/
import Derived.Test.YtfkmodcjddfeiaaDoorDi21
import Derived.Deep.Slices
import Derived.Deep.DeepHandedRow
import Derived.Carry
import Derived.LaidMore
import Derived.ProofKit
import Derived.OpenShut
import Derived.Test.YtfkmodcjddfeiaaDoorCards
import Derived.Test.YtfkmodcjddfeiaaDoorTie
import Derived.SevenTiedAt
import Derived.Stop.Joined
import Derived.Deep.DeepWitnessRowRef
set_option linter.unusedVariables false
set_option linter.unusedSimpArgs false
set_option maxRecDepth 100000
namespace Go.Di

/-! ### The law ChainFirst -/
theorem not_beq_of {a b : Bool} (h : a = b) : (!(a == b)) = false := by subst h; simp
theorem days_iff {b : Book} {p : Nat → Bool} (hp : ∀ d, p d = true → p (d + 1) = true) (hd1 : 1 ≤ b.days) {d : Nat} (hd : (d : Int) ≤ b.days) :
    (dayOr b 0 ((findF p (b.days + 1).toNat 0 : Nat) : Int) = (0, 4) ∧ p d = false) ∨ (∃ k : Nat, (k : Int) ≤ b.days ∧ dayOr b 0 ((findF p (b.days + 1).toNat 0 : Nat) : Int) = ((k : Int), 0) ∧ (p d = true ↔ k ≤ d)) := by
  have hi := findF_iff hp (n := (b.days + 1).toNat) (d := d) (by omega)
  generalize findF p (b.days + 1).toNat 0 = k at hi
  unfold dayOr
  rw [if_pos rfl]
  by_cases hk : (k : Int) > b.days
  · rw [if_pos hk]
    refine .inl ⟨rfl, ?_⟩
    cases hpd : p d with
    | false => rfl
    | true =>
      have := hi.1 hpd
      omega
  · rw [if_neg hk]
    exact .inr ⟨k, by omega, rfl, hi⟩
theorem cfirst_con {b : Book} (hs : Small b) (n0 n1 : Int) : Contract Proofs.Tryd.prog glob 9 [bookD b, .agg [.int .i64 n0, .int .i64 n1]] (.bool true) := by
  have hso := sound_con hs
  have hfg := forged_con
  cases hv : validF b with
  | false =>
    rw [hv] at hso
    exact contract_of_path (G 197) cfirst_fn (cfirst_bad b n0 n1) ⟨hso, hfg, trivial⟩
  | true =>
    rw [hv] at hso
    have hV := valid_iff.1 hv
    have hl := hV.secs
    have hdd := hV.days
    have hin := modF_in (n := n0) (m := b.secs.length) (by omega)
    have hdn := modF_in (n := n1) (m := b.days + 1) (by omega)
    have m1 := modB_con n0 b.secs.length (by omega)
    have m2 := modB_con n1 (b.days + 1) (by omega)
    generalize modF n0 b.secs.length = i at hin m1
    obtain ⟨d, hd⟩ : ∃ d : Nat, (d : Int) = modF n1 (b.days + 1) := ⟨(modF n1 (b.days + 1)).toNat, by omega⟩
    rw [← hd] at hdn m2
    have his : isSectionF b i = true := by simp only [isSectionF, within_iff]; omega
    have hisd : isDayF b d = true := by simp only [isDayF, within_iff]; omega
    have c1 := thickA_con hs i d
    have c2 := thinA_con hs i
    have c3 := goneA_con hs i
    have c4 := cutA_con hs d
    have hi64 : inI64 (b.days + 1) := by simp only [inI64]; omega
    unfold askE at c1
    unfold thinAF at c2
    unfold goneAF at c3
    unfold cutAF at c4
    rw [his, hisd, Bool.and_self] at c1
    rw [his] at c2 c3
    rw [hisd] at c4
    cases hc : canF b with
    | false =>
      have he : errF b true = 12 := by unfold errF; rw [hv, hc]; rfl
      rw [he] at c1 c2 c3 c4
      refine contract_of_path (G 197) cfirst_fn (cfirst_false b n0 n1 i d) ?_
      repeat (first | exact trivial | refine ⟨by first | exact hso | exact m1 | exact m2 | exact c1 | exact c2 | exact c3 | exact c4 | exact hfg | exact hi64 | omega | (simp only [inI64]; omega), ?_⟩)
    | true =>
      have he : errF b true = 0 := by unfold errF; rw [hv, hc]; rfl
      rw [he] at c1 c2 c3 c4
      have hne := ne_of_can hc
      have hts := truths_ok hV []
      have hcl : Contract Proofs.Tryd.prog glob 52 [.sl false .int (cutGo b (truthsF b []) d b.secs.length), .int .i64 (b.secs.length : Int)] (.bool true) := by
        have := climbs_con (cutGo b (truthsF b []) d b.secs.length) b.secs.length (by have := cutGo_len b (truthsF b []) d b.secs.length; omega) (by omega)
        rwa [(cutGo_ups b (truthsF b []) d b.secs.length).climbs] at this
      have hat := atB_con (cutGo b (truthsF b []) d b.secs.length) i (by have := cutGo_len b (truthsF b []) d b.secs.length; omega)
      have hmem : (!(decide (indexF i (cutGo b (truthsF b []) d b.secs.length) 0 ≥ 0) == decide ((thickF b (truthsF b []) b.turns i d).lo < b.rule))) = false := by
        refine not_beq_of ?_
        rw [decide_eq_decide, indexF_ge, cutGo_mem]
        constructor
        · exact fun h => h.2.2
        · exact fun h => ⟨hin.1, hin.2, h⟩
      have hnx := thickA_con hs i ((d : Int) + 1)
      have hdown := thick_down hts hne b.turns i d (b := b)
      have hth := days_iff (b := b) (may_stays (b := b) hts hne b.turns i) hdd.1 (d := d) (by omega)
      have hgo := days_iff (b := b) (surely_stays (b := b) hts hne b.turns i) hdd.1 (d := d) (by omega)
      unfold thinF at c2
      unfold goneF at c3
      have hmay : mayF b (truthsF b []) b.turns i d = decide ((thickF b (truthsF b []) b.turns i d).lo < b.rule) := rfl
      have hsur : surelyF b (truthsF b []) b.turns i d = decide ((thickF b (truthsF b []) b.turns i d).hi < b.rule) := rfl
      rw [hmay] at hth
      rw [hsur] at hgo
      rw [show spanOr 0 (thickF b (truthsF b []) b.turns i d) = thickF b (truthsF b []) b.turns i d from if_pos rfl] at c1
      rw [if_pos rfl] at c4
      have hb4 : ∀ {x : Bool}, x = false → (!(x == false)) = false := fun h => by rw [h]; rfl
      have hbk : ∀ {x : Bool} {k : Nat}, (x = true ↔ k ≤ d) → (!(x == decide ((d : Int) ≥ (k : Int)))) = false := fun {x k} h => by
        refine not_beq_of ?_
        rw [Bool.eq_iff_iff, h, decide_eq_true_eq]
        omega
      by_cases hlast : (d : Int) = b.days
      · have hla : ((d : Int) == b.days) = true := by simpa using hlast
        rcases hth with ⟨t1, t2⟩ | ⟨k, t0, t1, t2⟩ <;> rcases hgo with ⟨g1, g2⟩ | ⟨k', g0, g1, g2⟩ <;> rw [t1] at c2 <;> rw [g1] at c3
        · have q1 := hb4 t2
          have q2 := hb4 g2
          refine contract_of_path (G 197) cfirst_fn (cfirst_ok111 b n0 n1 i d (thickF b (truthsF b []) b.turns i d) ⟨0, 0⟩ 0 0 (indexF i (cutGo b (truthsF b []) d b.secs.length) 0) (cutGo b (truthsF b []) d b.secs.length)) ?_
          repeat (first | exact trivial | refine ⟨by first | exact hso | exact m1 | exact m2 | exact c1 | exact c2 | exact c3 | exact c4 | exact hfg | exact hi64 | exact hcl | exact hat | exact hmem | exact q1 | exact q2 | exact hla | omega | (simp only [inI64]; omega), ?_⟩)
        · have q1 := hb4 t2
          have q2 := hbk g2
          refine contract_of_path (G 197) cfirst_fn (cfirst_ok101 b n0 n1 i d (thickF b (truthsF b []) b.turns i d) ⟨0, 0⟩ 0 k' (indexF i (cutGo b (truthsF b []) d b.secs.length) 0) (cutGo b (truthsF b []) d b.secs.length)) ?_
          repeat (first | exact trivial | refine ⟨by first | exact hso | exact m1 | exact m2 | exact c1 | exact c2 | exact c3 | exact c4 | exact hfg | exact hi64 | exact hcl | exact hat | exact hmem | exact q1 | exact q2 | exact hla | omega | (simp only [inI64]; omega), ?_⟩)
        · have q1 := hbk t2
          have q2 := hb4 g2
          refine contract_of_path (G 197) cfirst_fn (cfirst_ok011 b n0 n1 i d (thickF b (truthsF b []) b.turns i d) ⟨0, 0⟩ k 0 (indexF i (cutGo b (truthsF b []) d b.secs.length) 0) (cutGo b (truthsF b []) d b.secs.length)) ?_
          repeat (first | exact trivial | refine ⟨by first | exact hso | exact m1 | exact m2 | exact c1 | exact c2 | exact c3 | exact c4 | exact hfg | exact hi64 | exact hcl | exact hat | exact hmem | exact q1 | exact q2 | exact hla | omega | (simp only [inI64]; omega), ?_⟩)
        · have q1 := hbk t2
          have q2 := hbk g2
          refine contract_of_path (G 197) cfirst_fn (cfirst_ok001 b n0 n1 i d (thickF b (truthsF b []) b.turns i d) ⟨0, 0⟩ k k' (indexF i (cutGo b (truthsF b []) d b.secs.length) 0) (cutGo b (truthsF b []) d b.secs.length)) ?_
          repeat (first | exact trivial | refine ⟨by first | exact hso | exact m1 | exact m2 | exact c1 | exact c2 | exact c3 | exact c4 | exact hfg | exact hi64 | exact hcl | exact hat | exact hmem | exact q1 | exact q2 | exact hla | omega | (simp only [inI64]; omega), ?_⟩)
      · have hla : ((d : Int) == b.days) = false := by simpa using hlast
        have hisd' : isDayF b ((d : Int) + 1) = true := by simp only [isDayF, within_iff]; omega
        unfold askE at hnx
        rw [his, hisd', Bool.and_self, he, show spanOr 0 (thickF b (truthsF b []) b.turns i ((d : Int) + 1)) = thickF b (truthsF b []) b.turns i ((d : Int) + 1) from if_pos rfl] at hnx
        have hdown' : (thickF b (truthsF b []) b.turns i ((d : Int) + 1)).lo ≤ (thickF b (truthsF b []) b.turns i d).lo ∧ (thickF b (truthsF b []) b.turns i ((d : Int) + 1)).hi ≤ (thickF b (truthsF b []) b.turns i d).hi := hdown
        have n1' : decide ((thickF b (truthsF b []) b.turns i ((d : Int) + 1)).lo ≤ (thickF b (truthsF b []) b.turns i d).lo) = true := decide_eq_true hdown'.1
        have n2' : decide ((thickF b (truthsF b []) b.turns i ((d : Int) + 1)).hi ≤ (thickF b (truthsF b []) b.turns i d).hi) = true := decide_eq_true hdown'.2
        rcases hth with ⟨t1, t2⟩ | ⟨k, t0, t1, t2⟩ <;> rcases hgo with ⟨g1, g2⟩ | ⟨k', g0, g1, g2⟩ <;> rw [t1] at c2 <;> rw [g1] at c3
        · have q1 := hb4 t2
          have q2 := hb4 g2
          refine contract_of_path (G 197) cfirst_fn (cfirst_ok110 b n0 n1 i d (thickF b (truthsF b []) b.turns i d) (thickF b (truthsF b []) b.turns i ((d : Int) + 1)) 0 0 (indexF i (cutGo b (truthsF b []) d b.secs.length) 0) (cutGo b (truthsF b []) d b.secs.length)) ?_
          repeat (first | exact trivial | refine ⟨by first | exact hso | exact m1 | exact m2 | exact c1 | exact c2 | exact c3 | exact c4 | exact hfg | exact hi64 | exact hcl | exact hat | exact hmem | exact q1 | exact q2 | exact hla | exact hnx | exact n1' | exact n2' | omega | (simp only [inI64]; omega), ?_⟩)
        · have q1 := hb4 t2
          have q2 := hbk g2
          refine contract_of_path (G 197) cfirst_fn (cfirst_ok100 b n0 n1 i d (thickF b (truthsF b []) b.turns i d) (thickF b (truthsF b []) b.turns i ((d : Int) + 1)) 0 k' (indexF i (cutGo b (truthsF b []) d b.secs.length) 0) (cutGo b (truthsF b []) d b.secs.length)) ?_
          repeat (first | exact trivial | refine ⟨by first | exact hso | exact m1 | exact m2 | exact c1 | exact c2 | exact c3 | exact c4 | exact hfg | exact hi64 | exact hcl | exact hat | exact hmem | exact q1 | exact q2 | exact hla | exact hnx | exact n1' | exact n2' | omega | (simp only [inI64]; omega), ?_⟩)
        · have q1 := hbk t2
          have q2 := hb4 g2
          refine contract_of_path (G 197) cfirst_fn (cfirst_ok010 b n0 n1 i d (thickF b (truthsF b []) b.turns i d) (thickF b (truthsF b []) b.turns i ((d : Int) + 1)) k 0 (indexF i (cutGo b (truthsF b []) d b.secs.length) 0) (cutGo b (truthsF b []) d b.secs.length)) ?_
          repeat (first | exact trivial | refine ⟨by first | exact hso | exact m1 | exact m2 | exact c1 | exact c2 | exact c3 | exact c4 | exact hfg | exact hi64 | exact hcl | exact hat | exact hmem | exact q1 | exact q2 | exact hla | exact hnx | exact n1' | exact n2' | omega | (simp only [inI64]; omega), ?_⟩)
        · have q1 := hbk t2
          have q2 := hbk g2
          refine contract_of_path (G 197) cfirst_fn (cfirst_ok000 b n0 n1 i d (thickF b (truthsF b []) b.turns i d) (thickF b (truthsF b []) b.turns i ((d : Int) + 1)) k k' (indexF i (cutGo b (truthsF b []) d b.secs.length) 0) (cutGo b (truthsF b []) d b.secs.length)) ?_
          repeat (first | exact trivial | refine ⟨by first | exact hso | exact m1 | exact m2 | exact c1 | exact c2 | exact c3 | exact c4 | exact hfg | exact hi64 | exact hcl | exact hat | exact hmem | exact q1 | exact q2 | exact hla | exact hnx | exact n1' | exact n2' | omega | (simp only [inI64]; omega), ?_⟩)
end Go.Di

/-
  DI, part Z: how a row reads its arguments, and what it asks behind the call.
-/
namespace Go.Di
open Go.RowKit Go.ChangeShapes Go.WideShapes Go.Deep

section
variable {H : Type} {enc : TypeId × Value → H} {P : Program}

/-! ### Behind the call -/
theorem trodAll_below (hl : laidOutB P = true) {W W' : World} (hb : Below W.heap.size W W') {sp : Nat → Bool} : ∀ {ts : List TypeId} {vs : List Value} {ds : List (DataW H)} {ps : List MemPlace},
    (∀ t ∈ ts, P.readableRec t = true ∧ t < P.types.size) → DataW.TrodAll enc P W 0 (fun _ => true) true ts vs ds ps → (∀ x ∈ ps, x.block < W.heap.size) → (∀ x ∈ ps, sp x.block = true) → DataW.TrodAll enc P W' 0 sp true ts vs ds ps
  | [], [], [], ps, _, h, _, _ => h
  | [], [], _ :: _, _, _, h, _, _ => h.elim
  | [], _ :: _, _, _, _, h, _, _ => h.elim
  | _ :: _, [], _, _, _, h, _, _ => h.elim
  | _ :: _, _ :: _, [], _, _, h, _, _ => h.elim
  | t :: ts, v :: vs, d :: ds, ps, ht, ⟨p, q, h1, h2, e⟩, hlt, hsp => by
    subst e
    have hx : ∀ x ∈ p, x ∈ p ++ q := fun x hx => List.mem_append_left _ hx
    have hy : ∀ x ∈ q, x ∈ p ++ q := fun x hx => List.mem_append_right _ hx
    obtain ⟨r1, r2⟩ := ht t (by simp)
    exact ⟨p, q, WideElems.Trod_stays hl r1 r2 h1 (fun x h => hb.same (hlt x (hx x h))) (fun x h => hsp x (hx x h)), trodAll_below hl hb (fun u hu => ht u (by simp [hu])) h2 (fun x h => hlt x (hy x h)) (fun x h => hsp x (hy x h)), rfl⟩

/-- A law that answers true, and leaves what was there as it was. -/
theorem law_post {f : Func} {s : ChangeSpec} {apart fresh handsOn again : Bool} {W W' : World} {args : Array Value} {ds gs : List (DataW H)} {before : List MemPlace} {tb : TypeId}
    (hl : laidOutB P = true) (hread : ∀ t ∈ f.params.toList, P.readableRec t = true ∧ t < P.types.size) (hvars : s.vars = []) (hres : f.resultTypes = #[tb]) (htb : P.underlying tb = some .bool)
    (hW : DataW.Whole enc P f.params.toList s.vars apart W args.toList ds gs before) (hspec : s.fn H (ds ++ gs) = { results := [.lit (.bool true)], args := ds }) (hb : Below W.heap.size W W') :
    s.post enc P f apart fresh handsOn again W args (.bool true) W' := by
  have hlt : ∀ x ∈ before, x.block < W.heap.size := fun x hx => by simpa using hW.lt x hx
  have hW0 := hW
  obtain ⟨p, q, h1, h2, rfl, hz, hn⟩ := hW
  have hq : q = [] ∧ gs = [] := by
    rw [hvars] at h2
    cases gs with
    | nil => exact ⟨h2, rfl⟩
    | cons _ _ => exact h2.elim
  obtain ⟨rfl, rfl⟩ := hq
  have hbool : ∀ (b : Nat) (sp : Nat → Bool) (hd : Bool), DataW.TrodAll enc P W' b sp hd f.resultTypes.toList ((Value.bool true).resultList f.resultTypes.size) [.lit (.bool true)] [] := fun b sp hd => by
    rw [hres]
    exact trodAll_cons_mk (shut_bool htb _) trodAll_mk0
  have hargs : ∀ sp : Nat → Bool, (∀ x ∈ p, sp x.block = true) → DataW.TrodAll enc P W' 0 sp true f.params.toList args.toList ds p := fun sp hsp =>
    trodAll_below hl hb hread h1 (fun x hx => hlt x (by simp [hx])) hsp
  have hv : ∀ sp : Nat → Bool, DataW.TrodVars enc P W' sp s.vars ([] : List (DataW H)) [] := fun sp => by rw [hvars]; rfl
  refine ⟨ds, [], p ++ [], [], p, [], hW0, ?_, ?_, ?_, hb.frame _, fun _ => ⟨?_, [.lit (.bool true)] ++ ds, [], [] ++ p, ⟨[] ++ p, [], ?_, hv (fun _ => true), by simp, ?_, ?_⟩, ?_⟩⟩
  · rw [hspec]; exact hbool _ _ _
  · rw [hspec]; exact hargs _ fun x hx => by simpa using hlt x (by simp [hx])
  · rw [hspec]; exact hv _
  · exact ok_one hres rfl (okWide_bool_mk htb _)
  · exact trodAll_append (hargs (fun _ => true) fun _ _ => rfl) (hbool _ _ _)
  · intro b off hp
    have hp' : MemPlace.cell b off ∈ p := by simpa using hp
    rw [hb.frozen (p := ⟨b, off, none⟩) (hlt (.cell b off) (by simp [hp']))]
    exact hz b off (by simpa using hp')
  · intro ha
    have := hn ha
    simpa using this
  · intro x hx _
    simpa using hx

/-! ### Reading arguments -/
variable {w : World} {sp : Nat → Bool} {hd : Bool}
/-- Memory that was there. -/
def Old (w : World) : Foot := fun b _ => b < w.heap.size
theorem cell_old {w : World} {a : Addr} {v : Value} (h : w.cell? a = some v) : a.block < w.heap.size := by
  unfold World.cell? at h
  cases hh : w.heap[a.block]? with
  | none => rw [hh] at h; cases h
  | some o => exact (Array.getElem?_eq_some_iff.1 hh).1

/-- How an element reads. -/
def ReadsE (enc : TypeId × Value → H) (P : Program) (w : World) (sp : Nat → Bool) (hd : Bool) (t : TypeId) (e : E) : Prop := ∀ (fuel : Nat) (cs : List Value) (x : DataW H × List MemPlace), DataW.trod enc P w 0 sp hd fuel t cs = some x → ∃ y : e.α, cs.length = e.sz ∧ RelE (Old w) w e y cs

theorem reads_int {t : TypeId} (ht : P.underlying t = some (.int .i64)) {fuel : Nat} {cs : List Value} {x : DataW H × List MemPlace} (h : DataW.trod enc P w 0 sp hd fuel t cs = some x) : ∃ n, cs = [.int .i64 n] := by
  obtain ⟨n, h1, _⟩ := DataW.trod_int ht h
  exact ⟨n, h1⟩
/-- A struct of two numbers. -/
theorem reads_two {t : TypeId} {f0 f1 : Field} (ht : P.underlying t = some (.struct #[f0, f1])) (hc : P.cellsOf t = 2) (o0 : f0.offset = 0) (o1 : f1.offset = 1) (c0 : P.cellsOf f0.type = 1) (c1 : P.cellsOf f1.type = 1)
    (t0 : P.underlying f0.type = some (.int .i64)) (t1 : P.underlying f1.type = some (.int .i64)) {fuel : Nat} {cs : List Value} {x : DataW H × List MemPlace} (h : DataW.trod enc P w 0 sp hd fuel t cs = some x) : ∃ a b, cs = [.int .i64 a, .int .i64 b] := by
  obtain ⟨xs, k, _, _, hl, hx, hf⟩ := DataW.trod_struct ht h
  rw [hc] at hl
  match xs, hx, cs, hl with
  | [y0, y1], _, [v0, v1], _ =>
    have g0 := hf 0 f0 rfl
    have g1 := hf 1 f1 rfl
    simp [o0, o1, c0, c1] at g0 g1
    obtain ⟨a, ha⟩ := reads_int t0 g0
    obtain ⟨b, hb⟩ := reads_int t1 g1
    simp only [List.cons.injEq, and_true] at ha hb
    exact ⟨a, b, by rw [ha, hb]⟩
/-- A struct of four numbers. -/
theorem reads_four {t : TypeId} {f0 f1 f2 f3 : Field} (ht : P.underlying t = some (.struct #[f0, f1, f2, f3])) (hc : P.cellsOf t = 4) (o0 : f0.offset = 0) (o1 : f1.offset = 1) (o2 : f2.offset = 2) (o3 : f3.offset = 3)
    (c0 : P.cellsOf f0.type = 1) (c1 : P.cellsOf f1.type = 1) (c2 : P.cellsOf f2.type = 1) (c3 : P.cellsOf f3.type = 1) (t0 : P.underlying f0.type = some (.int .i64)) (t1 : P.underlying f1.type = some (.int .i64)) (t2 : P.underlying f2.type = some (.int .i64)) (t3 : P.underlying f3.type = some (.int .i64))
    {fuel : Nat} {cs : List Value} {x : DataW H × List MemPlace} (h : DataW.trod enc P w 0 sp hd fuel t cs = some x) : ∃ a b c d, cs = [.int .i64 a, .int .i64 b, .int .i64 c, .int .i64 d] := by
  obtain ⟨xs, k, _, _, hl, hx, hf⟩ := DataW.trod_struct ht h
  rw [hc] at hl
  match xs, hx, cs, hl with
  | [y0, y1, y2, y3], _, [v0, v1, v2, v3], _ =>
    have g0 := hf 0 f0 rfl
    have g1 := hf 1 f1 rfl
    have g2 := hf 2 f2 rfl
    have g3 := hf 3 f3 rfl
    simp [o0, o1, o2, o3, c0, c1, c2, c3] at g0 g1 g2 g3
    obtain ⟨a, ha⟩ := reads_int t0 g0
    obtain ⟨b, hb⟩ := reads_int t1 g1
    obtain ⟨c, hc⟩ := reads_int t2 g2
    obtain ⟨d, hd⟩ := reads_int t3 g3
    simp only [List.cons.injEq, and_true] at ha hb hc hd
    exact ⟨a, b, c, d, by rw [ha, hb, hc, hd]⟩
/-- A struct of two spans. -/
theorem reads_sec {t : TypeId} {f0 f1 : Field} (ht : P.underlying t = some (.struct #[f0, f1])) (hc : P.cellsOf t = 4) (o0 : f0.offset = 0) (o1 : f1.offset = 2) (c0 : P.cellsOf f0.type = 2) (c1 : P.cellsOf f1.type = 2)
    (t0 : ∀ (fuel : Nat) (cs : List Value) (x : DataW H × List MemPlace), DataW.trod enc P w 0 sp hd fuel f0.type cs = some x → ∃ a b, cs = [.int .i64 a, .int .i64 b])
    (t1 : ∀ (fuel : Nat) (cs : List Value) (x : DataW H × List MemPlace), DataW.trod enc P w 0 sp hd fuel f1.type cs = some x → ∃ a b, cs = [.int .i64 a, .int .i64 b])
    {fuel : Nat} {cs : List Value} {x : DataW H × List MemPlace} (h : DataW.trod enc P w 0 sp hd fuel t cs = some x) : ∃ a b c d, cs = [.int .i64 a, .int .i64 b, .int .i64 c, .int .i64 d] := by
  obtain ⟨xs, k, _, _, hl, hx, hf⟩ := DataW.trod_struct ht h
  rw [hc] at hl
  match xs, hx, cs, hl with
  | [y0, y1], _, [v0, v1, v2, v3], _ =>
    have g0 := hf 0 f0 rfl
    have g1 := hf 1 f1 rfl
    simp [o0, o1, c0, c1] at g0 g1
    obtain ⟨a, b, hab⟩ := t0 _ _ _ g0
    obtain ⟨c, d, hcd⟩ := t1 _ _ _ g1
    simp only [List.cons.injEq, and_true] at hab hcd
    exact ⟨a, b, c, d, by rw [hab.1, hab.2, hcd.1, hcd.2]⟩
/-- A slice. -/
theorem reads_slice {t et : TypeId} {e : E} (ht : P.underlying t = some (.slice et)) (hc : P.cellsOf et = e.sz) (hE : ReadsE enc P w sp hd et e) {fuel : Nat} {cs : List Value} {x : DataW H × List MemPlace} (h : DataW.trod enc P w 0 sp hd fuel t cs = some x) :
    ∃ (v : Value) (xs : List e.α), cs = [v] ∧ SlR (RelE (Old w) w e) e.sz (Old w) w false xs v ∧ xs.length ≤ maxLen := by
  rcases open_slice ht h with ⟨rfl, _⟩ | ⟨a, len, cap, m, n, D, Pl, rfl, hb, hlc, hmx, hm, _, hel⟩
  · exact ⟨_, [], rfl, sl_nil _ _ _ _ _, by simp⟩
  · have hlm : len ≤ m := by rw [hm]; split <;> omega
    have hz : Nonempty e.α := ⟨E.z e⟩
    have hget : ∀ i, i < len → ∃ y : e.α, ∃ cs', w.cells? 0 (a.add (i * e.sz)) e.sz = some cs' ∧ RelE (Old w) w e y cs' ∧ cs'.length = e.sz := fun i hi => by
      obtain ⟨cs', h1, h2⟩ := hel i (by omega)
      obtain ⟨y, h3, h4⟩ := hE _ _ _ h2
      rw [hc] at h1
      exact ⟨y, cs', h1, h4, h3⟩
    haveI : Inhabited e.α := ⟨E.z e⟩
    obtain ⟨f, hf⟩ := choose_lt hget
    refine ⟨_, (List.range len).map f, rfl, ⟨some a, cap, by simp, by simpa using hlc, hmx, fun h => (by cases h), fun hpos => ?_⟩, by simp; omega⟩
    have hlen : 0 < len := by simpa using hpos
    obtain ⟨b, off, spot⟩ := a
    have hszpos : 0 < e.sz := by cases e <;> simp [E.sz]
    have hspot : spot = none := by
      obtain ⟨cs', h1, h2, h3⟩ := hf 0 hlen
      obtain ⟨_, _, hcell⟩ := World.cells?_some h1
      have := hcell 0 hszpos
      rw [Nat.zero_mul] at this
      have h0 : w.cell? ⟨b, off, spot⟩ = cs'[0]? := by simpa [Addr.add] using this
      rw [List.getElem?_eq_getElem (by omega)] at h0
      simpa using World.cell?_spot h0
    subst hspot
    refine ⟨b, off, rfl, fun i y hy => ?_⟩
    have hi : i < len := by
      have := (List.getElem?_eq_some_iff.1 hy).1
      simpa using this
    have hyf : y = f i := by
      rw [List.getElem?_map, List.getElem?_range hi] at hy
      exact (Option.some.inj hy).symm
    subst hyf
    obtain ⟨cs', h1, h2, h3⟩ := hf i hi
    obtain ⟨_, _, hcell⟩ := World.cells?_some h1
    refine ⟨cs', h3, h2, fun j u hu => ?_⟩
    have hj : j < e.sz := by
      have := (List.getElem?_eq_some_iff.1 hu).1
      omega
    have hcj := hcell j hj
    rw [Deep.add_add, hu] at hcj
    have hca : w.cell? ⟨b, off + i * e.sz + j, none⟩ = some u := by
      have : (⟨b, off, none⟩ : Addr).add (i * e.sz + j) = ⟨b, off + i * e.sz + j, none⟩ := by
        unfold Addr.add
        by_cases h0 : i * e.sz + j = 0
        · rw [if_pos h0]; congr 1; omega
        · rw [if_neg h0]; congr 1; dsimp only; omega
      rwa [this] at hcj
    exact ⟨cell_old hca, hca⟩
/-- A book of a chain. -/
theorem reads_book {t : TypeId} {f0 f1 f2 f3 f4 : Field} (ht : P.underlying t = some (.struct #[f0, f1, f2, f3, f4])) (hc : P.cellsOf t = 5) (o0 : f0.offset = 0) (o1 : f1.offset = 1) (o2 : f2.offset = 2) (o3 : f3.offset = 3) (o4 : f4.offset = 4)
    (c0 : P.cellsOf f0.type = 1) (c1 : P.cellsOf f1.type = 1) (c2 : P.cellsOf f2.type = 1) (c3 : P.cellsOf f3.type = 1) (c4 : P.cellsOf f4.type = 1)
    {e0 e1 e2 : TypeId} (t0 : P.underlying f0.type = some (.slice e0)) (t1 : P.underlying f1.type = some (.slice e1)) (t2 : P.underlying f2.type = some (.slice e2)) (t3 : P.underlying f3.type = some (.int .i64)) (t4 : P.underlying f4.type = some (.int .i64))
    (k0 : P.cellsOf e0 = 4) (k1 : P.cellsOf e1 = 1) (k2 : P.cellsOf e2 = 4) (r0 : ReadsE enc P w sp hd e0 .sec) (r1 : ReadsE enc P w sp hd e1 .int) (r2 : ReadsE enc P w sp hd e2 .sv)
    {fuel : Nat} {cs : List Value} {x : DataW H × List MemPlace} (h : DataW.trod enc P w 0 sp hd fuel t cs = some x) :
    ∃ b : Book, All2 (RelC (Old w) w) [.sl false .sec b.secs, .sl false .int b.turns, .sl false .sv b.svs, .int .i64 b.rule, .int .i64 b.days] cs ∧ b.secs.length ≤ maxLen ∧ b.turns.length ≤ maxLen ∧ b.svs.length ≤ maxLen := by
  obtain ⟨xs, k, _, _, hl, hx, hf⟩ := DataW.trod_struct ht h
  rw [hc] at hl
  match xs, hx, cs, hl with
  | [y0, y1, y2, y3, y4], _, [v0, v1, v2, v3, v4], _ =>
    have g0 := hf 0 f0 rfl
    have g1 := hf 1 f1 rfl
    have g2 := hf 2 f2 rfl
    have g3 := hf 3 f3 rfl
    have g4 := hf 4 f4 rfl
    simp [o0, o1, o2, o3, o4, c0, c1, c2, c3, c4] at g0 g1 g2 g3 g4
    obtain ⟨w0, a, ha, sa, la⟩ := reads_slice (e := .sec) t0 k0 r0 g0
    obtain ⟨w1, b, hb, sb, lb⟩ := reads_slice (e := .int) t1 k1 r1 g1
    obtain ⟨w2, c, hc, sc, lc⟩ := reads_slice (e := .sv) t2 k2 r2 g2
    obtain ⟨d, hd⟩ := reads_int t3 g3
    obtain ⟨e, he⟩ := reads_int t4 g4
    simp only [List.cons.injEq, and_true] at ha hb hc hd he
    subst ha hb hc hd he
    exact ⟨⟨a, b, c, d, e⟩, ⟨sa, sb, sc, rfl, rfl, trivial⟩, la, lb, lc⟩
theorem mapM_each {α β : Type} {f : α → Option β} : ∀ {l : List α} {ys : List β}, l.mapM f = some ys → ∀ x ∈ l, ∃ y, f x = some y
  | [], _, _, _, hx => by cases hx
  | a :: l, ys, h, x, hx => by
    rw [List.mapM_cons] at h
    cases ha : f a with
    | none => rw [ha] at h; cases h
    | some y =>
      rw [ha] at h
      cases hl : l.mapM f with
      | none => rw [hl] at h; cases h
      | some zs =>
        rcases List.mem_cons.1 hx with rfl | hx
        · exact ⟨y, ha⟩
        · exact mapM_each hl x hx
/-- An array of numbers. -/
theorem reads_arr {t et : TypeId} {n : Nat} (ht : P.underlying t = some (.array n et)) (hc : P.cellsOf t = n) (ce : P.cellsOf et = 1) (te : P.underlying et = some (.int .i64)) {fuel : Nat} {cs : List Value} {x : DataW H × List MemPlace} (h : DataW.trod enc P w 0 sp hd fuel t cs = some x) :
    ∃ zs : List Int, zs.length = n ∧ cs = zs.map (Value.int .i64) := by
  cases fuel with
  | zero => simp [DataW.trod] at h
  | succ k =>
    unfold DataW.trod at h
    rw [ht] at h
    simp only [ce, Nat.mul_one] at h
    split at h
    · rename_i hl
      rw [hc] at hl
      obtain ⟨ys, hm, _⟩ := Option.map_eq_some_iff.1 h
      have hread : ∀ i, i < n → ∃ z, cs[i]? = some (.int .i64 z) := fun i hi => by
        have hmem : ∃ y, DataW.trod enc P w 0 sp hd k et ((cs.drop i).take 1) = some y := mapM_each hm i (by simpa using hi)
        obtain ⟨y, hy⟩ := hmem
        obtain ⟨z, hz⟩ := reads_int te hy
        refine ⟨z, ?_⟩
        have : ((cs.drop i).take 1)[0]? = some (.int .i64 z) := by rw [hz]; rfl
        simpa using this
      haveI : Inhabited Int := ⟨0⟩
      obtain ⟨f, hf⟩ := choose_lt hread
      refine ⟨(List.range n).map f, by simp, ?_⟩
      refine List.ext_getElem? fun i => ?_
      by_cases hi : i < n
      · rw [hf i hi]; simp [hi]
      · rw [List.getElem?_eq_none (by omega), List.getElem?_eq_none (by simp; omega)]
    · cases h
end
end Go.Di

namespace Go.Di
open Go.RowKit Go.ChangeShapes Go.WideShapes Go.Deep Go.ChangeAt Go.Proofs

/-! ### The program's facts -/
theorem laidOut : laidOutB Tryd.prog = true := by kernel_rfl
theorem own : ownKnob Tryd.prog.godebug = none := by kernel_rfl
theorem gNowhere : Tryd.prog.globalNamed "prow/chain.nowhere" = some 1 := by kernel_rfl
theorem gThins : Tryd.prog.globalNamed "prow/chain.thins" = some 0 := by kernel_rfl
theorem tNowhere : (Tryd.prog.globals[1]?).map (·.type) = some 179 := by kernel_rfl
theorem tThins : (Tryd.prog.globals[0]?).map (·.type) = some 136 := by kernel_rfl

section
variable {H : Type} {enc : TypeId × Value → H} {w : World} {sp : Nat → Bool} {hd : Bool}
theorem reads3 : ReadsE enc Tryd.prog w sp hd 3 .int := fun fuel cs x h => by
  obtain ⟨n, rfl⟩ := reads_int (t := 3) (by kernel_rfl) h
  exact ⟨n, rfl, rfl⟩
/-- The fields of a struct. -/
noncomputable def fld (t i : Nat) : Field := match Tryd.prog.underlying t with
  | some (.struct fs) => fs.getD i default
  | _ => default
theorem reads51 (fuel : Nat) (cs : List Value) (x : DataW H × List MemPlace) (h : DataW.trod enc Tryd.prog w 0 sp hd fuel 51 cs = some x) : ∃ a b, cs = [.int .i64 a, .int .i64 b] :=
  reads_two (t := 51) (f0 := fld 51 0) (f1 := fld 51 1) (by kernel_rfl) (by kernel_rfl) (by kernel_rfl) (by kernel_rfl) (by kernel_rfl) (by kernel_rfl) (by kernel_rfl) (by kernel_rfl) h
theorem reads76 : ReadsE enc Tryd.prog w sp hd 76 .sec := fun fuel cs x h => by
  obtain ⟨a, b, c, d, rfl⟩ := reads_sec (t := 76) (f0 := fld 76 0) (f1 := fld 76 1) (by kernel_rfl) (by kernel_rfl) (by kernel_rfl) (by kernel_rfl) (by kernel_rfl) (by kernel_rfl) (by rw [show (fld 76 0).type = 51 from by kernel_rfl]; exact reads51) (by rw [show (fld 76 1).type = 51 from by kernel_rfl]; exact reads51) h
  exact ⟨(⟨⟨a, b⟩, ⟨c, d⟩⟩ : Sec), rfl, rfl⟩
theorem reads34 : ReadsE enc Tryd.prog w sp hd 34 .sv := fun fuel cs x h => by
  obtain ⟨a, b, c, d, rfl⟩ := reads_four (t := 34) (f0 := fld 34 0) (f1 := fld 34 1) (f2 := fld 34 2) (f3 := fld 34 3) (by kernel_rfl) (by kernel_rfl) (by kernel_rfl) (by kernel_rfl) (by kernel_rfl) (by kernel_rfl) (by kernel_rfl) (by kernel_rfl) (by kernel_rfl) (by kernel_rfl) (by kernel_rfl) (by kernel_rfl) (by kernel_rfl) (by kernel_rfl) h
  exact ⟨(⟨a, b, c, d⟩ : Sv), rfl, rfl⟩
theorem cells_agg {v : Value} {cs : Array Value} (h : v = .agg cs) : v.cells.toList = cs.toList := by subst h; rfl
/-- A book as an argument. -/
theorem arg26 {r : Reach} {b0 : Nat} {v : Value} {d : DataW H} {ps : List MemPlace} (hval : Value.okWide Tryd.prog w r b0 26 v) (h : DataW.Trod enc Tryd.prog w 0 sp hd 26 v d ps) : ∃ b : Book, Small b ∧ Rel (Old w) w (bookD b) v := by
  have hu : Tryd.prog.underlying 26 = some (.struct #[fld 26 0, fld 26 1, fld 26 2, fld 26 3, fld 26 4]) := by kernel_rfl
  unfold Value.okWide at hval
  rw [hu] at hval
  obtain ⟨cs, rfl, _⟩ := hval
  obtain ⟨fuel, h⟩ := h
  obtain ⟨b, h1, h2, h3, h4⟩ := reads_book (t := 26) hu (by kernel_rfl) (by kernel_rfl) (by kernel_rfl) (by kernel_rfl) (by kernel_rfl) (by kernel_rfl) (by kernel_rfl) (by kernel_rfl) (by kernel_rfl) (by kernel_rfl) (by kernel_rfl) (e0 := 76) (e1 := 3) (e2 := 34) (by kernel_rfl) (by kernel_rfl) (by kernel_rfl) (by kernel_rfl) (by kernel_rfl) (by kernel_rfl) (by kernel_rfl) (by kernel_rfl) reads76 reads3 reads34 h
  have hm : maxLen ≤ 9223372036854775807 := by decide
  exact ⟨b, ⟨by omega, by omega, by omega⟩, cs, rfl, h1⟩
/-- Two numbers as an argument. -/
theorem arg27 {r : Reach} {b0 : Nat} {v : Value} {d : DataW H} {ps : List MemPlace} (hval : Value.okWide Tryd.prog w r b0 27 v) (h : DataW.Trod enc Tryd.prog w 0 sp hd 27 v d ps) : ∃ n0 n1 : Int, Rel (Old w) w (.agg [.int .i64 n0, .int .i64 n1]) v := by
  have hu : Tryd.prog.underlying 27 = some (.array 2 3) := by kernel_rfl
  unfold Value.okWide at hval
  rw [hu] at hval
  obtain ⟨cs, rfl, _⟩ := hval
  obtain ⟨fuel, h⟩ := h
  obtain ⟨zs, h1, h2⟩ := reads_arr hu (by kernel_rfl) (by kernel_rfl) (by kernel_rfl) h
  match zs, h1 with
  | [a, b], _ =>
    refine ⟨a, b, cs, rfl, ?_⟩
    rw [show cs.toList = [.int .i64 a, .int .i64 b] from h2]
    exact ⟨rfl, rfl, trivial⟩
end

/-! ### The listed variables -/
theorem trod_arr2 {H : Type} {enc : TypeId × Value → H} {P : Program} {w : World} {sp : Nat → Bool} {hd : Bool} {t et : TypeId} (ht : P.underlying t = some (.array 2 et)) (hc : P.cellsOf t = 2) (ce : P.cellsOf et = 1) {fuel : Nat} {cs : List Value} {d0 d1 : DataW H} {ps : List MemPlace}
    (h : DataW.trod enc P w 0 sp hd fuel t cs = some (.agg [d0, d1], ps)) : ∃ v0 v1 k q0 q1, cs = [v0, v1] ∧ DataW.trod enc P w 0 sp hd k et [v0] = some (d0, q0) ∧ DataW.trod enc P w 0 sp hd k et [v1] = some (d1, q1) := by
  cases fuel with
  | zero => simp [DataW.trod] at h
  | succ k =>
    unfold DataW.trod at h
    rw [ht] at h
    simp only [ce, Nat.mul_one] at h
    split at h
    · rename_i hl
      rw [hc] at hl
      match cs, hl with
      | [v0, v1], _ =>
        have hr : List.range 2 = [0, 1] := rfl
        rw [hr] at h
        simp only [List.mapM_cons, List.mapM_nil] at h
        cases h0 : DataW.trod enc P w 0 sp hd k et (List.take 1 (List.drop 0 [v0, v1])) with
        | none => rw [h0] at h; cases h
        | some x0 =>
          rw [h0] at h
          cases h1 : DataW.trod enc P w 0 sp hd k et (List.take 1 (List.drop 1 [v0, v1])) with
          | none => rw [h1] at h; cases h
          | some x1 =>
            rw [h1] at h
            have h' : (DataW.agg [x0.1, x1.1], x0.2 ++ (x1.2 ++ [])) = (DataW.agg [d0, d1], ps) := Option.some.inj h
            simp only [Prod.mk.injEq, DataW.agg.injEq, List.cons.injEq, and_true] at h'
            obtain ⟨⟨rfl, rfl⟩, _⟩ := h'
            exact ⟨v0, v1, k, x0.2, x1.2, rfl, h0, h1⟩
    · cases h
theorem trod_pair {H : Type} {enc : TypeId × Value → H} {w : World} {sp : Nat → Bool} {hd : Bool} {fuel : Nat} {cs : List Value} {a b : Int} {ps : List MemPlace}
    (h : DataW.trod enc Tryd.prog w 0 sp hd fuel 179 cs = some (.agg [.lit (.int .i64 a), .lit (.int .i64 b)], ps)) : cs = [.int .i64 a, .int .i64 b] := by
  obtain ⟨xs, k, _, hx, hl, hxl, hf⟩ := DataW.trod_struct (t := 179) (fs := #[fld 179 0, fld 179 1]) (by kernel_rfl) h
  have hc : Tryd.prog.cellsOf 179 = 2 := by kernel_rfl
  rw [hc] at hl
  have c0 : Tryd.prog.cellsOf (fld 179 0).type = 1 := by kernel_rfl
  have c1 : Tryd.prog.cellsOf (fld 179 1).type = 1 := by kernel_rfl
  have o0 : (fld 179 0).offset = 0 := by kernel_rfl
  have o1 : (fld 179 1).offset = 1 := by kernel_rfl
  match xs, hxl, cs, hl with
  | [y0, y1], _, [v0, v1], _ =>
    have g0 := hf 0 (fld 179 0) rfl
    have g1 := hf 1 (fld 179 1) rfl
    simp [o0, o1, c0, c1] at g0 g1
    obtain ⟨n0, e0, e0', _⟩ := DataW.trod_int (k := .i64) (by kernel_rfl) g0
    obtain ⟨n1, e1, e1', _⟩ := DataW.trod_int (k := .i64) (by kernel_rfl) g1
    simp only [List.cons.injEq, and_true] at e0 e1
    simp only [List.map_cons, List.map_nil, Prod.mk.injEq, DataW.agg.injEq, List.cons.injEq, and_true] at hx
    obtain ⟨⟨q0, q1⟩, _⟩ := hx
    rw [e0'] at q0
    rw [e1'] at q1
    simp only [DataW.lit.injEq, Lit.int.injEq, true_and] at q0 q1
    subst q0 q1
    rw [e0, e1]
theorem laid_glob {W : World} (h : laidMetH Tryd.prog [("prow/chain.nowhere", YtfkmodcjddfeiaaDoor.Rows.laid_prow_chain_nowhere), ("prow/chain.thins", YtfkmodcjddfeiaaDoor.Rows.laid_prow_chain_thins)] W) :
    ∀ g cs, glob g = some cs → Rel (Old W) W (.ref cs 0) (.pointer (some ⟨g, 0, none⟩)) := by
  intro g cs hg
  match g, hg with
  | 0, hg =>
    cases hg
    obtain ⟨g', t, vs, fuel, p, hg', ht, hv, hd⟩ := h.funcs (n := "prow/chain.thins") (List.mem_cons_of_mem _ (List.mem_cons_self ..))
    obtain rfl := Option.some.inj (gThins.symm.trans hg')
    obtain rfl := Option.some.inj (tThins.symm.trans ht)
    obtain ⟨v0, v1, k, q0, q1, e, h0, h1⟩ := trod_arr2 (t := 136) (et := 135) (by kernel_rfl) (by kernel_rfl) (by kernel_rfl) hd
    have hf : Tryd.prog.underlying 135 = some (.func #[137, 3] #[4] false) := by kernel_rfl
    obtain rfl := func_of_trod (f0 := 223) hf (by kernel_rfl) h0
    obtain rfl := func_of_trod (f0 := 225) hf (by kernel_rfl) h1
    refine ⟨0, 0, rfl, fun j d hj => ?_⟩
    have hc := World.var?_cell hg' hv
    have hs : vs = #[.func (.func 223) #[] #[], .func (.func 225) #[] #[]] := by rw [← Array.toArray_toList (xs := vs), e]
    match j, hj with
    | 0, hj =>
      cases hj
      have h0 := hc 0
      rw [hs] at h0
      exact ⟨_, ⟨#[], #[], rfl, trivial, trivial⟩, cell_old h0, h0⟩
    | 1, hj =>
      cases hj
      have h0 := hc 1
      rw [hs] at h0
      exact ⟨_, ⟨#[], #[], rfl, trivial, trivial⟩, cell_old h0, h0⟩
  | 1, hg =>
    cases hg
    obtain ⟨⟨ps, ⟨g', t, vs, fuel, p, q, hg', ht, hv, hd, _, _⟩, _⟩, _⟩ := h
    obtain rfl := Option.some.inj (gNowhere.symm.trans hg')
    obtain rfl := Option.some.inj (tNowhere.symm.trans ht)
    have e := trod_pair hd
    refine ⟨1, 0, rfl, fun j d hj => ?_⟩
    have hc := World.var?_cell hg' hv
    have hs : vs = #[.int .i64 (-1), .int .i64 (-1)] := by rw [← Array.toArray_toList (xs := vs), e]
    match j, hj with
    | 0, hj =>
      cases hj
      have h0 := hc 0
      rw [hs] at h0
      exact ⟨_, rfl, cell_old h0, h0⟩
    | 1, hj =>
      cases hj
      have h0 := hc 1
      rw [hs] at h0
      exact ⟨_, rfl, cell_old h0, h0⟩
end Go.Di

namespace Go.Di
open Go.RowKit Go.ChangeShapes Go.WideShapes Go.Deep Go.ChangeAt Go.Proofs
open Go.Proofs.YtfkmodcjddfeiaaDoor

def lay0 : Obj → Obj
  | .cells _ t frozen => .cells #[.func (.func 223) #[] #[], .func (.func 225) #[] #[]] t frozen
  | o => o
def lay1 : Obj → Obj
  | .cells _ t frozen => .cells #[.int .i64 (-1), .int .i64 (-1)] t frozen
  | o => o
/-- A world for the witness: the listed variables hold what the text lays. -/
noncomputable def laidWorld (os : Os) : World :=
  { World.holding Tryd.prog os ⟨#[], #[], []⟩ with heap := ((World.holding Tryd.prog os ⟨#[], #[], []⟩).heap.modify 0 lay0).modify 1 lay1 }
def noBook : Value := .agg #[.slice none 0 0, .slice none 0 0, .slice none 0 0, .int .i64 0, .int .i64 0]
def noTwo : Value := .agg #[.int .i64 0, .int .i64 0]
theorem laid_met (os : Os) (args : Array Value) : laidMetH Tryd.prog [("prow/chain.nowhere", Rows.laid_prow_chain_nowhere), ("prow/chain.thins", Rows.laid_prow_chain_thins)] ((laidWorld os).forCall (fun _ _ => 0) ⟨#[], args, []⟩).memory :=
  laidMetH_of_parts3 (fuel := 8) (laidMet_of_run' 8 (by kernel_rfl) (by kernel_rfl)) (by kernel_rfl) (by kernel_rfl)

/-- What a function's contract gives the row: from the reading of its arguments. -/
theorem calls_law {f : FuncId} {W : World} {args : Array Value} {ds : List D} (hc : Contract Tryd.prog glob f ds (.bool true)) (hg : ∀ g cs, glob g = some cs → Rel (Old W) W (.ref cs 0) (.pointer (some ⟨g, 0, none⟩))) (ha : All2 (Rel (Old W) W) ds args.toList) :
    Calls Tryd.prog f args W fun e W' => e = .returned (.bool true) ∧ Below W.heap.size W W' := by
  have := hc.calls W (Old W) args.toList (fun b o h => h) hg ha
  rw [Array.toArray_toList] at this
  exact this.mono fun e W' ⟨v, he, hb, R', _, _, hr⟩ => ⟨by rw [he, show v = .bool true from hr], hb⟩
theorem under4 : Tryd.prog.underlying 4 = some .bool := by kernel_rfl

/-! ### ChainFirst: the row -/
theorem cfirst_lifted (os : Os) (started : os.Started) (H : Type) (enc : TypeId × Value → H) (F : Stop.Interp) :
    ReturnsInHanded {} Tryd.checked os 9 .any ((OpenSpec.ofChange Rows.chainFirstSpec).preRow enc Tryd.prog Tryd.f9 Rows.chainFirstRow.domain false Rows.chainFirstRow.laid) (((OpenSpec.ofChange Rows.chainFirstSpec).at F).post enc Tryd.prog Tryd.f9 false true false false) := by
  refine returnsInHanded_of_row (C := Tryd.checked) (s := OpenSpec.ofChange Rows.chainFirstSpec) own started (by kernel_rfl) (fn := Tryd.f9) (by kernel_rfl)
    (witness_row_atRef (enc := enc) (C := Tryd.checked) false (laidWorld os) #[noBook, noTwo] rfl (by kernel_rfl) (by kernel_rfl) (by kernel_rfl)
      (OpenSpec.preRow_of_B rfl 8 (by kernel_rfl) (by kernel_rfl) (laid_met os _))) ?_
  intro W base args ds gs before hval hW _ _ _ hL _ _
  have hp : Tryd.f9.params.toList = [26, 27] := by kernel_rfl
  have hW' := hW
  obtain ⟨p, q, hA, hV, _, _, _⟩ := hW
  rw [hp] at hA
  obtain ⟨v0, vs0, d0, ds0, p0, q0, hargs, rfl, _, h0, r0⟩ := trodAll_cons hA
  obtain ⟨v1, vs1, d1, ds1, p1, q1, hargs1, rfl, _, h1, r1⟩ := trodAll_cons r0
  obtain ⟨rfl, rfl, _⟩ := trodAll_nil r1
  obtain ⟨rfl, _⟩ := trodVars_none hV
  have hva : args = #[v0, v1] := by rw [← Array.toArray_toList (xs := args), hargs, hargs1]
  subst hva
  obtain ⟨b, hs, a0⟩ := arg26 (hval 0 26 v0 (by kernel_rfl) rfl) h0
  obtain ⟨n0, n1, a1⟩ := arg27 (hval 1 27 v1 (by kernel_rfl) rfl) h1
  have ha : All2 (Rel (Old W) W) [bookD b, .agg [.int .i64 n0, .int .i64 n1]] (#[v0, v1] : Array Value).toList := ⟨a0, a1, trivial⟩
  refine (calls_law (cfirst_con hs n0 n1) (laid_glob hL) ha).mono fun e W' ⟨he, hb⟩ => ?_
  exact ⟨_, he, law_post laidOut (by rw [hp]; intro t ht; simp at ht; rcases ht with rfl | rfl <;> exact ⟨by kernel_rfl, of_decide_eq_true (by kernel_rfl)⟩) rfl (by kernel_rfl) under4 hW' rfl hb⟩
end Go.Di

namespace Go.Di
open Go.RowKit Go.ChangeShapes Go.WideShapes Go.Deep Go.ChangeAt Go.Proofs
open Go.Proofs.YtfkmodcjddfeiaaDoor

/-! ### More kinds of arguments -/
section
variable {H : Type} {enc : TypeId × Value → H} {w : World} {sp : Nat → Bool} {hd : Bool}
theorem int_of_ok {t : TypeId} {r : Reach} {b0 : Nat} {v : Value} (hu : Tryd.prog.underlying t = some (.int .i64)) (h : Value.okWide Tryd.prog w r b0 t v) : ∃ n, v = .int .i64 n := by
  unfold Value.okWide at h
  rw [hu] at h
  simp only at h
  unfold Cell.okWide at h
  rw [hu] at h
  unfold Cell.ok at h
  rw [hu] at h
  cases v <;> simp only at h <;> first | exact h.elim | (obtain ⟨rfl, _⟩ := h; exact ⟨_, rfl⟩)
theorem slice_of_ok {t et : TypeId} {r : Reach} {b0 : Nat} {v : Value} (hu : Tryd.prog.underlying t = some (.slice et)) (h : Value.okWide Tryd.prog w r b0 t v) : v.cells.toList = [v] := by
  unfold Value.okWide at h
  rw [hu] at h
  simp only at h
  unfold Cell.okWide at h
  rw [hu] at h
  unfold Cell.ok at h
  rw [hu] at h
  cases v <;> simp only at h <;> first | exact h.elim | rfl
/-- A number. -/
theorem arg3 {r : Reach} {b0 : Nat} {v : Value} {d : DataW H} {ps : List MemPlace} (hval : Value.okWide Tryd.prog w r b0 3 v) (h : DataW.Trod enc Tryd.prog w 0 sp hd 3 v d ps) : ∃ n : Int, Rel (Old w) w (.int .i64 n) v := by
  obtain ⟨n, rfl⟩ := int_of_ok (by kernel_rfl) hval
  exact ⟨n, rfl⟩
/-- Four numbers. -/
theorem arg64 {r : Reach} {b0 : Nat} {v : Value} {d : DataW H} {ps : List MemPlace} (hval : Value.okWide Tryd.prog w r b0 64 v) (h : DataW.Trod enc Tryd.prog w 0 sp hd 64 v d ps) : ∃ n0 n1 n2 n3 : Int, Rel (Old w) w (.agg [.int .i64 n0, .int .i64 n1, .int .i64 n2, .int .i64 n3]) v := by
  have hu : Tryd.prog.underlying 64 = some (.array 4 3) := by kernel_rfl
  unfold Value.okWide at hval
  rw [hu] at hval
  obtain ⟨cs, rfl, _⟩ := hval
  obtain ⟨fuel, h⟩ := h
  obtain ⟨zs, h1, h2⟩ := reads_arr hu (by kernel_rfl) (by kernel_rfl) (by kernel_rfl) h
  match zs, h1 with
  | [a, b, c, d], _ =>
    refine ⟨a, b, c, d, cs, rfl, ?_⟩
    rw [show cs.toList = [.int .i64 a, .int .i64 b, .int .i64 c, .int .i64 d] from h2]
    exact ⟨rfl, rfl, rfl, rfl, trivial⟩
/-- A survey. -/
theorem arg34 {r : Reach} {b0 : Nat} {v : Value} {d : DataW H} {ps : List MemPlace} (hval : Value.okWide Tryd.prog w r b0 34 v) (h : DataW.Trod enc Tryd.prog w 0 sp hd 34 v d ps) : ∃ y : Sv, Rel (Old w) w (svD y) v := by
  have hu : Tryd.prog.underlying 34 = some (.struct #[fld 34 0, fld 34 1, fld 34 2, fld 34 3]) := by kernel_rfl
  unfold Value.okWide at hval
  rw [hu] at hval
  obtain ⟨cs, rfl, _⟩ := hval
  obtain ⟨fuel, h⟩ := h
  obtain ⟨a, b, c, d, h2⟩ := reads_four (t := 34) (f0 := fld 34 0) (f1 := fld 34 1) (f2 := fld 34 2) (f3 := fld 34 3) (by kernel_rfl) (by kernel_rfl) (by kernel_rfl) (by kernel_rfl) (by kernel_rfl) (by kernel_rfl) (by kernel_rfl) (by kernel_rfl) (by kernel_rfl) (by kernel_rfl) (by kernel_rfl) (by kernel_rfl) (by kernel_rfl) (by kernel_rfl) h
  refine ⟨⟨a, b, c, d⟩, cs, rfl, ?_⟩
  rw [show cs.toList = [.int .i64 a, .int .i64 b, .int .i64 c, .int .i64 d] from h2]
  exact ⟨rfl, rfl, rfl, rfl, trivial⟩
/-- A list of numbers. -/
theorem arg23 {r : Reach} {b0 : Nat} {v : Value} {d : DataW H} {ps : List MemPlace} (hval : Value.okWide Tryd.prog w r b0 23 v) (h : DataW.Trod enc Tryd.prog w 0 sp hd 23 v d ps) : ∃ l : List Int, l.length ≤ 9223372036854775807 ∧ Rel (Old w) w (.sl false .int l) v := by
  have hu : Tryd.prog.underlying 23 = some (.slice 3) := by kernel_rfl
  have hc := slice_of_ok hu hval
  obtain ⟨fuel, h⟩ := h
  obtain ⟨v', l, h1, h2, h3⟩ := reads_slice (e := .int) hu (by kernel_rfl) reads3 h
  rw [hc] at h1
  simp only [List.cons.injEq, and_true] at h1
  subst h1
  have hm : maxLen ≤ 9223372036854775807 := by decide
  exact ⟨l, Nat.le_trans h3 hm, h2⟩
end
end Go.Di

namespace Go.Di

/-! ### What the surveys say -/
/-- Surveys let a section be so thick at first. -/
def SatE (b : Book) (x : W4) (k t : Int) (e : Ent) : Prop := eqI [e.1.1, e.1.2] [-1, -1] = false → (e.1.1 == k) = true → e.2.lo + wornF b.secs.length x.a x.b x.c x.d b.turns k e.1.2.toNat ≤ t ∧ t ≤ e.2.hi + wornF b.secs.length x.a x.b x.c x.d b.turns k e.1.2.toNat
theorem both_in {s u : Span} {t : Int} : ((bothF s u).lo ≤ t ∧ t ≤ (bothF s u).hi) ↔ (s.lo ≤ t ∧ t ≤ s.hi) ∧ (u.lo ≤ t ∧ t ≤ u.hi) := by
  simp only [bothF, mx, mn]
  constructor
  · intro h
    split at h <;> split at h <;> omega
  · intro h
    split <;> split <;> omega
theorem right_fold (b : Book) (x : W4) (k t : Int) : ∀ (l : List Ent) (s : Span), ((l.foldl (rightStep b x.a x.b x.c x.d k) s).lo ≤ t ∧ t ≤ (l.foldl (rightStep b x.a x.b x.c x.d k) s).hi) ↔ (s.lo ≤ t ∧ t ≤ s.hi) ∧ ∀ e ∈ l, SatE b x k t e
  | [], s => by simp
  | e :: l, s => by
    simp only [List.foldl_cons]
    rw [right_fold b x k t l]
    have : ((rightStep b x.a x.b x.c x.d k s e).lo ≤ t ∧ t ≤ (rightStep b x.a x.b x.c x.d k s e).hi) ↔ (s.lo ≤ t ∧ t ≤ s.hi) ∧ SatE b x k t e := by
      unfold rightStep SatE
      by_cases h : eqI [e.1.1, e.1.2] [-1, -1] = false ∧ (e.1.1 == k) = true
      · rw [if_pos h, both_in]
        exact and_congr_right fun _ => ⟨fun h' _ _ => h', fun h' => h' h.1 h.2⟩
      · rw [if_neg h]
        constructor
        · exact fun h' => ⟨h', fun h1 h2 => absurd ⟨h1, h2⟩ h⟩
        · exact fun h' => h'.1
    rw [this]
    simp only [List.mem_cons, forall_eq_or_imp]
    exact and_assoc
/-- What one survey says. -/
def SatY (b : Book) (x : W4) (k t : Int) (y : Sv) : Prop := y.s = k → y.r - y.e + wornF b.secs.length x.a x.b x.c x.d b.turns k y.d.toNat ≤ t ∧ t ≤ y.r + y.e + wornF b.secs.length x.a x.b x.c x.d b.turns k y.d.toNat
theorem eqI_key {a c : Int} (h : 0 ≤ a) : eqI [a, c] [-1, -1] = false := by
  cases hq : eqI [a, c] [-1, -1] with
  | false => rfl
  | true =>
    have := (eqI_iff _ _).1 hq
    simp only [List.cons.injEq, and_true] at this
    omega
theorem satE_key {b : Book} {x : W4} {k t : Int} {ks kd : Int} (h : 0 ≤ ks) (s u : Span) : SatE b x k t ((ks, kd), bothF s u) ↔ SatE b x k t ((ks, kd), s) ∧ SatE b x k t ((ks, kd), u) := by
  unfold SatE
  simp only [eqI_key h, true_implies]
  have e : ∀ z : Span, (z.lo + wornF b.secs.length x.a x.b x.c x.d b.turns k kd.toNat ≤ t ∧ t ≤ z.hi + wornF b.secs.length x.a x.b x.c x.d b.turns k kd.toNat) ↔ (z.lo ≤ t - wornF b.secs.length x.a x.b x.c x.d b.turns k kd.toNat ∧ t - wornF b.secs.length x.a x.b x.c x.d b.turns k kd.toNat ≤ z.hi) := fun z => by omega
  rw [e, e, e, both_in]
  constructor
  · exact fun h => ⟨fun hk => (h hk).1, fun hk => (h hk).2⟩
  · exact fun h hk => ⟨h.1 hk, h.2 hk⟩
theorem upd_sat {b : Book} {x : W4} {k t : Int} {ks kd : Int} (h : 0 ≤ ks) (s : Span) : ∀ l : List Ent, (∀ e ∈ updK l (ks, kd) (match lookK l (ks, kd) with | some old => bothF old s | none => s), SatE b x k t e) ↔ (∀ e ∈ l, SatE b x k t e) ∧ SatE b x k t ((ks, kd), s)
  | [] => by simp [updK, lookK]
  | (k', v) :: l => by
    simp only [updK, lookK]
    by_cases hk : (ks, kd) = k'
    · subst hk
      rw [if_pos rfl, if_pos rfl]
      simp only [List.mem_cons, forall_eq_or_imp]
      rw [satE_key h]
      exact ⟨fun ⟨⟨h1, h2⟩, h3⟩ => ⟨⟨h1, h3⟩, h2⟩, fun ⟨⟨h1, h3⟩, h2⟩ => ⟨⟨h1, h2⟩, h3⟩⟩
    · rw [if_neg hk, if_neg hk]
      simp only [List.mem_cons, forall_eq_or_imp]
      rw [upd_sat h s l]
      exact and_assoc.symm
theorem open_sat {b : Book} (but : List Int) {x : W4} {k t : Int} (hs : ∀ y ∈ b.svs, 0 ≤ y.s) : ∀ m, m ≤ b.svs.length → ((∀ e ∈ openTo b but m, SatE b x k t e) ↔ ∀ i < m, (i : Int) ∉ but → SatY b x k t (svZ b i))
  | 0, _ => by
    simp only [openTo, List.mem_singleton, forall_eq, Nat.not_lt_zero, false_implies, implies_true, iff_true]
    intro h
    cases h
  | m + 1, hm => by
    have ih := open_sat but (x := x) (k := k) (t := t) hs m (by omega)
    simp only [openTo, openStep]
    have hin : svZ b m ∈ b.svs := getD_mem b.svs m sv0 (by omega)
    have hY : SatE b x k t (((svZ b m).s, (svZ b m).d), ⟨(svZ b m).r - (svZ b m).e, (svZ b m).r + (svZ b m).e⟩) ↔ SatY b x k t (svZ b m) := by
      unfold SatE SatY
      simp only [eqI_key (hs _ hin), true_implies, beq_iff_eq]
    by_cases hb : (m : Int) ∈ but
    · rw [if_pos hb, ih]
      constructor
      · intro h i hi hn
        by_cases e : i = m
        · subst e; exact absurd hb hn
        · exact h i (by omega) hn
      · exact fun h i hi hn => h i (by omega) hn
    · rw [if_neg hb]
      have := upd_sat (b := b) (x := x) (k := k) (t := t) (kd := (svZ b m).d) (hs _ hin) ⟨(svZ b m).r - (svZ b m).e, (svZ b m).r + (svZ b m).e⟩ (openTo b but m)
      refine this.trans ?_
      rw [ih, hY]
      constructor
      · rintro ⟨h1, h2⟩ i hi hn
        by_cases e : i = m
        · subst e; exact h2
        · exact h1 i (by omega) hn
      · exact fun h => ⟨fun i hi hn => h i (by omega) hn, h m (by omega) hb⟩

/-! ### Truths -/
def W4.at (x : W4) (p : Nat) : Int := [x.a, x.b, x.c, x.d].getD p 0
/-- How thick sections are at first, and what places wear: as all that is told lets it be. -/
structure Feas (b : Book) (but : List Int) (T : Nat → Int) (x : W4) : Prop where
  wear : ∀ p < b.secs.length, (b.secs.getD p sec0).w.lo ≤ x.at p ∧ x.at p ≤ (b.secs.getD p sec0).w.hi
  zero : ∀ p, b.secs.length ≤ p → x.at p = 0
  thick : ∀ k < b.secs.length, (b.secs.getD k sec0).t.lo ≤ T k ∧ T k ≤ (b.secs.getD k sec0).t.hi
  right : ∀ i < b.svs.length, (i : Int) ∉ but → ∀ k : Nat, k < b.secs.length → SatY b x k (T k) (svZ b i)
theorem right_mem {b : Book} (but : List Int) {x : W4} (hs : ∀ y ∈ b.svs, 0 ≤ y.s) (k : Nat) (t : Int) : ((rightF b (openF b but) x.a x.b x.c x.d k).lo ≤ t ∧ t ≤ (rightF b (openF b but) x.a x.b x.c x.d k).hi) ↔ ((b.secs.getD k sec0).t.lo ≤ t ∧ t ≤ (b.secs.getD k sec0).t.hi) ∧ ∀ i < b.svs.length, (i : Int) ∉ but → SatY b x k t (svZ b i) := by
  unfold rightF
  rw [right_fold, Int.toNat_natCast]
  unfold openF
  rw [open_sat but hs _ (Nat.le_refl _)]

/-! ### One truth for each wear -/
def leafSet (b : Book) (l : List Ent) (x : W4) : Nat → Nat → TrC → TrC
  | 0, _, t => t
  | f + 1, i, t => leafSet b l x f (i + 1) (setF t i (rightF b l x.a x.b x.c x.d i))
theorem leafGo_mem (b : Book) (l : List Ent) (x : W4) (u : TrC) : ∀ (f i : Nat) (t : TrC), u ∈ leafGo b l x f i t ↔ (∀ k, i ≤ k → k < i + f → (rightF b l x.a x.b x.c x.d k).lo ≤ (rightF b l x.a x.b x.c x.d k).hi) ∧ u = leafSet b l x f i t
  | 0, i, t => by
    simp only [leafGo, leafSet, List.mem_singleton]
    exact ⟨fun h => ⟨fun k h1 h2 => by omega, h⟩, fun h => h.2⟩
  | f + 1, i, t => by
    simp only [leafGo, leafSet]
    by_cases h : (rightF b l x.a x.b x.c x.d i).lo ≤ (rightF b l x.a x.b x.c x.d i).hi
    · rw [if_pos h, leafGo_mem b l x u f (i + 1)]
      refine and_congr_left fun _ => ⟨fun h' k h1 h2 => ?_, fun h' k h1 h2 => h' k (by omega) (by omega)⟩
      by_cases e : k = i
      · subst e; exact h
      · exact h' k (by omega) (by omega)
    · rw [if_neg h]
      simp only [List.not_mem_nil, false_iff, not_and]
      exact fun h' => absurd (h' i (Nat.le_refl _) (by omega)) h
theorem firstF_set (t : TrC) (i : Nat) (s : Span) (hi : i < 4) (k : Nat) (hk : k < 4) : firstF (setF t i s) k = if k = i then s else firstF t k := by
  unfold firstF
  rw [Int.toNat_natCast]
  match i, hi, k, hk with
  | 0, _, 0, _ => rfl | 0, _, 1, _ => rfl | 0, _, 2, _ => rfl | 0, _, 3, _ => rfl
  | 1, _, 0, _ => rfl | 1, _, 1, _ => rfl | 1, _, 2, _ => rfl | 1, _, 3, _ => rfl
  | 2, _, 0, _ => rfl | 2, _, 1, _ => rfl | 2, _, 2, _ => rfl | 2, _, 3, _ => rfl
  | 3, _, 0, _ => rfl | 3, _, 1, _ => rfl | 3, _, 2, _ => rfl | 3, _, 3, _ => rfl
theorem leafSet_first (b : Book) (l : List Ent) (x : W4) : ∀ (f i : Nat) (t : TrC), i + f ≤ 4 → ∀ k : Nat, k < 4 → firstF (leafSet b l x f i t) k = if i ≤ k ∧ k < i + f then rightF b l x.a x.b x.c x.d k else firstF t k
  | 0, i, t, _, k, _ => by
    rw [if_neg (by omega)]
    rfl
  | f + 1, i, t, h, k, hk => by
    simp only [leafSet]
    rw [leafSet_first b l x f (i + 1) _ (by omega) k hk]
    by_cases h1 : i + 1 ≤ k ∧ k < i + 1 + f
    · rw [if_pos h1, if_pos (by omega)]
    · rw [if_neg h1, firstF_set t i _ (by omega) k hk]
      by_cases e : k = i
      · subst e
        rw [if_pos rfl, if_pos (by omega)]
      · rw [if_neg e, if_neg (by omega)]
theorem leafSet_w (b : Book) (l : List Ent) (x : W4) : ∀ (f i : Nat) (t : TrC), (leafSet b l x f i t).w0 = t.w0 ∧ (leafSet b l x f i t).w1 = t.w1 ∧ (leafSet b l x f i t).w2 = t.w2 ∧ (leafSet b l x f i t).w3 = t.w3
  | 0, _, _ => ⟨rfl, rfl, rfl, rfl⟩
  | f + 1, i, t => by
    simp only [leafSet]
    obtain ⟨h1, h2, h3, h4⟩ := leafSet_w b l x f (i + 1) (setF t i (rightF b l x.a x.b x.c x.d i))
    obtain ⟨g1, g2, g3, g4⟩ := setF_w t i (rightF b l x.a x.b x.c x.d i)
    exact ⟨h1.trans g1, h2.trans g2, h3.trans g3, h4.trans g4⟩
theorem set_at (x : W4) (p : Nat) (n : Int) (hp : p < 4) (q : Nat) : (x.set p n).at q = if q = p then n else x.at q := by
  match p, hp, q with
  | 0, _, 0 => rfl | 0, _, 1 => rfl | 0, _, 2 => rfl | 0, _, 3 => rfl
  | 1, _, 0 => rfl | 1, _, 1 => rfl | 1, _, 2 => rfl | 1, _, 3 => rfl
  | 2, _, 0 => rfl | 2, _, 1 => rfl | 2, _, 2 => rfl | 2, _, 3 => rfl
  | 3, _, 0 => rfl | 3, _, 1 => rfl | 3, _, 2 => rfl | 3, _, 3 => rfl
  | 0, _, q + 4 => simp [W4.at]
  | 1, _, q + 4 => simp [W4.at]
  | 2, _, q + 4 => simp [W4.at]
  | 3, _, q + 4 => simp [W4.at]
theorem W4.ext_at {x y : W4} (h : ∀ q, q < 4 → x.at q = y.at q) : x = y := by
  obtain ⟨a, b, c, d⟩ := x
  obtain ⟨a', b', c', d'⟩ := y
  have h0 : a = a' := h 0 (by omega)
  have h1 : b = b' := h 1 (by omega)
  have h2 : c = c' := h 2 (by omega)
  have h3 : d = d' := h 3 (by omega)
  rw [h0, h1, h2, h3]
theorem rates_mem' {s : Span} {n : Int} (h0 : 0 ≤ s.lo) : n ∈ ratesF s ↔ s.lo ≤ n ∧ n ≤ s.hi := by
  rw [rates_mem]
  omega
theorem whole_mem {b : Book} (l : List Ent) (u : TrC) (hw : ∀ p, 0 ≤ (b.secs.getD p sec0).w.lo) : ∀ (f p : Nat) (x : W4), p + f ≤ 4 → (u ∈ wholeGo b l f p x ↔ ∃ y : W4, (∀ q, ¬ (p ≤ q ∧ q < p + f) → y.at q = x.at q) ∧ (∀ q, p ≤ q → q < p + f → (b.secs.getD q sec0).w.lo ≤ y.at q ∧ y.at q ≤ (b.secs.getD q sec0).w.hi) ∧ u ∈ leafF b l y)
  | 0, p, x, _ => by
    simp only [wholeGo]
    constructor
    · exact fun h => ⟨x, fun _ _ => rfl, fun q h1 h2 => by omega, h⟩
    · rintro ⟨y, h1, _, h3⟩
      have : y = x := W4.ext_at fun q _ => h1 q (by omega)
      rwa [this] at h3
  | f + 1, p, x, hp => by
    simp only [wholeGo, List.mem_flatMap]
    constructor
    · rintro ⟨n, hn, h⟩
      obtain ⟨y, h1, h2, h3⟩ := (whole_mem l u hw f (p + 1) (x.set p n) (by omega)).1 h
      have hn' := (rates_mem' (hw p)).1 hn
      refine ⟨y, fun q hq => ?_, fun q q1 q2 => ?_, h3⟩
      · rw [h1 q (by omega), set_at x p n (by omega), if_neg (by omega)]
      · by_cases e : q = p
        · subst e
          rw [h1 q (by omega), set_at x q n (by omega), if_pos rfl]
          exact hn'
        · exact h2 q (by omega) (by omega)
    · rintro ⟨y, h1, h2, h3⟩
      refine ⟨y.at p, (rates_mem' (hw p)).2 (h2 p (Nat.le_refl _) (by omega)), (whole_mem l u hw f (p + 1) (x.set p (y.at p)) (by omega)).2 ⟨y, fun q hq => ?_, fun q q1 q2 => h2 q (by omega) (by omega), h3⟩⟩
      rw [set_at x p _ (by omega)]
      by_cases e : q = p
      · rw [if_pos e, e]
      · rw [if_neg e]
        exact h1 q (by omega)
end Go.Di

