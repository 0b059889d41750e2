/- Part 24: an interpreter over plain data for this code, with the proof that it says what the model does, and the contracts of the functions. No condition. -/
import Derived.Test.YtfkmodcjddfeiaaDoorDi23
set_option linter.unusedVariables false
set_option linter.unusedSimpArgs false
namespace Go.Di
open Proofs
open Go.RowKit
section
variable {C : Cfg} {w0 w : World} {R0 : Foot} {a : Act}
theorem WpL.after {P : Program} {c : Code} {L : List (Key × Val)} {Post Post' : Ex → List (Key × Val) → Prop} (h : WpL P C c L Post) (hp : ∀ e L' w0 R0 a w,Post e L' → Holds C w0 R0 a w (ofL L') → ∃ L'',Post' e L'' ∧ Holds C w0 R0 a w (ofL L'')) : WpL P C c L Post' :=
 fun w0 R0 a w Q ro n hro hH hQ => h w0 R0 a w Q ro n hro hH fun e L' a' w' h1 h2 => by
  obtain ⟨L'',h3,h4⟩ := hp e L' w0 R0 a' w' h1 h2
  exact hQ e L'' a' w' h3 h4
theorem Holds.tellRow {L : List (Key × Val)} (h : Holds C w0 R0 a w (ofL L)) {i k n : Nat} {e : E} {ys : List e.α} (hb : (ofL L).bx i = some ⟨false,[.own k n]⟩) (ho : (ofL L).ob k = some ⟨e,ys⟩) (hn : n = ys.length) : Holds C w0 R0 a w (ofL ((.box i,.bx (some ⟨false,[.sl false e ys]⟩)) :: L)) := by
 obtain ⟨β,σ,R,hI⟩ := h
 obtain ⟨q1,⟨arr,el,q2,_,q3,_⟩,q4⟩ := hI.box i _ hb
 obtain ⟨v,vs,e1,q5,q6⟩ := all2_cons (q3 rfl)
 obtain rfl := all2_nil q6
 refine ⟨β,σ,R,hI.storeBox hb rfl [.sl false e ys] q2 q2 (fun _ _ => rfl) ⟨rfl,rfl,rfl,rfl⟩ ?_⟩
 have e1' : arr.toList.take 1 = [v] := e1
 rw [show ([D.sl false e ys] : List D).length = 1 from rfl,e1']
 exact ⟨obj_sl hI ho hn q5,trivial⟩
end

theorem allTo_succ (x : FBook) (th : List (List Int)) (wr : List Int) (i : Nat) : (List.range (i + 1)).map (changesF x th wr) = (List.range i).map (changesF x th wr) ++ [changesF x th wr i] := by
 rw [List.range_succ,List.map_append]; rfl
theorem all_loop {x : FBook} {th : List (List Int)} {wr : List Int} (hx : FIn x) (hk : KnOk x th wr) (m : Mp) (ke no : Nat → Prop) (w1 : World) (fv : Nat → Value) :
  WpL PRG (mkF PRG (lookN typesF) globF 24 ke no w1 [0,1,2,3] fv) (.seq (Code.at [1,1,0,0] (body Tryd.f179)) (.block 0 (.loop (Code.at [1,1,0,1,0,0] (body Tryd.f179))))) (hS1 x m th wr .nil)
   (fun e L' => e = .normal ∧ L' = hS1 x m th wr (.sl false (.list .int) (allF x th wr))) := by
 have hG : Good PRG (mkF PRG (lookN typesF) globF 24 ke no w1 [0,1,2,3] fv) := goodF mixed_ok typesF_ok
 obtain ⟨hn1,hn4⟩ := hx.n
 refine WpL.seq (WpL.path hG (h_2 x m th wr ke no w1 fv) trivial ?_)
 show WpL _ _ _ _ _
 refine WpL.after (Post := fun e L' => e = .normal ∧ ∃ y r,allF x th wr = y :: r ∧ L' = hL x m th wr x.feet.length (y :: r)) ?_ ?_
 ·refine WpL.block (WpL.loop (S := fun i : {i : Nat // i ≤ x.feet.length} => hL x m th wr i.1 ((List.range i.1).map (changesF x th wr))) (fun i => x.feet.length - i.1) ?_ ⟨0,Nat.zero_le _⟩)
  rintro ⟨i,hi⟩
  dsimp only
  by_cases hlt : i < x.feet.length
  ·have hc := changes_con hx hk m hlt
   have hgo : WpL PRG (mkF PRG (lookN typesF) globF 24 ke no w1 [0,1,2,3] fv) (Code.at [1,1,0,1,0,0] (body Tryd.f179)) (hL x m th wr i ((List.range i).map (changesF x th wr))) (fun e L' => e = .normal ∧ L' = hL x m th wr (i + 1) ((List.range i).map (changesF x th wr) ++ [changesF x th wr i])) := by
    have hlen : ((List.range i).map (changesF x th wr)).length = i := by simp
    cases hl : (List.range i).map (changesF x th wr) with
    | nil => exact WpL.path hG (h_on0 x m th wr i _ ke no w1 fv) ⟨decide_eq_true (by omega),hc,by omega,rfl,by simp only [inI64]; omega,trivial⟩ ⟨rfl,rfl⟩
    | cons y r =>
     rw [hl] at hlen
     exact WpL.path hG (h_on1 x m th wr i y r _ ke no w1 fv) ⟨decide_eq_true (by omega),hc,rfl,by rw [List.length_append,hlen]; simp; omega,rfl,by simp only [inI64]; omega,trivial⟩ ⟨rfl,rfl⟩
   refine hgo.mono fun e L' hL => ?_
   obtain ⟨rfl,rfl⟩ := hL
   exact ⟨⟨i + 1,hlt⟩,by dsimp only; rw [allTo_succ],by dsimp only; omega⟩
  ·have hie : i = x.feet.length := by omega
   subst hie
   cases hl : (List.range x.feet.length).map (changesF x th wr) with
   | nil =>
    have h := congrArg List.length hl
    rw [List.length_map,List.length_range] at h
    simp only [List.length_nil] at h
    omega
   | cons y r =>
    refine WpL.path hG (h_end x m th wr _ y r ke no w1 fv) ⟨decide_eq_false (by omega),trivial⟩ ?_
    show (if 0 = 0 then _ else _)
    rw [if_pos rfl]
    exact ⟨rfl,y,r,hl,rfl⟩
 ·rintro e L' w0 R0 a w ⟨rfl,y,r,hal,rfl⟩ hH
  rw [hal]
  refine ⟨_,⟨rfl,rfl⟩,?_⟩
  have h1 := hH.tellRow (i := 3) (k := 18) (n := (y :: r).length) (e := .list .int) (ys := y :: r) rfl rfl rfl
  exact h1.restrict (ks := hK1) (by kernel_rfl)
theorem all_row {x : FBook} {th : List (List Int)} {wr : List Int} (hx : FIn x) (s : Nat) : ((allF x th wr).getD s []).length ≤ 1000000 := by
 have key : ∀ s k,(changesTo x th wr s k).length ≤ k := by
  intro s k
  induction k with
  | zero => exact Nat.le_refl 0
  | succ k ih =>
   simp only [changesTo]
   split
   ·omega
   ·split
    ·rw [List.length_append]; simp; omega
    ·omega
 have hp : 2 ^ x.opn.length ≤ 2 ^ 5 := Nat.pow_le_pow_right (by decide) hx.opnl
 by_cases h : s < x.feet.length
 ·have : (allF x th wr).getD s [] = changesF x th wr s := by simp [allF,List.getD_eq_getElem?_getD,h]
  rw [this]
  have := key s (2 ^ x.opn.length)
  unfold changesF
  omega
 ·have : (allF x th wr).getD s [] = [] := by simp [allF,List.getD_eq_getElem?_getD,h]
  rw [this]
  simp

theorem plans_seq {x : FBook} {m : Mp} {th : List (List Int)} {wr : List Int} {KE : Nat → Prop} {p1 : Value} {W0 : World} {R : Foot} (hx : FIn x) (hk : KnOk x th wr)
  (hKE : ∀ b,KE b → b < W0.heap.size) (hR : ∀ b o,R b o → KE b) (hp1 : Rel R W0 (.ref (cellsOf (fbkD x m th wr)) 0) p1) (hg : ∀ g cs,globF g = some cs → Rel R W0 (.ref cs 0) (.pointer (some ⟨g,0,none⟩))) :
  SeqM PRG 179 #[p1] (ToldP R) (plansF x th wr) KE W0 := by
 intro y J hJ hy W hb hj
 have hyk : YieldP R KE (plansF x th wr) y J := hy
 have hW0 : W0.heap.size ≤ W.heap.size := hb.size
 refine calls_of_wp (fn := Tryd.f179) (c := body Tryd.f179) (by kernel_rfl) (by kernel_rfl) ((wpIn_wide (n := 0)).1 ?_)
 have hnt : (Tryd.f179).ntmps = 24 := by kernel_rfl
 rw [hnt]
 show Code.wpIn (FR none) 0 _ (body Tryd.f179) _ _ _
 have hcode : body Tryd.f179 = .seq (.region 0 (rops (Code.at [0] (body Tryd.f179))) false) (.seq (Code.at [1,0] (body Tryd.f179)) (.seq (.seq (Code.at [1,1,0,0] (body Tryd.f179)) (.block 0 (.loop (Code.at [1,1,0,1,0,0] (body Tryd.f179))))) (.seq (Code.at [1,1,1,0] (body Tryd.f179)) (.seq (.region 8 (rops (Code.at [1,1,1,1,0] (body Tryd.f179))) false) (.region 9 (rops (Code.at [1,1,1,1,1] (body Tryd.f179))) true))))) := by kernel_rfl
 rw [hcode]
 -- the box of yield
 refine wpIn_seq (wp_text (by kernel_rfl) ?_)
 rw [show (rops (Code.at [0] (body Tryd.f179))).size = 1 by kernel_rfl]
 show wpOps _ _ _ (0 :: []) _ _
 obtain ⟨o0,h00,h01,h02,h03⟩ := (opAt (ops := rops (Code.at [0] (body Tryd.f179))) (i := 0) (dst := some 2) (op := .box 157 (.tmp 0)) (by kernel_rfl)).at_
 obtain ⟨a0,ha0⟩ : ∃ a0 : Act,a0 = { tmps := (#[.func (.yield y) #[] #[]] ++ #[p1] : Array Value) ++ Array.replicate (24 - (#[.func (.yield y) #[] #[]] ++ #[p1] : Array Value).size) undef,defers := [] } := ⟨_,rfl⟩
 rw [← ha0]
 have hsz0 : a0.tmps.size = 24 := by rw [ha0]; simp
 have g00 : a0.tmps.getD 0 undef = .func (.yield y) #[] #[] := by rw [ha0]; simp [Array.getD_eq_getD_getElem?]
 have g01 : a0.tmps.getD 1 undef = p1 := by rw [ha0]; simp [Array.getD_eq_getD_getElem?]
 refine wpOps_hand (v := .pointer (some ⟨W.heap.size,0,none⟩)) (w' := W.alloc (.cells #[.func (.yield y) #[] #[]] 157)) h00 h01 (by
  have hev : a0.eval (.tmp 0) = .func (.yield y) #[] #[] := g00
  simp [execOp,h03,hev,Instr.box,run_newVar,Value.cells]) ?_
 rw [h02]
 show Code.wpIn _ _ _ _ _ _ _
 obtain ⟨W1,hW1⟩ : ∃ W1,W1 = W.alloc (.cells #[.func (.yield y) #[] #[]] 157) := ⟨_,rfl⟩
 rw [← hW1]
 have hs1 : W1.heap.size = W.heap.size + 1 := by rw [hW1]; simp
 have hb1 : Below W.heap.size W W1 := by rw [hW1]; exact below_alloc1 _ _
 have hy1 : W1.heap[W.heap.size]? = some (.cells #[.func (.yield y) #[] #[]] 157 (0,0)) := by rw [hW1]; exact heap_alloc_new _ _
 have hj1 : J [] (fun b => b = W.heap.size) W1 := hJ.new _ _ _ _ _ hj hb1 (fun b hb => .inr ⟨by omega,by omega⟩)
 have hRs : ∀ b o,R b o → b < W0.heap.size := fun b o hr => hKE b (hR b o hr)
 have hk01 : Keeps R R W0 W1 := Keeps.of_below (fun _ _ h => h) hRs (hb.trans (hb1.mono hW0))
 obtain ⟨a1,ha1⟩ : ∃ a1,a1 = a0.put (some 2) (.pointer (some ⟨W.heap.size,0,none⟩)) := ⟨_,rfl⟩
 rw [← ha1]
 have hsz1 : a1.tmps.size = 24 := by rw [ha1]; simpa [Act.put] using hsz0
 have hd1 : a1.defers = [] := by rw [ha1,ha0]; rfl
 have g11 : a1.tmps.getD 1 undef = p1 := by rw [ha1,getD_put a0 2 _ 1 (by omega),if_neg (by decide)]; exact g01
 have g12 : a1.tmps.getD 2 undef = .pointer (some ⟨W.heap.size,0,none⟩) := by rw [ha1,getD_put a0 2 _ 2 (by omega),if_pos rfl]
 have hfr := Fr.start (P := PRG) (tt := lookN typesF) (glob := globF) (n := 24) (fx := [0,1,2]) (KE := KE) (N := fun b => b = W.heap.size) (W := W1) (R := R) (a := a1) (args := [.undef,.ref (cellsOf (fbkD x m th wr)) 0]) hd1 (by omega) (fun b hb => by omega) (fun b hb => by have := hKE b hb; omega) (fun b o hr => .inl (hR b o hr)) (fun g cs hgl => Rel.keep hk01 _ _ (hg g cs hgl)) (fun i d hi => by
  match i,hi with
  | 0,hi => cases hi; exact .inl rfl
  | 1,hi => cases hi; refine .inr ?_; rw [g11]; exact Rel.keep hk01 _ _ hp1)
 have hKE1 : ∀ b,KE b → b < W1.heap.size := fun b hb => by have := hKE b hb; omega
 have hN1 : ∀ b,(fun b => b = W.heap.size) b → b < W1.heap.size := fun b hb => by omega
 have hmid0 : Mid KE J [] [] (fun b => b = W.heap.size) W1 (fun b => b = W.heap.size) W1 := ⟨fun _ h => h,hj1,Nat.le_refl _,fun _ _ => rfl,hN1⟩
 refine wpIn_seq (hfr.path mixed_ok typesF_ok hJ hmid0.j (fun ke no w1 => ⟨_,h_1 x m th wr ke no w1 _,trivial⟩) (by kernel_rfl) (by kernel_rfl) fun a2 W2 N2 hN2 => ?_)
 have hmid2 := hmid0.step hN2 hKE1 hN1
 have hf2 := hN2.fr.fix [0,1,2,3]
 have e1 : a2.tmps.getD 1 undef = p1 := by rw [hN2.fr.fixed 1 (by simp)]; exact g11
 have e2 : a2.tmps.getD 2 undef = .pointer (some ⟨W.heap.size,0,none⟩) := by rw [hN2.fr.fixed 2 (by simp)]; exact g12
 show Code.wpIn _ _ _ _ _ _ _
 refine wpIn_seq (hf2.piece hJ hmid2.j (Post := fun e L' => e = .normal ∧ L' = hS1 x m th wr (.sl false (.list .int) (allF x th wr))) (fun ke no w1 => all_loop hx hk m ke no w1 _) (by rintro e' L'' ⟨rfl,rfl⟩; exact noObs_ok (by kernel_rfl)) (by rintro e' L'' ⟨rfl,rfl⟩; exact keepOk_ok (by kernel_rfl)) ?_)
 rintro e2' L2 a2b W2b N2b ⟨rfl,rfl⟩ hN2b
 have hmid2b := hmid2.step hN2b hKE1 hN1
 have e1b : a2b.tmps.getD 1 undef = p1 := (hN2b.fr.fixed 1 (by simp)).trans e1
 have e2b : a2b.tmps.getD 2 undef = .pointer (some ⟨W.heap.size,0,none⟩) := (hN2b.fr.fixed 2 (by simp)).trans e2
 obtain ⟨al,hal⟩ : ∃ al,al = allF x th wr := ⟨_,rfl⟩
 have hf2b := hN2b.fr
 rw [← hal] at hf2b
 show Code.wpIn _ _ _ _ _ _ _
 refine wpIn_seq (hf2b.path mixed_ok typesF_ok hJ hmid2b.j (fun ke no w1 => ⟨_,h_5 x m th wr al ke no w1 _,trivial⟩) (by kernel_rfl) (by kernel_rfl) fun a3 W3 N3 hN3 => ?_)
 have hmid3 := hmid2b.step hN3 hKE1 hN1
 have e1' : a3.tmps.getD 1 undef = p1 := (hN3.fr.fixed 1 (by simp)).trans e1
 have e2' : a3.tmps.getD 2 undef = .pointer (some ⟨W.heap.size,0,none⟩) := (hN3.fr.fixed 2 (by simp)).trans e2
 show Code.wpIn _ _ _ _ _ _ _
 -- what is known of the boxes
 obtain ⟨β,σ,R3,hI⟩ := hN3.fr
 have hnt3 : 24 ≤ a3.tmps.size := hI.inv.nt
 have hdf3 : a3.defers = [] := hI.inv.defers
 have t3 : RelT β σ (ofL (hS1 x m th wr (.sl false (.list .int) al) ++ [(.tmp 5,.d (.ptr 5 0)),(.box 5,.bx (some ⟨false,[.nilfn]⟩))])) R3 W3 (.ptr 3 0) (a3.tmps.getD 3 undef) := hI.inv.tmps 3
 have t4 : RelT β σ (ofL (hS1 x m th wr (.sl false (.list .int) al) ++ [(.tmp 5,.d (.ptr 5 0)),(.box 5,.bx (some ⟨false,[.nilfn]⟩))])) R3 W3 (.ptr 5 0) (a3.tmps.getD 5 undef) := hI.inv.tmps 5
 obtain ⟨_,t3⟩ := t3
 obtain ⟨_,t4⟩ := t4
 have hbx3 : (ofL (hS1 x m th wr (.sl false (.list .int) al) ++ [(.tmp 5,.d (.ptr 5 0)),(.box 5,.bx (some ⟨false,[.nilfn]⟩))])).bx 3 = some ⟨false,[.sl false (.list .int) al]⟩ := by kernel_rfl
 have hbx4 : (ofL (hS1 x m th wr (.sl false (.list .int) al) ++ [(.tmp 5,.d (.ptr 5 0)),(.box 5,.bx (some ⟨false,[.nilfn]⟩))])).bx 5 = some ⟨false,[.nilfn]⟩ := by kernel_rfl
 obtain ⟨q31,⟨arr3,el3,q32,_,q33,_⟩,q34⟩ := hI.inv.box 3 _ hbx3
 obtain ⟨q41,⟨arr4,el4,q42,_,q43,_⟩,q44⟩ := hI.inv.box 5 _ hbx4
 have hN3b := hI.box 3 _ hbx3
 have hN4b := hI.box 5 _ hbx4
 have hne34 : β 3 ≠ β 5 := fun e => by have := hI.inv.inj 3 5 _ _ hbx3 hbx4 e; omega
 rw [cut_size hI.le] at q31 q41
 obtain ⟨fv3,m3,e3,q35,q36⟩ := all2_cons (q33 rfl)
 have h30 : arr3[0]? = some fv3 := by
  have h := congrArg (fun l => l[0]?) e3
  simp only [List.getElem?_take,List.length_singleton,List.getElem?_cons_zero] at h
  simpa using h
 have hs4 : 0 < arr4.size := by
  have := All2.length (q43 rfl)
  rw [List.length_take,Array.length_toList] at this
  simp at this
  omega
 -- the function 'wear' is made
 refine wpIn_seq (wp_text (by kernel_rfl) ?_)
 rw [show (rops (Code.at [1,1,1,1,0] (body Tryd.f179))).size = 2 by kernel_rfl]
 show wpOps _ _ _ (0 :: [1]) _ _
 obtain ⟨o1,h10,h11,h12,h13⟩ := (opAt (ops := rops (Code.at [1,1,1,1,0] (body Tryd.f179))) (i := 0) (dst := some 20) (op := .makeFunc (.func 181) #[] #[.tmp 3,.tmp 2,.tmp 1,.tmp 5]) (by kernel_rfl)).at_
 obtain ⟨wv,hwv⟩ : ∃ wv : Value,wv = .func (.func 181) #[] #[.pointer (some ⟨β 3,0,none⟩),.pointer (some ⟨W.heap.size,0,none⟩),p1,.pointer (some ⟨β 5,0,none⟩)] := ⟨_,rfl⟩
 refine wpOps_hand (v := wv) (w' := W3) h10 h11 (by
  have : #[Operand.tmp 3,.tmp 2,.tmp 1,.tmp 5].map a3.eval = #[.pointer (some ⟨β 3,0,none⟩),.pointer (some ⟨W.heap.size,0,none⟩),p1,.pointer (some ⟨β 5,0,none⟩)] := by
   simp only [List.map_toArray,List.map_cons,List.map_nil]
   show #[a3.tmps.getD 3 undef,a3.tmps.getD 2 undef,a3.tmps.getD 1 undef,a3.tmps.getD 5 undef] = _
   rw [e1',e2',t3,t4]
  rw [hwv]
  simp only [execOp,h13,this]
  simp [Instr.makeFunc]) ?_
 rw [h12]
 obtain ⟨o2,h20,h21,h22,h23⟩ := (opAt (ops := rops (Code.at [1,1,1,1,0] (body Tryd.f179))) (i := 1) (dst := none) (op := .store 195 (.tmp 5) (.tmp 20)) (by kernel_rfl)).at_
 have hst := storeAt_run (P := PRG) (C := mkF PRG (lookN typesF) globF 24 (fun _ => False) (fun _ => False) W3 [] (fun _ => undef)) (w := W3) (t := 195) (ti := ⟨.other,1,8,[.nilfn],none,false⟩) (typesF_ok 195 _ (by kernel_rfl)) (g := β 5) (off := 0) (v := wv) q42 (by rw [hwv]; rfl) (by show 0 + 1 ≤ _; omega) (by rw [hwv]; intro u hu; simp [Value.cells] at hu; subst hu; rfl)
 rw [show wv.cells.toList = [wv] by rw [hwv]; rfl] at hst
 obtain ⟨r1,r2,r3,r4⟩ := setCells_rest (β 5) [wv] 0 W3
 have r5 := setCells_get (β 5) [wv] 0 W3 _ _ _ q42
 have r6 := fun k hk => setCells_other (β 5) [wv] 0 W3 k hk
 obtain ⟨V,hV⟩ : ∃ V,V = W3.setCells (β 5) 0 [wv] := ⟨_,rfl⟩
 rw [← hV] at hst r1 r2 r3 r4 r5 r6
 have hcV : V.heap[β 5]? = some (.cells (putAll arr4 0 [wv]) el4 (0,0)) := r5
 have hp4 : (putAll arr4 0 [wv])[0]? = some wv := by rw [putAll_get,if_pos ⟨Nat.le_refl _,by simp,hs4⟩]; rfl
 have h7 : 20 < a3.tmps.size := by omega
 refine wpOps_skip (w' := V) h20 h21 (by
  have hev4 : (a3.put (some 20) wv).eval (.tmp 5) = .pointer (some ⟨β 5,0,none⟩) := by
   show (a3.put (some 20) wv).tmps.getD 5 undef = _
   rw [getD_put a3 20 wv 5 h7,if_neg (by decide)]
   exact t4
  have hev7 : (a3.put (some 20) wv).eval (.tmp 20) = wv := by
   show (a3.put (some 20) wv).tmps.getD 20 undef = _
   rw [getD_put a3 20 wv 20 h7,if_pos rfl]
  simp only [execOp,h23,hev4,hev7]
  simp [hst]) ?_
 rw [h22]
 show Code.wpIn _ _ _ _ _ _ _
 obtain ⟨a4,ha4⟩ : ∃ a4,a4 = a3.put (some 20) wv := ⟨_,rfl⟩
 have hput : (a3.put (some 20) wv).put none undef = a4 := by rw [ha4]; rfl
 rw [hput]
 have ha4t : a4.tmps.getD 5 undef = .pointer (some ⟨β 5,0,none⟩) := by rw [ha4,getD_put a3 20 wv 5 h7,if_neg (by decide)]; exact t4
 have hnt4 : 24 ≤ a4.tmps.size := by rw [ha4]; simpa [Act.put] using hnt3
 have hdf4 : a4.defers = [] := by rw [ha4]; exact hdf3
 -- the caller's invariant behind the store
 have hjV : J [] N3 V := hJ.store _ _ _ _ (β 5) hmid3.j hN4b ⟨⟨r1,r2,r3,r4⟩,⟨_,_,_,_,q42,hcV⟩,r6⟩
 have hsV : V.heap.size = W3.heap.size := r4
 have hKEV : ∀ b,KE b → V.heap[b]? = W1.heap[b]? := fun b hb => by
  have := hKE b hb
  rw [r6 b (by omega)]
  exact hmid3.same b (.inl hb)
 -- the memory that is spoken of
 have hR3 : ∀ b o,R3 b o → b ≠ β 5 := fun b o hr e => q44 rfl o (e ▸ hr)
 have hfin : ∀ (a' : Act) (W' : World),a'.defers = [] → (results Tryd.f179 a'.tmps).run PRG W' = .ok (.tuple #[]) W' := by
  intro a' W' _
  have := results_run (P := PRG) (a := a') (w := W') (fn := Tryd.f179) (rs := []) (by kernel_rfl) (vs := []) trivial
  simpa using this
 -- the last call,in a world that has grown
 have hlast : ∀ (a5 : Act) (W5 : World),Below V.heap.size V W5 → 24 ≤ a5.tmps.size → a5.defers = [] → a5.tmps.getD 21 undef = wv → a5.tmps.getD 22 undef = w4V ⟨0,0,0,0⟩ →
   wpOps PRG (rops (Code.at [1,1,1,1,1] (body Tryd.f179))) (noOut (bodyPost PRG Tryd.f179 fun e W' => (∃ v,e = .returned v) ∧ ∃ N,J (plansF x th wr) N W')) [2] a5 W5 := by
  intro a5 W5 hb5 hnt5 hdf5 g8 g9
  obtain ⟨o5,h50,h51,h52,h53⟩ := (opAt (ops := rops (Code.at [1,1,1,1,1] (body Tryd.f179))) (i := 2) (dst := some 23) (op := .call { callee := .value (.tmp 21),args := #[.tmp 22,.const (.int .i64 0)],argTypes := #[196,3] }) (by kernel_rfl)).at_
  obtain ⟨fn,f1,f2,f3⟩ := chg_fn
  have hj5 : J [] N3 W5 := hJ.new _ _ _ _ _ hjV hb5 (fun b hb => .inl hb)
  have hN5 : ∀ b,N3 b → b < W5.heap.size := fun b hb => by have := hmid3.own b hb; have := hb5.size; omega
  have hKE5 : ∀ b,KE b → b < W5.heap.size := fun b hb => by have := hKE1 b hb; have := hmid3.size; have := hb5.size; omega
  have hkk : Keeps R3 (fun b o => R3 b o ∨ b = β 3) W3 W5 := by
   have hh : ∀ b,(∃ o,R3 b o) → W5.heap[b]? = W3.heap[b]? := fun b ⟨o,hr⟩ => by
    have := (hI.inv.dom b o hr).1
    rw [hb5.block b (by omega),r6 b (hR3 b o hr)]
   exact ⟨fun b o h => .inl h,fun b o u hr hc => by rw [cell_same (hh b ⟨o,hr⟩)]; exact hc,fun b es c hr hm => by rw [hh b ⟨0,hr⟩]; exact hm⟩
  have hb3 : W5.heap[β 3]? = some (.cells arr3 el3 (0,0)) := by
   have := (Array.getElem?_eq_some_iff.1 q32).1
   rw [hb5.block _ (by omega),r6 _ hne34]
   exact q32
  have hb4 : W5.heap[β 5]? = some (.cells (putAll arr4 0 [wv]) el4 (0,0)) := by
   have := (Array.getElem?_eq_some_iff.1 q42).1
   rw [hb5.block _ (by omega)]
   exact hcV
  have hby : W5.heap[W.heap.size]? = some (.cells #[.func (.yield y) #[] #[]] 157 (0,0)) := by
   have hl := hmid3.size
   have hne : W.heap.size ≠ β 5 := by omega
   rw [hb5.block _ (by omega),r6 _ hne,hmid3.same _ (.inr rfl)]
   exact hy1
  have hkR : Keeps R R W0 W5 := by
   have hh : ∀ b,(∃ o,R b o) → W5.heap[b]? = W1.heap[b]? := fun b ⟨o,hr⟩ => by
    have := hKE1 b (hR b o hr)
    have := hmid3.size
    rw [hb5.block b (by omega)]
    exact hKEV b (hR b o hr)
   have hk15 : Keeps R R W1 W5 := ⟨fun _ _ h => h,fun b o u hr hc => by rw [cell_same (hh b ⟨o,hr⟩)]; exact hc,fun b es c hr hm => by rw [hh b ⟨0,hr⟩]; exact hm⟩
   exact ⟨fun _ _ h => h,fun b o u hr hc => hk15.2 b o u hr (hk01.2 b o u hr hc),fun b es c hr hm => hk15.3 b es c hr (hk01.3 b es c hr hm)⟩
  have hcaps : PCaps x m th wr al R KE y (.pointer (some ⟨β 3,0,none⟩)) (.pointer (some ⟨W.heap.size,0,none⟩)) p1 (.pointer (some ⟨β 5,0,none⟩)) N3 W5 := by
   refine ⟨Rel.keep hkR _ _ hp1,fun g cs hgl => Rel.keep hkR _ _ (hg g cs hgl),⟨fun b o => R3 b o ∨ b = β 3,fun b o hr => ?_,β 3,0,by simp,fun j d hd => ?_⟩,⟨W.heap.size,rfl,hmid3.le _ rfl,?_⟩,⟨β 5,rfl,hN4b,?_⟩⟩
   ·rcases hr with hr | rfl
    ·exact hI.foot b o hr
    ·exact .inr hN3b
   ·match j,hd with
    | 0,hd =>
     cases hd
     exact ⟨fv3,RelC.keep hkk _ _ q35,.inr rfl,by simp [World.cell?,hb3,h30]⟩
   ·simp [World.cell?,hby]
   ·exact (show W5.cell? ⟨β 5,0,none⟩ = some wv by simp [World.cell?,hb4,hp4]).trans (by rw [hwv])
  have hlen : al.length = x.feet.length := by rw [hal]; simp [allF]
  have hcl := chg_ok hJ hR hyk hx (by have := hx.n; omega) (fun s => by rw [hal]; exact all_row hx s) al.length 0 (by omega) ⟨0,0,0,0⟩ [] N3 W5 ⟨[],by rw [hal,← hal,hlen,hal]; simp [plansF,zeroW]⟩ hj5 hKE5 hN5 hcaps
  refine wpOps_callv h50 h51 h53 rfl (f := 181) (caps := #[.pointer (some ⟨β 3,0,none⟩),.pointer (some ⟨W.heap.size,0,none⟩),p1,.pointer (some ⟨β 5,0,none⟩)]) (g8.trans hwv) (vs := #[w4V ⟨0,0,0,0⟩,.int .i64 0]) (by simp only [List.map_toArray,List.map_cons,List.map_nil]; show #[a5.tmps.getD 22 undef,_] = _; rw [g9]; rfl) f1 f2 f3 hcl ?_
  rintro e W6 ⟨rfl,N6,hm6⟩
  refine ⟨_,rfl,?_⟩
  rw [h52]
  exact ⟨hdf5,.tuple #[],hfin _ _ hdf5,⟨_,rfl⟩,N6,by have hj := hm6.j; rw [hlen,hal] at hj; exact hj⟩
 have hb3' : ∀ (W5 : World),Below V.heap.size V W5 → W5.cell? ⟨β 5,0,none⟩ = some wv := fun W5 hb5 => by
  have := (Array.getElem?_eq_some_iff.1 hcV).1
  simp [World.cell?,hb5.block _ this,hcV,hp4]
 have hgl5 : ∀ (W5 : World),Below V.heap.size V W5 → ∀ g cs,globF g = some cs → Rel R W5 (.ref cs 0) (.pointer (some ⟨g,0,none⟩)) := fun W5 hb5 g cs hgl => by
  have hk : Keeps R R W1 W5 := by
   have hh : ∀ b,(∃ o,R b o) → W5.heap[b]? = W1.heap[b]? := fun b ⟨o,hr⟩ => by
    have := hKE1 b (hR b o hr)
    have := hmid3.size
    rw [hb5.block b (by omega)]
    exact hKEV b (hR b o hr)
   exact ⟨fun _ _ h => h,fun b o u hr hc => by rw [cell_same (hh b ⟨o,hr⟩)]; exact hc,fun b es c hr hm => by rw [hh b ⟨0,hr⟩]; exact hm⟩
  exact Rel.keep hk _ _ (Rel.keep hk01 _ _ (hg g cs hgl))
 obtain ⟨o8,h80,h81,h82,h83⟩ := (opAt (ops := rops (Code.at [1,1,1,1,1] (body Tryd.f179))) (i := 0) (dst := some 21) (op := .load 195 (.tmp 5)) (by kernel_rfl)).at_
 obtain ⟨o9,h90,h91,h92,h93⟩ := (opAt (ops := rops (Code.at [1,1,1,1,1] (body Tryd.f179))) (i := 1) (dst := some 22) (op := .call { callee := .value (.func 183),args := #[],argTypes := #[] }) (by kernel_rfl)).at_
 have hrun8 : ∀ (a5 : Act) (W5 : World),Below V.heap.size V W5 → a5.tmps.getD 5 undef = .pointer (some ⟨β 5,0,none⟩) → (execOp a5.eval o8).run PRG W5 = .ok (.value wv) W5 := by
  intro a5 W5 hb5 g4
  have hev : a5.eval (.tmp 5) = .pointer (some ⟨β 5,0,none⟩) := g4
  simp only [execOp,h83,hev]
  simp [run_loadv (P := PRG) typesF_ok (t := 195) (ti := ⟨.other,1,8,[.nilfn],none,false⟩) (by kernel_rfl) rfl rfl (hb3' W5 hb5)]
 have hcon9 : ∀ (a5 : Act) (W5 : World) (l' : List Nat) (Q' : Exit → Act → World → Prop),Below V.heap.size V W5 → (∀ W6,Below V.heap.size V W6 → wpOps PRG (rops (Code.at [1,1,1,1,1] (body Tryd.f179))) Q' l' (a5.put (some 22) (w4V ⟨0,0,0,0⟩)) W6) → wpOps PRG (rops (Code.at [1,1,1,1,1] (body Tryd.f179))) Q' (1 :: l') a5 W5 := by
  intro a5 W5 l' Q' hb5 hK
  refine wpOps_con fnever_con h90 h91 h93 rfl (vs := []) (by simp) (R := R) (fun b o hr => ?_) (hgl5 W5 hb5) trivial fun v W6 R' hb6 _ _ hv => ?_
  ·have := hKE1 b (hR b o hr)
   have := hmid3.size
   have := hb5.size
   omega
  ·rw [h92,wD_rel hv]
   exact hK W6 (hb5.trans (hb6.mono hb5.size))
 have hdrew : Below V.heap.size V V.drew := below_drew1 V
 have get8 : ∀ (a5 : Act) (v : Value) (d i : Nat),24 ≤ a5.tmps.size → d < 24 → (a5.put (some d) v).tmps.getD i undef = if d = i then v else a5.tmps.getD i undef := fun a5 v d i h1 h2 => getD_put a5 d v i (by omega)
 have siz8 : ∀ (a5 : Act) (v : Value) (d : Nat),(a5.put (some d) v).tmps.size = a5.tmps.size := fun a5 v d => by simp [Act.put]
 refine region3 mixed_ok (by kernel_rfl) (by kernel_rfl) (by kernel_rfl) (by kernel_rfl) (by kernel_rfl) (by kernel_rfl) (by kernel_rfl) ?_ ?_
 ·refine wpOps_hand (v := wv) (w' := V.drew) h80 h81 (hrun8 a4 _ hdrew ha4t) ?_
  rw [h82]
  refine hcon9 _ _ _ _ hdrew fun W6 hb6 => ?_
  refine hlast _ W6 hb6 (by rw [siz8,siz8]; exact hnt4) hdf4 ?_ ?_
  ·rw [get8 _ _ 22 21 (by rw [siz8]; exact hnt4) (by decide),if_neg (by decide),get8 _ _ 21 21 hnt4 (by decide),if_pos rfl]
  ·rw [get8 _ _ 22 22 (by rw [siz8]; exact hnt4) (by decide),if_pos rfl]
 ·refine hcon9 _ _ _ _ hdrew fun W6 hb6 => ?_
  refine wpOps_hand (v := wv) (w' := W6) h80 h81 (hrun8 _ _ hb6 (by rw [get8 _ _ 22 5 hnt4 (by decide),if_neg (by decide)]; exact ha4t)) ?_
  rw [h82]
  refine hlast _ W6 hb6 (by rw [siz8,siz8]; exact hnt4) hdf4 ?_ ?_
  ·rw [get8 _ _ 21 21 (by rw [siz8]; exact hnt4) (by decide),if_pos rfl]
  ·rw [get8 _ _ 21 22 (by rw [siz8]; exact hnt4) (by decide),if_neg (by decide),get8 _ _ 22 22 hnt4 (by decide),if_pos rfl]
end Go.Di

namespace Go.Di
open Proofs
def plW (x : FBook) (m : Mp) (th : List (List Int)) (wr : List Int) : D := .fn 179 [] [cellsOf (fbkD x m th wr)]
def baA (x : FBook) (m : Mp) (th : List (List Int)) (wr : List Int) : List (Key × Val) := [(.tmp 1,.d (.ptr 1 0)),(.box 1,.bx (some ⟨false,cellsOf (fbkD x m th wr)⟩))]
def baAK : List Key := [.tmp 1,.box 1]
def baB (x : FBook) (m : Mp) (th : List (List Int)) (wr : List Int) : List (Key × Val) := baA x m th wr ++ [(.tmp 4,.d (.ptr 4 0)),(.box 4,.bx (some ⟨false,[.nil]⟩))]
def baBK : List Key := baAK ++ [.tmp 4,.box 4]
def baS (x : FBook) (m : Mp) (th : List (List Int)) (wr : List Int) (c : D) (f : Bool) : List (Key × Val) :=
 [(.tmp 4,.d (.ptr 4 0)),(.tmp 5,.d (.ptr 5 0)),(.tmp 6,.d (.ptr 6 0)),(.tmp 7,.d (.ptr 7 0)),(.box 4,.bx (some ⟨false,[c]⟩)),(.box 5,.bx (some ⟨false,[.bool f]⟩)),(.box 6,.bx (some ⟨false,[.fn 175 [fbkD x m th wr] []]⟩)),(.box 7,.bx (some ⟨false,[.fn 199 [] [cellsOf (fbkD x m th wr)]]⟩))]
def baK : List Key := [.tmp 4,.tmp 5,.tmp 6,.tmp 7,.box 4,.box 5,.box 6,.box 7]
def baS1 (x : FBook) (m : Mp) (th : List (List Int)) (wr : List Int) (c : D) (f : Bool) (p : List Work) : List (Key × Val) := (.tmp 8,.d (.sl false .work p)) :: baS x m th wr c f
def skA (x : FBook) : List (Key × Val) := [(.tmp 1,.d (.ptr 1 0)),(.box 1,.bx (some ⟨false,cellsOf (fbookD x)⟩))]
def skB (x : FBook) (m : Mp) (th : List (List Int)) (wr : List Int) : List (Key × Val) := [(.tmp 4,.d (.ptr 4 0)),(.tmp 5,.d (.int .i64 0)),(.box 4,.bx (some ⟨false,cellsOf (fbkD x m th wr)⟩))]
def skS (x : FBook) (m : Mp) (th : List (List Int)) (wr : List Int) (n : Int) : List (Key × Val) := [(.tmp 4,.d (.ptr 4 0)),(.tmp 6,.d (.ptr 6 0)),(.box 4,.bx (some ⟨false,cellsOf (fbkD x m th wr)⟩)),(.box 6,.bx (some ⟨false,[.int .i64 n]⟩))]
def skK : List Key := [.tmp 4,.tmp 6,.box 4,.box 6]
def skS1 (x : FBook) (m : Mp) (th : List (List Int)) (wr : List Int) (n : Int) (p : List Work) : List (Key × Val) := (.tmp 7,.d (.sl false .work p)) :: skS x m th wr n
theorem ba_0 (x : FBook) (m : Mp) (th : List (List Int)) (wr : List Int) :
  runK (MF 33) [] [] [] (Code.at [0] (body Tryd.f139)) (entry 0 [fbkD x m th wr]) baAK =
   some ([],.normal,baA x m th wr) := by kernel_rfl
theorem ba_1 (x : FBook) (m : Mp) (th : List (List Int)) (wr : List Int) :
  runK (MF 33) [] [] [] (Code.at [1,0] (body Tryd.f139)) (baA x m th wr) baBK =
   some ([],.normal,baB x m th wr) := by kernel_rfl
theorem ba_2 (x : FBook) (m : Mp) (th : List (List Int)) (wr : List Int) :
  runK (MF 33) [] [(12,.agg [.fn 199 [] [cellsOf (fbkD x m th wr)]])] [] (Code.at [1,1,0] (body Tryd.f139)) (baB x m th wr) (baK ++ baAK) =
   some ([CF 176 [fbkD x m th wr] (D.agg [D.fn 199 [] [(cellsOf (fbkD x m th wr))]])],.normal,baS x m th wr .nil false ++ baA x m th wr) := by kernel_rfl
theorem ba_3 (x : FBook) (m : Mp) (th : List (List Int)) (wr : List Int) :
  runK (MF 33) [] [(14,plW x m th wr)] [] (Code.at [1,1,1,0,0] (body Tryd.f139)) (baS x m th wr .nil false ++ baA x m th wr) ([.tmp 14] ++ baK) =
   some ([CF 149 [fbkD x m th wr] (D.fn 179 [] [(cellsOf (fbkD x m th wr))])],.normal,(.tmp 14,.d (plW x m th wr)) :: baS x m th wr .nil false) := by kernel_rfl
theorem ba_as0 (x : FBook) (m : Mp) (th : List (List Int)) (wr : List Int) (p : List Work) (ke no : Nat → Prop) (w1 : World) (fv : Nat → Value) :
  runK (mkR PRG (lookN typesF) globF 33 ke no w1 [4,5,6,7] fv) [] [] [] (Code.at [1,1,1,0,1,0,0] (body Tryd.f139)) ((.tmp 15,.d (.sl false .work p)) :: baS x m th wr .nil false) ([.tmp 8] ++ baK) =
   some ([],.normal,baS1 x m th wr .nil false p) := by kernel_rfl
theorem ba_as1 (x : FBook) (m : Mp) (th : List (List Int)) (wr : List Int) (q p : List Work) (ke no : Nat → Prop) (w1 : World) (fv : Nat → Value) :
  runK (mkR PRG (lookN typesF) globF 33 ke no w1 [4,5,6,7] fv) [] [] [] (Code.at [1,1,1,0,1,0,0] (body Tryd.f139)) ((.tmp 15,.d (.sl false .work p)) :: baS x m th wr (.sl false .work q) true) ([.tmp 8] ++ baK) =
   some ([],.normal,baS1 x m th wr (.sl false .work q) true p) := by kernel_rfl
theorem ba_no0 (x : FBook) (m : Mp) (th : List (List Int)) (wr : List Int) (p : List Work) (ke no : Nat → Prop) (w1 : World) (fv : Nat → Value) :
  runK (mkR PRG (lookN typesF) globF 33 ke no w1 [4,5,6,7] fv) [] [(18,.bool false)] [] (Code.at [1,1,1,0,1,0,1] (body Tryd.f139)) (baS1 x m th wr .nil false p) baK =
   some ([CF 175 [fbkD x m th wr,D.sl false E.work p] (D.bool false)],.normal,baS x m th wr .nil false) := by kernel_rfl
theorem ba_no1 (x : FBook) (m : Mp) (th : List (List Int)) (wr : List Int) (q p : List Work) (ke no : Nat → Prop) (w1 : World) (fv : Nat → Value) :
  runK (mkR PRG (lookN typesF) globF 33 ke no w1 [4,5,6,7] fv) [] [(18,.bool false)] [] (Code.at [1,1,1,0,1,0,1] (body Tryd.f139)) (baS1 x m th wr (.sl false .work q) true p) baK =
   some ([CF 175 [fbkD x m th wr,D.sl false E.work p] (D.bool false)],.normal,baS x m th wr (.sl false .work q) true) := by kernel_rfl
theorem ba_first (x : FBook) (m : Mp) (th : List (List Int)) (wr : List Int) (p : List Work) (ke no : Nat → Prop) (w1 : World) (fv : Nat → Value) :
  runK (mkR PRG (lookN typesF) globF 33 ke no w1 [4,5,6,7] fv) [] [(18,.bool true)] [] (Code.at [1,1,1,0,1,0,1] (body Tryd.f139)) (baS1 x m th wr .nil false p) baK =
   some ([CF 175 [fbkD x m th wr,D.sl false E.work p] (D.bool true)],.normal,baS x m th wr (.sl false .work p) true) := by kernel_rfl
theorem ba_worse (x : FBook) (m : Mp) (th : List (List Int)) (wr : List Int) (q p : List Work) (ke no : Nat → Prop) (w1 : World) (fv : Nat → Value) :
  runK (mkR PRG (lookN typesF) globF 33 ke no w1 [4,5,6,7] fv) [] [(18,.bool true),(27,.bool false)] [] (Code.at [1,1,1,0,1,0,1] (body Tryd.f139)) (baS1 x m th wr (.sl false .work q) true p) baK =
   some ([CF 175 [fbkD x m th wr,D.sl false E.work p] (D.bool true),CF 199 [D.sl false E.work p,D.sl false E.work q,D.ref (cellsOf (fbkD x m th wr)) 0] (D.bool false)],.normal,baS x m th wr (.sl false .work q) true) := by kernel_rfl
theorem ba_better (x : FBook) (m : Mp) (th : List (List Int)) (wr : List Int) (q p : List Work) (ke no : Nat → Prop) (w1 : World) (fv : Nat → Value) :
  runK (mkR PRG (lookN typesF) globF 33 ke no w1 [4,5,6,7] fv) [] [(18,.bool true),(27,.bool true)] [] (Code.at [1,1,1,0,1,0,1] (body Tryd.f139)) (baS1 x m th wr (.sl false .work q) true p) baK =
   some ([CF 175 [fbkD x m th wr,D.sl false E.work p] (D.bool true),CF 199 [D.sl false E.work p,D.sl false E.work q,D.ref (cellsOf (fbkD x m th wr)) 0] (D.bool true)],.normal,baS x m th wr (.sl false .work p) true) := by kernel_rfl
theorem ba_end0 (x : FBook) (m : Mp) (th : List (List Int)) (wr : List Int) (ke : Nat → Prop) (w1 : World) (ds : List Deferred) :
  runK (mkE PRG (lookN typesF) globF 33 ke w1 ds) [] [] [] (Code.at [1,1,1,1] (body Tryd.f139)) (baS x m th wr .nil false) [.tmp 2,.tmp 3] =
   some ([],.ret,[(.tmp 2,.d (.sl true .work [])),(.tmp 3,.d (.bool false))]) := by kernel_rfl
theorem ba_end1 (x : FBook) (m : Mp) (th : List (List Int)) (wr : List Int) (p : List Work) (ke : Nat → Prop) (w1 : World) (ds : List Deferred) :
  runK (mkE PRG (lookN typesF) globF 33 ke w1 ds) [] [] [] (Code.at [1,1,1,1] (body Tryd.f139)) (baS x m th wr (.sl false .work p) true) [.tmp 2,.tmp 3] =
   some ([],.ret,[(.tmp 2,.d (.sl false .work p)),(.tmp 3,.d (.bool true))]) := by kernel_rfl
theorem sk_0 (x : FBook) :
  runK (MF 27) [] [] [] (Code.at [0] (body Tryd.f89)) (entry 0 [fbookD x]) baAK =
   some ([],.normal,skA x) := by kernel_rfl
theorem sk_1 (x : FBook) (m : Mp) (th : List (List Int)) (wr : List Int) :
  runK (MF 27) [] [(10,.tup [fbkD x m th wr,.int .i64 0])] [] (Code.at [1,0] (body Tryd.f89)) (skA x) [.tmp 4,.tmp 5,.box 4] =
   some ([CF 137 [fbookD x,D.fn 138 [] []] (D.tup [fbkD x m th wr,D.int .i64 0])],.normal,skB x m th wr) := by kernel_rfl
theorem sk_2 (x : FBook) (m : Mp) (th : List (List Int)) (wr : List Int) :
  runK (MF 27) [] [] [] (Code.at [1,1,0] (body Tryd.f89)) (skB x m th wr) [.tmp 4,.box 4] =
   some ([],.normal,[(.tmp 4,.d (.ptr 4 0)),(.box 4,.bx (some ⟨false,cellsOf (fbkD x m th wr)⟩))]) := by kernel_rfl
theorem sk_3 (x : FBook) (m : Mp) (th : List (List Int)) (wr : List Int) :
  runK (MF 27) [] [] [] (Code.at [1,1,1,0] (body Tryd.f89)) [(.tmp 4,.d (.ptr 4 0)),(.box 4,.bx (some ⟨false,cellsOf (fbkD x m th wr)⟩))] skK =
   some ([],.normal,skS x m th wr 201) := by kernel_rfl
theorem sk_4 (x : FBook) (m : Mp) (th : List (List Int)) (wr : List Int) :
  runK (MF 27) [] [(17,plW x m th wr)] [] (Code.at [1,1,1,1,0,0] (body Tryd.f89)) (skS x m th wr 201) ([.tmp 17] ++ skK) =
   some ([CF 149 [fbkD x m th wr] (D.fn 179 [] [(cellsOf (fbkD x m th wr))])],.normal,(.tmp 17,.d (plW x m th wr)) :: skS x m th wr 201) := by kernel_rfl
theorem sk_as (x : FBook) (m : Mp) (th : List (List Int)) (wr : List Int) (n : Int) (p : List Work) (ke no : Nat → Prop) (w1 : World) (fv : Nat → Value) :
  runK (mkR PRG (lookN typesF) globF 27 ke no w1 [4,6] fv) [] [] [] (Code.at [1,1,1,1,0,1,0,0] (body Tryd.f89)) ((.tmp 18,.d (.sl false .work p)) :: skS x m th wr n) ([.tmp 7] ++ skK) =
   some ([],.normal,skS1 x m th wr n p) := by kernel_rfl
theorem sk_bd (x : FBook) (m : Mp) (th : List (List Int)) (wr : List Int) (n : Int) (p : List Work) (v : Int) (ke no : Nat → Prop) (w1 : World) (fv : Nat → Value) :
  runK (mkR PRG (lookN typesF) globF 27 ke no w1 [4,6] fv) [] [(22,.int .i64 v)] [] (Code.at [1,1,1,1,0,1,0,1] (body Tryd.f89)) (skS1 x m th wr n p) skK =
   some ([0 + 1 ≤ 1,CF 148 [fbkD x m th wr,D.sl false E.work p] (D.int .i64 v)],.normal,skS x m th wr (mn n v)) := by kernel_rfl
theorem sk_no (x : FBook) (m : Mp) (th : List (List Int)) (wr : List Int) (n : Int) (ke : Nat → Prop) (w1 : World) (ds : List Deferred) :
  runK (mkE PRG (lookN typesF) globF 27 ke w1 ds) [(25,true)] [] [] (Code.at [1,1,1,1,1] (body Tryd.f89)) (skS x m th wr n) [.tmp 2,.tmp 3] =
   some ([0 + 1 ≤ 1,decide (n > (200 : Int)) = true],.ret,[(.tmp 2,.d (.int .i64 0)),(.tmp 3,.d (.int .i64 4))]) := by kernel_rfl
theorem sk_yes (x : FBook) (m : Mp) (th : List (List Int)) (wr : List Int) (n : Int) (ke : Nat → Prop) (w1 : World) (ds : List Deferred) :
  runK (mkE PRG (lookN typesF) globF 27 ke w1 ds) [(25,false)] [] [] (Code.at [1,1,1,1,1] (body Tryd.f89)) (skS x m th wr n) [.tmp 2,.tmp 3] =
   some ([0 + 1 ≤ 1,decide (n > (200 : Int)) = false,0 + 1 ≤ 1],.ret,[(.tmp 2,.d (.int .i64 n)),(.tmp 3,.d (.int .i64 0))]) := by kernel_rfl
theorem ba_fn : FnOk PRG (MF 33) 139 (body Tryd.f139) [.tmp 2,.tmp 3] := by refine ⟨Tryd.f139,?_,?_,?_,?_,?_⟩ <;> kernel_rfl
theorem sk_fn : FnOk PRG (MF 27) 89 (body Tryd.f89) [.tmp 2,.tmp 3] := by refine ⟨Tryd.f89,?_,?_,?_,?_,?_⟩ <;> kernel_rfl
end Go.Di

namespace Go.Di
open Proofs
open Go.RowKit

theorem plansGo_mem (x : FBook) (al : List (List Int)) : ∀ (f s : Nat) (on : W4) (p : List Work),p ∈ plansGo x al f s on → ∃ on',p = plannedF x on'
 | 0,s,on,p,h => ⟨on,by simpa [plansGo] using h⟩
 | f + 1,s,on,p,h => by
  simp only [plansGo,List.mem_flatMap] at h
  obtain ⟨z,_,h⟩ := h
  exact plansGo_mem x al f (s + 1) _ p h
theorem plans_ok {x : FBook} (hx : FIn x) {th : List (List Int)} {wr : List Int} {p : List Work} (h : p ∈ plansF x th wr) : PlanOk x p := by
 obtain ⟨on,rfl⟩ := plansGo_mem _ _ _ _ _ _ h
 exact planned_ok hx on
theorem mem_of_split {α : Type} {pre : List α} {p : α} {xs : List α} (h : ∃ post,pre ++ p :: post = xs) : p ∈ xs ∧ ∀ q ∈ pre,q ∈ xs := by
 obtain ⟨post,rfl⟩ := h
 exact ⟨by simp,fun q hq => by simp [hq]⟩

/-! ### best -/
def baO (x : FBook) (m : Mp) (th : List (List Int)) (wr : List Int) : List Work × Bool → List (Key × Val)
 | (_,false) => baS x m th wr .nil false
 | (p,true) => baS x m th wr (.sl false .work p) true
def baO1 (x : FBook) (m : Mp) (th : List (List Int)) (wr : List Int) (p : List Work) : List Work × Bool → List (Key × Val)
 | (_,false) => baS1 x m th wr .nil false p
 | (q,true) => baS1 x m th wr (.sl false .work q) true p
theorem bestOf_ok {x : FBook} {P : List Work → Prop} : ∀ (l : List (List Work)) (o : List Work × Bool),(o.2 = true → P o.1) → (∀ p ∈ l,P p) → ((l.foldl (bestStep x) o).2 = true → P (l.foldl (bestStep x) o).1)
 | [],o,ho,_ => ho
 | p :: l,o,ho,h => by
  refine bestOf_ok l _ ?_ (fun q hq => h q (by simp [hq]))
  unfold bestStep
  split
  ·exact fun _ => h p (by simp)
  ·exact ho
theorem hv_told {R : Foot} {T : Nat → Prop} {p : List Work} {vs : Array Value} {W : World} (h : ToldP R T p vs W) : ∃ v R',vs = #[v] ∧ (∀ b o,R' b o → R b o ∨ T b) ∧ Rel R' W (.sl false .work p) v := h
theorem seq_plans {x : FBook} {th : List (List Int)} {wr : List Int} (hx : FIn x) (hk : KnOk x th wr) (m : Mp) (KE : Nat → Prop) (R : Foot) (w : World) (lb : Array Value) (h1 : ∀ b,KE b → b < w.heap.size) (h2 : ∀ b o,R b o → KE b) (h3 : ∀ g cs,globF g = some cs → Rel R w (.ref cs 0) (.pointer (some ⟨g,0,none⟩))) (h4 : All2 (RelCap R w) [cellsOf (fbkD x m th wr)] lb.toList) :
  SeqM PRG 179 lb (ToldP R) (plansF x th wr) KE w := by
 obtain ⟨p1,m',e1,h5,h6⟩ := all2_cons h4
 obtain rfl := all2_nil h6
 have hlb : lb = #[p1] := by rw [← Array.toArray_toList (xs := lb),e1]
 subst hlb
 obtain ⟨bb,oo,hp,hr⟩ := h5
 refine plans_seq (m := m) hx hk h1 h2 ⟨bb,oo,by rw [hp]; simp,fun j d hd => ?_⟩ h3
 obtain ⟨u,q1,q2,q3⟩ := hr j d hd
 exact ⟨u,RelC.of0 q1,q2,q3⟩
theorem nil_work {R : Foot} {w : World} {v : Value} {b : Bool} (h : Rel R w (.tup [.sl true .work [],.bool b]) v) : Rel R w (.tup [.sl false .work [],.bool b]) v := by
 obtain ⟨vs,rfl,h⟩ := h
 obtain ⟨v0,l,e,h0,h⟩ := all2_cons h
 refine ⟨vs,rfl,?_⟩
 rw [e]
 exact ⟨sl_weak h0,h⟩

theorem best_con {x : FBook} (hx : FIn x) (m : Mp) {th : List (List Int)} {wr : List Int} (hk : KnOk x th wr) : CF 139 [fbkD x m th wr] (.tup [.sl false .work (bestF x th wr).1,.bool (bestF x th wr).2]) := by
 have hcode : body Tryd.f139 = .seq (Code.at [0] (body Tryd.f139)) (.seq (Code.at [1,0] (body Tryd.f139)) (.seq (Code.at [1,1,0] (body Tryd.f139)) (.seq (.seq (Code.at [1,1,1,0,0] (body Tryd.f139)) (.block 0 (.rangeFunc (.tmp 14) #[15] (Code.at [1,1,1,0,1,0,0] (body Tryd.f139)) (Code.at [1,1,1,0,1,0,1] (body Tryd.f139))))) (Code.at [1,1,1,1] (body Tryd.f139))))) := by kernel_rfl
 have hgoal : ∀ (r : D),(∀ (ke : Nat → Prop) (w1 : World) (ds : List Deferred),WpL PRG (mkE PRG (lookN typesF) globF 33 ke w1 ds) (Code.at [1,1,1,1] (body Tryd.f139)) (baO x m th wr (bestF x th wr)) (fun e L' => e = .ret ∧ ∃ ps,fin (mkE PRG (lookN typesF) globF 33 ke w1 ds) [.tmp 2,.tmp 3] (ofL L') = some (ps,r) ∧ allP ps)) →
   CF 139 [fbkD x m th wr] r := by
  intro r hend
  refine contract_of_marks typesF_ok ba_fn ?_
  intro w0 R0 a Q hH hQ
  rw [hcode]
  refine wpIn_seq (WpL.path (GF 33) (ba_0 x m th wr) trivial (Post := fun e L' => e = .normal ∧ L' = baA x m th wr) ⟨rfl,rfl⟩ w0 R0 a w0 _ none 1 (fun _ => rfl) hH fun e L' a1 W1 hp hH1 => ?_)
  obtain ⟨rfl,rfl⟩ := hp
  show Code.wpIn _ _ _ _ _ _ _
  refine wpIn_seq (WpL.path (GF 33) (ba_1 x m th wr) trivial (Post := fun e L' => e = .normal ∧ L' = baB x m th wr) ⟨rfl,rfl⟩ w0 R0 a1 W1 _ none 1 (fun _ => rfl) hH1 fun e L' a2 W2 hp hH2 => ?_)
  obtain ⟨rfl,rfl⟩ := hp
  show Code.wpIn _ _ _ _ _ _ _
  refine wpIn_seq (WpL.path (GF 33) (ba_2 x m th wr) ⟨fewest_con x m th wr,trivial⟩ (Post := fun e L' => e = .normal ∧ L' = baS x m th wr .nil false ++ baA x m th wr) ⟨rfl,rfl⟩ w0 R0 a2 W2 _ none 1 (fun _ => rfl) hH2 fun e L' a3 W3 hp hH3 => ?_)
  obtain ⟨rfl,rfl⟩ := hp
  show Code.wpIn _ _ _ _ _ _ _
  refine wpIn_seq (wpIn_seq (WpL.path (GF 33) (ba_3 x m th wr) ⟨plans_con x m th wr,trivial⟩ (Post := fun e L' => e = .normal ∧ L' = (.tmp 14,.d (plW x m th wr)) :: baS x m th wr .nil false) ⟨rfl,rfl⟩ w0 R0 a3 W3 _ none 1 (fun _ => rfl) hH3 fun e L' a4 W4 hp hH4 => ?_))
  obtain ⟨rfl,rfl⟩ := hp
  show Code.wpIn _ _ _ _ _ _ _
  refine range_frame (tt := lookN typesF) (glob := globF) (n := 33) (gf := 179) (caps := [cellsOf (fbkD x m th wr)]) (Told := ToldP) (xs := plansF x th wr) (S := fun pre => baO x m th wr (bestOf x pre)) (S1 := fun pre p => baO1 x m th wr p (bestOf x pre)) (fx := [4,5,6,7]) (dx := fun p => .sl false .work p) (L := (.tmp 14,.d (plW x m th wr)) :: baS x m th wr .nil false) (ks := baK)
   ?_ ⟨Tryd.f179,by kernel_rfl,by kernel_rfl,by kernel_rfl⟩ ?_ (by decide) (by decide) ?_ ?_ ?_ ?_ rfl (by kernel_rfl) (by kernel_rfl) (fun k => by rfl) ?_ hH4 ?_
  ·exact fun KE R w lb h1 h2 h3 h4 => seq_plans hx hk m KE R w lb h1 h2 h3 h4
  ·exact fun R T p vs W h => hv_told h
  ·intro pre i hi
   show (ofL (baO x m th wr (bestOf x pre))).tmp i = _
   generalize bestOf x pre = o
   obtain ⟨p,f⟩ := o
   cases f with
   | false => exact tmpIn_ok (fx := [4,5,6,7]) (by kernel_rfl) i hi
   | true => exact tmpIn_ok (fx := [4,5,6,7]) (by kernel_rfl) i hi
  ·intro pre i
   show (ofL (baO x m th wr (bestOf x pre))).mp i = _
   generalize bestOf x pre = o
   obtain ⟨p,f⟩ := o
   cases f <;> rfl
  ·rintro pre p ke no w1 fv _
   show WpL _ _ _ (_ :: baO x m th wr (bestOf x pre)) (fun e L' => e = .normal ∧ L' = baO1 x m th wr p (bestOf x pre))
   generalize bestOf x pre = o
   obtain ⟨q,f⟩ := o
   cases f with
   | false => exact WpL.path (goodR mixed_ok typesF_ok) (ba_as0 x m th wr p ke no w1 fv) trivial ⟨rfl,rfl⟩
   | true => exact WpL.path (goodR mixed_ok typesF_ok) (ba_as1 x m th wr q p ke no w1 fv) trivial ⟨rfl,rfl⟩
  ·rintro pre p ke no w1 fv hsp
   obtain ⟨hm,hpre⟩ := mem_of_split hsp
   have hp := plans_ok hx hm
   have hg := good_con hx m th wr hp
   have hq : (bestOf x pre).2 = true → PlanOk x (bestOf x pre).1 := bestOf_ok (P := PlanOk x) pre ([],false) (fun h => by cases h) (fun q hq => plans_ok hx (hpre q hq))
   have e1 : bestOf x (pre ++ [p]) = bestStep x (bestOf x pre) p := by unfold bestOf; rw [List.foldl_append]; rfl
   show WpL _ _ _ (baO1 x m th wr p (bestOf x pre)) (fun e L' => e = .normal ∧ L' = baO x m th wr (bestOf x (pre ++ [p])))
   rw [e1]
   revert hq
   generalize bestOf x pre = o
   intro hq
   obtain ⟨q,f⟩ := o
   unfold bestStep
   cases hgd : fgoodF x p with
   | false =>
    rw [hgd] at hg
    cases f with
    | false => exact WpL.path (goodR mixed_ok typesF_ok) (ba_no0 x m th wr p ke no w1 fv) ⟨hg,trivial⟩ ⟨rfl,rfl⟩
    | true => exact WpL.path (goodR mixed_ok typesF_ok) (ba_no1 x m th wr q p ke no w1 fv) ⟨hg,trivial⟩ ⟨rfl,rfl⟩
   | true =>
    rw [hgd] at hg
    cases f with
    | false => exact WpL.path (goodR mixed_ok typesF_ok) (ba_first x m th wr p ke no w1 fv) ⟨hg,trivial⟩ ⟨rfl,rfl⟩
    | true =>
     have hb := better_con hx m th wr hp (hq rfl)
     dsimp only at hb ⊢
     cases hbt : betterWF x p q with
     | false =>
      rw [hbt] at hb
      exact WpL.path (goodR mixed_ok typesF_ok) (ba_worse x m th wr q p ke no w1 fv) ⟨hg,hb,trivial⟩ ⟨rfl,rfl⟩
     | true =>
      rw [hbt] at hb
      exact WpL.path (goodR mixed_ok typesF_ok) (ba_better x m th wr q p ke no w1 fv) ⟨hg,hb,trivial⟩ ⟨rfl,rfl⟩
  ·exact freeIn_ok (by kernel_rfl)
  ·intro D a5 W5 hD hH5 hWD
   show Code.wpIn _ _ _ _ _ _ _
   refine hend _ _ _ w0 R0 a5 W5 _ none 1 (fun _ => rfl) hH5 fun e L' a6 W6 hp hH6 => ?_
   obtain ⟨rfl,hfin⟩ := hp
   exact hQ D a6 W6 W5 _ L' hD hH6 hWD hfin (.inr rfl)
 have hnil : (bestF x th wr).2 = false → (bestF x th wr).1 = [] := by
  have key : ∀ (l : List (List Work)) (o : List Work × Bool),(o.2 = false → o.1 = []) → ((l.foldl (bestStep x) o).2 = false → (l.foldl (bestStep x) o).1 = []) := by
   intro l
   induction l with
   | nil => exact fun o h => h
   | cons p l ih =>
    intro o ho
    refine ih _ ?_
    unfold bestStep
    split
    ·exact fun h => by cases h
    ·exact ho
  exact key _ _ (fun _ => rfl)
 revert hgoal hnil
 generalize bestF x th wr = o
 intro hgoal hnil
 obtain ⟨p,f⟩ := o
 cases f with
 | false =>
  obtain rfl : p = [] := hnil rfl
  refine (hgoal (.tup [.sl true .work [],.bool false]) ?_).toRes fun R w v h => nil_work h
  intro ke w1 ds
  exact WpL.path (goodE mixed_ok typesF_ok) (ba_end0 x m th wr ke w1 ds) trivial ⟨rfl,[],by kernel_rfl,trivial⟩
 | true =>
  refine hgoal _ ?_
  intro ke w1 ds
  exact WpL.path (goodE mixed_ok typesF_ok) (ba_end1 x m th wr p ke w1 ds) trivial ⟨rfl,[],by kernel_rfl,trivial⟩
end Go.Di

