/- Part 15: an interpreter over plain data for this code, with the proof that it says what the model does, and the contracts of the functions. No condition. -/
import Derived.Test.YtfkmodcjddfeiaaDoorDi14
import Derived.OrdersIn
import Derived.RangeFuncLeaves
set_option linter.unusedVariables false
set_option linter.unusedSimpArgs false
namespace Go.Di
open Proofs
open Go.RowKit

section
variable {P : Program} {Q : Exit → Act → World → Prop} {a : Act} {w w' : World}

theorem wpOps_skip {ops : Array Oper} {i : Nat} {l : List Nat} {o : Oper} (ho : ops[i]? = some o) (hg : o.guard = none) (hrun : (execOp a.eval o).run P w = .ok .skip w') (hK : wpOps P ops Q l (a.put o.dst undef) w') : wpOps P ops Q (i :: l) a w := by
 rw [wpOps_cons]
 unfold wpOp
 rw [ho]
 have : Region.wanted o (yielded ops a.tmps) = true := by simp [Region.wanted,hg]
 simp only [this,if_true]
 refine .inl ?_
 unfold Oper.wp
 rw [hrun]
 exact hK

theorem region3 {id m : Nat} {ops : Array Oper} (hm : P.follows .mixedOrders = true) (hs : ops.size = 3) (hnd : noDefer ops.toList = true) (h0 : Region.ready .any ops #[false,false,false] = [0,1]) (h1 : Region.ready .any ops #[true,false,false] = [1]) (h2 : Region.ready .any ops #[false,true,false] = [0])
  (h3 : Region.ready .any ops #[true,true,false] = [2]) (h4 : Region.ready .any ops #[true,true,true] = []) (ha : wpOps P ops (noOut Q) [0,1,2] a w.drew) (hb : wpOps P ops (noOut Q) [1,0,2] a w.drew) : (Code.region id ops true).wpIn (FR none) m P Q a w := by
 refine wpIn_mono (Q := noOut Q) (wpIn_region_any hm ?_) fun e a w => noOut_mono
 have ha := opsIn (ro := none) (n := m) hnd (noOut_out Q) _ _ _ ha
 have hb := opsIn (ro := none) (n := m) hnd (noOut_out Q) _ _ _ hb
 rw [Go.wpOpsIn_cons] at ha hb
 rw [hs]
 show wpAnyIn _ _ _ _ _ _ (2 + 1) #[false,false,false] _ _
 refine ⟨fun h => (by rw [h0] at h; cases h),fun i hi => ?_⟩
 rw [h0] at hi
 have key : ∀ a w,wpOpsIn (FR none) m P ops (noOut Q) [2] a w → wpAnyIn (FR none) m P .any ops (noOut Q) 1 #[true,true,false] a w := by
  intro a w h
  refine ⟨fun h => (by rw [h3] at h; cases h),fun i hi => ?_⟩
  rw [h3] at hi
  have : i = 2 := by simpa using hi
  subst this
  rw [Go.wpOpsIn_cons] at h
  exact wpOpIn_mono (fun a w h => ⟨h4,h⟩) h
 have hi' : i = 0 ∨ i = 1 := by simpa using hi
 rcases hi' with rfl | rfl
 ·refine wpOpIn_mono (fun a w h => ?_) ha
  refine ⟨fun h => (by rw [show (#[false,false,false] : Array Bool).setIfInBounds 0 true = #[true,false,false] from rfl,h1] at h; cases h),fun i hi => ?_⟩
  rw [show (#[false,false,false] : Array Bool).setIfInBounds 0 true = #[true,false,false] from rfl,h1] at hi
  have : i = 1 := by simpa using hi
  subst this
  rw [Go.wpOpsIn_cons] at h
  exact wpOpIn_mono (fun a w h => key a w h) h
 ·refine wpOpIn_mono (fun a w h => ?_) hb
  refine ⟨fun h => (by rw [show (#[false,false,false] : Array Bool).setIfInBounds 1 true = #[false,true,false] from rfl,h2] at h; cases h),fun i hi => ?_⟩
  rw [show (#[false,false,false] : Array Bool).setIfInBounds 1 true = #[false,true,false] from rfl,h2] at hi
  have : i = 0 := by simpa using hi
  subst this
  rw [Go.wpOpsIn_cons] at h
  exact wpOpIn_mono (fun a w h => key a w h) h

theorem wpOps_con {glob : Nat → Option (List D)} {ops : Array Oper} {i : Nat} {l : List Nat} {o : Oper} {f : FuncId} {args : List D} {r : D} {vs : List Value} {R : Foot} (hcon : Contract P glob f args r) (ho : ops[i]? = some o) (hg : o.guard = none) {c : Call} (hc : o.op = .call c) (hcal : c.callee = .value (.func f)) (hargs : c.args.map a.eval = vs.toArray)
  (hs : ∀ b o,R b o → b < w.heap.size) (hgl : ∀ g cs,glob g = some cs → Rel R w (.ref cs 0) (.pointer (some ⟨g,0,none⟩))) (ha : All2 (Rel R w) args vs)
  (hK : ∀ v w' R',Below w.heap.size w w' → (∀ b o,R b o → R' b o) → (∀ b o,R' b o → b < w'.heap.size ∧ (R b o ∨ w.heap.size ≤ b)) → Rel R' w' r v → wpOps P ops Q l (a.put o.dst v) w') : wpOps P ops Q (i :: l) a w := by
 obtain ⟨⟨fn,h1,h2,h3⟩,hcalls⟩ := hcon
 refine wpOps_callv ho hg hc hcal (f := f) (caps := #[]) rfl hargs h1 h2 h3 (by simpa using hcalls w R vs hs hgl ha) ?_
 rintro e w' ⟨v,rfl,hb,R',h4,h5,h6⟩
 exact ⟨v,rfl,hK v w' R' hb h4 h5 h6⟩
end

theorem wD_rel {R : Foot} {w : World} {x0 x1 x2 x3 : Int} {v : Value} (h : Rel R w (wD x0 x1 x2 x3) v) : v = .agg #[.int .i64 x0,.int .i64 x1,.int .i64 x2,.int .i64 x3] := by
 obtain ⟨vs,rfl,h⟩ := h
 have : vs.toList = [.int .i64 x0,.int .i64 x1,.int .i64 x2,.int .i64 x3] := by
  obtain ⟨v0,l,e,h0,h⟩ := all2_cons h
  obtain ⟨v1,l1,rfl,h1,h⟩ := all2_cons h
  obtain ⟨v2,l2,rfl,h2,h⟩ := all2_cons h
  obtain ⟨v3,l3,rfl,h3,h⟩ := all2_cons h
  obtain rfl := all2_nil h
  rw [e,show v0 = .int .i64 x0 from h0,show v1 = .int .i64 x1 from h1,show v2 = .int .i64 x2 from h2,show v3 = .int .i64 x3 from h3]
 rw [← Array.toArray_toList (xs := vs),this]

theorem whole_seq {b : Book} {l : List Ent} {ts : List TrC} {KE : Nat → Prop} {p1 : Value} {W0 : World} {R : Foot} (hn : b.secs.length ≤ 4) (ht : b.turns.length ≤ 1000) (hl : ∀ e ∈ l,EntOk e) (hw : ∀ p < b.secs.length,0 ≤ (b.secs.getD p sec0).w.lo ∧ -1 ≤ (b.secs.getD p sec0).w.hi ∧ (b.secs.getD p sec0).w.hi ≤ 1000)
  (hKE : ∀ b,KE b → b < W0.heap.size) (hR : ∀ b o,R b o → KE b) (hp1 : Rel R W0 (.ref (cellsOf (bkD b (.spot l) ts)) 0) p1) (hg : ∀ g cs,glob g = some cs → Rel R W0 (.ref cs 0) (.pointer (some ⟨g,0,none⟩))) :
  SeqM PR 192 #[p1] ToldT (wholeGo b l b.secs.length 0 ⟨0,0,0,0⟩) KE W0 := by
 intro y J hJ hy W hb hj
 have hyk : YieldOk KE (wholeGo b l b.secs.length 0 ⟨0,0,0,0⟩) y J := hy
 have hW0 : W0.heap.size ≤ W.heap.size := hb.size
 refine calls_of_wp (fn := Tryd.f192) (c := body Tryd.f192) (by kernel_rfl) (by kernel_rfl) ((wpIn_wide (n := 0)).1 ?_)
 have hnt : (Tryd.f192).ntmps = 11 := by kernel_rfl
 rw [hnt]
 show Code.wpIn (FR none) 0 _ (body Tryd.f192) _ _ _
 have hcode : body Tryd.f192 = .seq (.region 0 (rops (Code.at [0] (body Tryd.f192))) false) (.seq (Code.at [1,0] (body Tryd.f192)) (.seq (Code.at [1,1,0] (body Tryd.f192)) (.seq (.region 3 (rops (Code.at [1,1,1,0] (body Tryd.f192))) false) (.region 4 (rops (Code.at [1,1,1,1] (body Tryd.f192))) true)))) := by kernel_rfl
 rw [hcode]
 -- the box of yield
 refine wpIn_seq (wp_text (by kernel_rfl) ?_)
 rw [show (rops (Code.at [0] (body Tryd.f192))).size = 1 by kernel_rfl]
 show wpOps _ _ _ (0 :: []) _ _
 obtain ⟨o0,h00,h01,h02,h03⟩ := (opAt (ops := rops (Code.at [0] (body Tryd.f192))) (i := 0) (dst := some 2) (op := .box 206 (.tmp 0)) (by kernel_rfl)).at_
 obtain ⟨a0,ha0⟩ : ∃ a0 : Act,a0 = { tmps := (#[.func (.yield y) #[] #[]] ++ #[p1] : Array Value) ++ Array.replicate (11 - (#[.func (.yield y) #[] #[]] ++ #[p1] : Array Value).size) undef,defers := [] } := ⟨_,rfl⟩
 rw [← ha0]
 have ha0' : a0 = { tmps := #[.func (.yield y) #[] #[],p1,undef,undef,undef,undef,undef,undef,undef,undef,undef],defers := [] } := by rw [ha0]; rfl
 refine wpOps_hand (v := .pointer (some ⟨W.heap.size,0,none⟩)) (w' := W.alloc (.cells #[.func (.yield y) #[] #[]] 206)) h00 h01 (by
  have hev : a0.eval (.tmp 0) = .func (.yield y) #[] #[] := by rw [ha0']; rfl
  simp [execOp,h03,hev,Instr.box,run_newVar,Value.cells]) ?_
 rw [h02]
 show Code.wpIn _ _ _ _ _ _ _
 obtain ⟨W1,hW1⟩ : ∃ W1,W1 = W.alloc (.cells #[.func (.yield y) #[] #[]] 206) := ⟨_,rfl⟩
 rw [← hW1]
 have hs1 : W1.heap.size = W.heap.size + 1 := by rw [hW1]; simp
 have hb1 : Below W.heap.size W W1 := by rw [hW1]; exact below_alloc1 _ _
 have hy1 : W1.heap[W.heap.size]? = some (.cells #[.func (.yield y) #[] #[]] 206 (0,0)) := by rw [hW1]; exact heap_alloc_new _ _
 have hj1 : J [] (fun b => b = W.heap.size) W1 := hJ.new _ _ _ _ _ hj hb1 (fun b hb => .inr ⟨by omega,by omega⟩)
 have hRs : ∀ b o,R b o → b < W0.heap.size := fun b o hr => hKE b (hR b o hr)
 have hk01 : Keeps R R W0 W1 := Keeps.of_below (fun _ _ h => h) hRs (hb.trans (hb1.mono hW0))
 obtain ⟨a1,ha1⟩ : ∃ a1,a1 = a0.put (some 2) (.pointer (some ⟨W.heap.size,0,none⟩)) := ⟨_,rfl⟩
 rw [← ha1]
 have ha1' : a1 = { tmps := #[.func (.yield y) #[] #[],p1,.pointer (some ⟨W.heap.size,0,none⟩),undef,undef,undef,undef,undef,undef,undef,undef],defers := [] } := by rw [ha1,ha0']; rfl
 have hfr := Fr.start (P := PR) (tt := lookN types) (glob := glob) (n := 11) (fx := [0,1,2]) (KE := KE) (N := fun b => b = W.heap.size) (W := W1) (R := R) (a := a1) (args := [.undef,.ref (cellsOf (bkD b (.spot l) ts)) 0]) (by rw [ha1']) (by rw [ha1']; exact Nat.le_refl 11) (fun b hb => by omega) (fun b hb => by have := hKE b hb; omega) (fun b o hr => .inl (hR b o hr)) (fun g cs hgl => Rel.keep hk01 _ _ (hg g cs hgl)) (fun i d hi => by
  match i,hi with
  | 0,hi => cases hi; exact .inl rfl
  | 1,hi => cases hi; refine .inr ?_; rw [ha1']; exact Rel.keep hk01 _ _ hp1)
 have hKE1 : ∀ b,KE b → b < W1.heap.size := fun b hb => by have := hKE b hb; omega
 have hN1 : ∀ b,(fun b => b = W.heap.size) b → b < W1.heap.size := fun b hb => by omega
 have hmid0 : Mid KE J [] [] (fun b => b = W.heap.size) W1 (fun b => b = W.heap.size) W1 := ⟨fun _ h => h,hj1,Nat.le_refl _,fun _ _ => rfl,hN1⟩
 refine wpIn_seq (hfr.path mixed_ok types_ok hJ hmid0.j (fun ke no w1 => ⟨_,wi_1 b (.spot l) ts ke no w1 _,trivial⟩) (by kernel_rfl) (by kernel_rfl) fun a2 W2 N2 hN2 => ?_)
 have hmid2 := hmid0.step hN2 hKE1 hN1
 have hf2 := hN2.fr.fix [0,1,2,3]
 have e1 : a2.tmps.getD 1 undef = p1 := by rw [hN2.fr.fixed 1 (by simp),ha1']; rfl
 have e2 : a2.tmps.getD 2 undef = .pointer (some ⟨W.heap.size,0,none⟩) := by rw [hN2.fr.fixed 2 (by simp),ha1']; rfl
 show Code.wpIn _ _ _ _ _ _ _
 refine wpIn_seq (hf2.path mixed_ok types_ok hJ hmid2.j (fun ke no w1 => ⟨_,wi_2 b (.spot l) ts ke no w1 _,trivial⟩) (by kernel_rfl) (by kernel_rfl) fun a3 W3 N3 hN3 => ?_)
 have hmid3 := hmid2.step hN3 hKE1 hN1
 have e1' : a3.tmps.getD 1 undef = p1 := (hN3.fr.fixed 1 (by simp)).trans e1
 have e2' : a3.tmps.getD 2 undef = .pointer (some ⟨W.heap.size,0,none⟩) := (hN3.fr.fixed 2 (by simp)).trans e2
 show Code.wpIn _ _ _ _ _ _ _
 -- what is known of the boxes
 obtain ⟨β,σ,R3,hI⟩ := hN3.fr
 have hnt3 : 11 ≤ a3.tmps.size := hI.inv.nt
 have hdf3 : a3.defers = [] := hI.inv.defers
 have t3 : RelT β σ (ofL (wiS1 b (.spot l) ts ++ [(.tmp 4,.d (.ptr 4 0)),(.box 4,.bx (some ⟨false,[.nilfn]⟩))])) R3 W3 (.ptr 3 0) (a3.tmps.getD 3 undef) := hI.inv.tmps 3
 have t4 : RelT β σ (ofL (wiS1 b (.spot l) ts ++ [(.tmp 4,.d (.ptr 4 0)),(.box 4,.bx (some ⟨false,[.nilfn]⟩))])) R3 W3 (.ptr 4 0) (a3.tmps.getD 4 undef) := hI.inv.tmps 4
 obtain ⟨_,t3⟩ := t3
 obtain ⟨_,t4⟩ := t4
 have hbx3 : (ofL (wiS1 b (.spot l) ts ++ [(.tmp 4,.d (.ptr 4 0)),(.box 4,.bx (some ⟨false,[.nilfn]⟩))])).bx 3 = some ⟨false,[.fn 193 [bkD b (.spot l) ts] []]⟩ := by kernel_rfl
 have hbx4 : (ofL (wiS1 b (.spot l) ts ++ [(.tmp 4,.d (.ptr 4 0)),(.box 4,.bx (some ⟨false,[.nilfn]⟩))])).bx 4 = some ⟨false,[.nilfn]⟩ := by kernel_rfl
 obtain ⟨q31,⟨arr3,el3,q32,_,q33,_⟩,q34⟩ := hI.inv.box 3 _ hbx3
 obtain ⟨q41,⟨arr4,el4,q42,_,q43,_⟩,q44⟩ := hI.inv.box 4 _ hbx4
 have hN3b := hI.box 3 _ hbx3
 have hN4b := hI.box 4 _ hbx4
 have hne34 : β 3 ≠ β 4 := fun e => by have := hI.inv.inj 3 4 _ _ hbx3 hbx4 e; omega
 rw [cut_size hI.le] at q31 q41
 obtain ⟨fv3,m3,e3,q35,q36⟩ := all2_cons (q33 rfl)
 have h30 : arr3[0]? = some fv3 := by
  have h := congrArg (fun l => l[0]?) e3
  simp only [List.getElem?_take,List.length_singleton,List.getElem?_cons_zero] at h
  simpa using h
 have hs4 : 0 < arr4.size := by
  have := All2.length (q43 rfl)
  rw [List.length_take,Array.length_toList] at this
  simp at this
  omega
 -- the function 'wear' is made
 refine wpIn_seq (wp_text (by kernel_rfl) ?_)
 rw [show (rops (Code.at [1,1,1,0] (body Tryd.f192))).size = 2 by kernel_rfl]
 show wpOps _ _ _ (0 :: [1]) _ _
 obtain ⟨o1,h10,h11,h12,h13⟩ := (opAt (ops := rops (Code.at [1,1,1,0] (body Tryd.f192))) (i := 0) (dst := some 7) (op := .makeFunc (.func 194) #[] #[.tmp 1,.tmp 3,.tmp 2,.tmp 4]) (by kernel_rfl)).at_
 obtain ⟨wv,hwv⟩ : ∃ wv : Value,wv = .func (.func 194) #[] #[p1,.pointer (some ⟨β 3,0,none⟩),.pointer (some ⟨W.heap.size,0,none⟩),.pointer (some ⟨β 4,0,none⟩)] := ⟨_,rfl⟩
 refine wpOps_hand (v := wv) (w' := W3) h10 h11 (by
  have : #[Operand.tmp 1,.tmp 3,.tmp 2,.tmp 4].map a3.eval = #[p1,.pointer (some ⟨β 3,0,none⟩),.pointer (some ⟨W.heap.size,0,none⟩),.pointer (some ⟨β 4,0,none⟩)] := by
   simp only [List.map_toArray,List.map_cons,List.map_nil]
   show #[a3.tmps.getD 1 undef,a3.tmps.getD 3 undef,a3.tmps.getD 2 undef,a3.tmps.getD 4 undef] = _
   rw [e1',e2',t3,t4]
  rw [hwv]
  simp only [execOp,h13,this]
  simp [Instr.makeFunc]) ?_
 rw [h12]
 obtain ⟨o2,h20,h21,h22,h23⟩ := (opAt (ops := rops (Code.at [1,1,1,0] (body Tryd.f192))) (i := 1) (dst := none) (op := .store 208 (.tmp 4) (.tmp 7)) (by kernel_rfl)).at_
 have hst := storeAt_run (P := PR) (C := mkF PR (lookN types) glob 11 (fun _ => False) (fun _ => False) W3 [] (fun _ => undef)) (w := W3) (t := 208) (ti := ⟨.other,1,8,[.nilfn],none,false⟩) (types_ok 208 _ (by kernel_rfl)) (g := β 4) (off := 0) (v := wv) q42 (by rw [hwv]; rfl) (by show 0 + 1 ≤ _; omega) (by rw [hwv]; intro u hu; simp [Value.cells] at hu; subst hu; rfl)
 rw [show wv.cells.toList = [wv] by rw [hwv]; rfl] at hst
 obtain ⟨r1,r2,r3,r4⟩ := setCells_rest (β 4) [wv] 0 W3
 have r5 := setCells_get (β 4) [wv] 0 W3 _ _ _ q42
 have r6 := fun k hk => setCells_other (β 4) [wv] 0 W3 k hk
 obtain ⟨V,hV⟩ : ∃ V,V = W3.setCells (β 4) 0 [wv] := ⟨_,rfl⟩
 rw [← hV] at hst r1 r2 r3 r4 r5 r6
 have hcV : V.heap[β 4]? = some (.cells (putAll arr4 0 [wv]) el4 (0,0)) := r5
 have hp4 : (putAll arr4 0 [wv])[0]? = some wv := by rw [putAll_get,if_pos ⟨Nat.le_refl _,by simp,hs4⟩]; rfl
 have h7 : 7 < a3.tmps.size := by omega
 refine wpOps_skip (w' := V) h20 h21 (by
  have hev4 : (a3.put (some 7) wv).eval (.tmp 4) = .pointer (some ⟨β 4,0,none⟩) := by
   show (a3.put (some 7) wv).tmps.getD 4 undef = _
   rw [getD_put a3 7 wv 4 h7,if_neg (by decide)]
   exact t4
  have hev7 : (a3.put (some 7) wv).eval (.tmp 7) = wv := by
   show (a3.put (some 7) wv).tmps.getD 7 undef = _
   rw [getD_put a3 7 wv 7 h7,if_pos rfl]
  simp only [execOp,h23,hev4,hev7]
  simp [hst]) ?_
 rw [h22]
 show Code.wpIn _ _ _ _ _ _ _
 obtain ⟨a4,ha4⟩ : ∃ a4,a4 = a3.put (some 7) wv := ⟨_,rfl⟩
 have hput : (a3.put (some 7) wv).put none undef = a4 := by rw [ha4]; rfl
 rw [hput]
 have ha4t : a4.tmps.getD 4 undef = .pointer (some ⟨β 4,0,none⟩) := by rw [ha4,getD_put a3 7 wv 4 h7,if_neg (by decide)]; exact t4
 have hnt4 : 11 ≤ a4.tmps.size := by rw [ha4]; simpa [Act.put] using hnt3
 have hdf4 : a4.defers = [] := by rw [ha4]; exact hdf3
 -- the caller's invariant behind the store
 have hjV : J [] N3 V := hJ.store _ _ _ _ (β 4) hmid3.j hN4b ⟨⟨r1,r2,r3,r4⟩,⟨_,_,_,_,q42,hcV⟩,r6⟩
 have hsV : V.heap.size = W3.heap.size := r4
 have hKEV : ∀ b,KE b → V.heap[b]? = W1.heap[b]? := fun b hb => by
  have := hKE b hb
  rw [r6 b (by omega)]
  exact hmid3.same b (.inl hb)
 -- the memory that is spoken of
 have hR3 : ∀ b o,R3 b o → b ≠ β 4 := fun b o hr e => q44 rfl o (e ▸ hr)
 have hfin : ∀ (a' : Act) (W' : World),a'.defers = [] → (results Tryd.f192 a'.tmps).run PR W' = .ok (.tuple #[]) W' := by
  intro a' W' _
  have := results_run (P := PR) (a := a') (w := W') (fn := Tryd.f192) (rs := []) (by kernel_rfl) (vs := []) trivial
  simpa using this
 -- the last call,in a world that has grown
 have hlast : ∀ (a5 : Act) (W5 : World),Below V.heap.size V W5 → 11 ≤ a5.tmps.size → a5.defers = [] → a5.tmps.getD 8 undef = wv → a5.tmps.getD 9 undef = w4V ⟨0,0,0,0⟩ →
   wpOps PR (rops (Code.at [1,1,1,1] (body Tryd.f192))) (noOut (bodyPost PR Tryd.f192 fun e W' => (∃ v,e = .returned v) ∧ ∃ N,J (wholeGo b l b.secs.length 0 ⟨0,0,0,0⟩) N W')) [2] a5 W5 := by
  intro a5 W5 hb5 hnt5 hdf5 g8 g9
  obtain ⟨o5,h50,h51,h52,h53⟩ := (opAt (ops := rops (Code.at [1,1,1,1] (body Tryd.f192))) (i := 2) (dst := some 10) (op := .call { callee := .value (.tmp 8),args := #[.tmp 9,.const (.int .i64 0)],argTypes := #[140,3] }) (by kernel_rfl)).at_
  obtain ⟨fn,f1,f2,f3⟩ := wear_fn
  have hj5 : J [] N3 W5 := hJ.new _ _ _ _ _ hjV hb5 (fun b hb => .inl hb)
  have hN5 : ∀ b,N3 b → b < W5.heap.size := fun b hb => by have := hmid3.own b hb; have := hb5.size; omega
  have hKE5 : ∀ b,KE b → b < W5.heap.size := fun b hb => by have := hKE1 b hb; have := hmid3.size; have := hb5.size; omega
  have hkk : Keeps R3 (fun b o => R3 b o ∨ b = β 3) W3 W5 := by
   have hh : ∀ b,(∃ o,R3 b o) → W5.heap[b]? = W3.heap[b]? := fun b ⟨o,hr⟩ => by
    have := (hI.inv.dom b o hr).1
    rw [hb5.block b (by omega),r6 b (hR3 b o hr)]
   exact ⟨fun b o h => .inl h,fun b o u hr hc => by rw [cell_same (hh b ⟨o,hr⟩)]; exact hc,fun b es c hr hm => by rw [hh b ⟨0,hr⟩]; exact hm⟩
  have hb3 : W5.heap[β 3]? = some (.cells arr3 el3 (0,0)) := by
   have := (Array.getElem?_eq_some_iff.1 q32).1
   rw [hb5.block _ (by omega),r6 _ hne34]
   exact q32
  have hb4 : W5.heap[β 4]? = some (.cells (putAll arr4 0 [wv]) el4 (0,0)) := by
   have := (Array.getElem?_eq_some_iff.1 q42).1
   rw [hb5.block _ (by omega)]
   exact hcV
  have hby : W5.heap[W.heap.size]? = some (.cells #[.func (.yield y) #[] #[]] 206 (0,0)) := by
   have hl := hmid3.size
   have hne : W.heap.size ≠ β 4 := by omega
   rw [hb5.block _ (by omega),r6 _ hne,hmid3.same _ (.inr rfl)]
   exact hy1
  have hp1' : Rel (fun b o => R3 b o ∨ b = β 3) W5 (.ref (cellsOf (bkD b (.spot l) ts)) 0) p1 := by
   have := hI.inv.tmps 1
   have h1 : RelT β σ (ofL (wiS1 b (.spot l) ts ++ [(.tmp 4,.d (.ptr 4 0)),(.box 4,.bx (some ⟨false,[.nilfn]⟩))])) R3 W3 (.ref (cellsOf (bkD b (.spot l) ts)) 0) (a3.tmps.getD 1 undef) := this
   rw [e1'] at h1
   exact Rel.keep hkk _ _ h1
  have hcaps : Caps b l ts KE y p1 (.pointer (some ⟨W.heap.size,0,none⟩)) (.pointer (some ⟨β 3,0,none⟩)) (.pointer (some ⟨β 4,0,none⟩)) N3 W5 := by
   refine ⟨⟨fun b o => R3 b o ∨ b = β 3,fun b o hr => ?_,hp1',⟨β 3,0,by simp,fun j d hd => ?_⟩,fun g cs hgl => Rel.keep hkk _ _ (hI.inv.glob g cs hgl)⟩,⟨W.heap.size,rfl,hmid3.le _ rfl,?_⟩,⟨β 4,rfl,hN4b,?_⟩⟩
   ·rcases hr with hr | rfl
    ·exact hI.foot b o hr
    ·exact .inr hN3b
   ·match j,hd with
    | 0,hd =>
     cases hd
     exact ⟨fv3,RelC.keep hkk _ _ q35,.inr rfl,by simp [World.cell?,hb3,h30]⟩
   ·simp [World.cell?,hby]
   ·exact (show W5.cell? ⟨β 4,0,none⟩ = some wv by simp [World.cell?,hb4,hp4]).trans (by rw [hwv])
  have hcl := wear_ok hJ hyk hn ht hl hw b.secs.length 0 (by omega) ⟨0,0,0,0⟩ [] N3 W5 ⟨by decide,by decide,by decide,by decide⟩ ⟨[],by simp⟩ hj5 hKE5 hN5 hcaps
  refine wpOps_callv h50 h51 h53 rfl (f := 194) (caps := #[p1,.pointer (some ⟨β 3,0,none⟩),.pointer (some ⟨W.heap.size,0,none⟩),.pointer (some ⟨β 4,0,none⟩)]) (g8.trans hwv) (vs := #[w4V ⟨0,0,0,0⟩,.int .i64 0]) (by simp only [List.map_toArray,List.map_cons,List.map_nil]; show #[a5.tmps.getD 9 undef,_] = _; rw [g9]; rfl) f1 f2 f3 hcl ?_
  rintro e W6 ⟨rfl,N6,hm6⟩
  refine ⟨_,rfl,?_⟩
  rw [h52]
  exact ⟨hdf5,.tuple #[],hfin _ _ hdf5,⟨_,rfl⟩,N6,hm6.j⟩
 have hb3' : ∀ (W5 : World),Below V.heap.size V W5 → W5.cell? ⟨β 4,0,none⟩ = some wv := fun W5 hb5 => by
  have := (Array.getElem?_eq_some_iff.1 hcV).1
  simp [World.cell?,hb5.block _ this,hcV,hp4]
 have hgl5 : ∀ (W5 : World),Below V.heap.size V W5 → ∀ g cs,glob g = some cs → Rel R W5 (.ref cs 0) (.pointer (some ⟨g,0,none⟩)) := fun W5 hb5 g cs hgl => by
  have hk : Keeps R R W1 W5 := by
   have hh : ∀ b,(∃ o,R b o) → W5.heap[b]? = W1.heap[b]? := fun b ⟨o,hr⟩ => by
    have := hKE1 b (hR b o hr)
    have := hmid3.size
    rw [hb5.block b (by omega)]
    exact hKEV b (hR b o hr)
   exact ⟨fun _ _ h => h,fun b o u hr hc => by rw [cell_same (hh b ⟨o,hr⟩)]; exact hc,fun b es c hr hm => by rw [hh b ⟨0,hr⟩]; exact hm⟩
  exact Rel.keep hk _ _ (Rel.keep hk01 _ _ (hg g cs hgl))
 obtain ⟨o8,h80,h81,h82,h83⟩ := (opAt (ops := rops (Code.at [1,1,1,1] (body Tryd.f192))) (i := 0) (dst := some 8) (op := .load 208 (.tmp 4)) (by kernel_rfl)).at_
 obtain ⟨o9,h90,h91,h92,h93⟩ := (opAt (ops := rops (Code.at [1,1,1,1] (body Tryd.f192))) (i := 1) (dst := some 9) (op := .call { callee := .value (.func 197),args := #[],argTypes := #[] }) (by kernel_rfl)).at_
 have hrun8 : ∀ (a5 : Act) (W5 : World),Below V.heap.size V W5 → a5.tmps.getD 4 undef = .pointer (some ⟨β 4,0,none⟩) → (execOp a5.eval o8).run PR W5 = .ok (.value wv) W5 := by
  intro a5 W5 hb5 g4
  have hev : a5.eval (.tmp 4) = .pointer (some ⟨β 4,0,none⟩) := g4
  simp only [execOp,h83,hev]
  simp [run_loadv (P := PR) types_ok (t := 208) (ti := ⟨.other,1,8,[.nilfn],none,false⟩) (by kernel_rfl) rfl rfl (hb3' W5 hb5)]
 have hcon9 : ∀ (a5 : Act) (W5 : World) (l' : List Nat) (Q' : Exit → Act → World → Prop),Below V.heap.size V W5 → (∀ W6,Below V.heap.size V W6 → wpOps PR (rops (Code.at [1,1,1,1] (body Tryd.f192))) Q' l' (a5.put (some 9) (w4V ⟨0,0,0,0⟩)) W6) → wpOps PR (rops (Code.at [1,1,1,1] (body Tryd.f192))) Q' (1 :: l') a5 W5 := by
  intro a5 W5 l' Q' hb5 hK
  refine wpOps_con unworn_con h90 h91 h93 rfl (vs := []) (by simp) (R := R) (fun b o hr => ?_) (hgl5 W5 hb5) trivial fun v W6 R' hb6 _ _ hv => ?_
  ·have := hKE1 b (hR b o hr)
   have := hmid3.size
   have := hb5.size
   omega
  ·rw [h92,wD_rel hv]
   exact hK W6 (hb5.trans (hb6.mono hb5.size))
 have hdrew : Below V.heap.size V V.drew := below_drew1 V
 have get8 : ∀ (a5 : Act) (v : Value) (d i : Nat),11 ≤ a5.tmps.size → d < 11 → (a5.put (some d) v).tmps.getD i undef = if d = i then v else a5.tmps.getD i undef := fun a5 v d i h1 h2 => getD_put a5 d v i (by omega)
 have siz8 : ∀ (a5 : Act) (v : Value) (d : Nat),(a5.put (some d) v).tmps.size = a5.tmps.size := fun a5 v d => by simp [Act.put]
 refine region3 mixed_ok (by kernel_rfl) (by kernel_rfl) (by kernel_rfl) (by kernel_rfl) (by kernel_rfl) (by kernel_rfl) (by kernel_rfl) ?_ ?_
 ·refine wpOps_hand (v := wv) (w' := V.drew) h80 h81 (hrun8 a4 _ hdrew ha4t) ?_
  rw [h82]
  refine hcon9 _ _ _ _ hdrew fun W6 hb6 => ?_
  refine hlast _ W6 hb6 (by rw [siz8,siz8]; exact hnt4) hdf4 ?_ ?_
  ·rw [get8 _ _ 9 8 (by rw [siz8]; exact hnt4) (by decide),if_neg (by decide),get8 _ _ 8 8 hnt4 (by decide),if_pos rfl]
  ·rw [get8 _ _ 9 9 (by rw [siz8]; exact hnt4) (by decide),if_pos rfl]
 ·refine hcon9 _ _ _ _ hdrew fun W6 hb6 => ?_
  refine wpOps_hand (v := wv) (w' := W6) h80 h81 (hrun8 _ _ hb6 (by rw [get8 _ _ 9 4 hnt4 (by decide),if_neg (by decide)]; exact ha4t)) ?_
  rw [h82]
  refine hlast _ W6 hb6 (by rw [siz8,siz8]; exact hnt4) hdf4 ?_ ?_
  ·rw [get8 _ _ 8 8 (by rw [siz8]; exact hnt4) (by decide),if_pos rfl]
  ·rw [get8 _ _ 8 9 (by rw [siz8]; exact hnt4) (by decide),if_neg (by decide),get8 _ _ 9 9 hnt4 (by decide),if_pos rfl]
end Go.Di

/-
 DI,part W: a map of the call's own is told to others: from now on it stays as it is.
-/
namespace Go.Di
open Go.RowKit

def tellC (j : Nat) (m : Mp) : D → D
 | .mref i => match Nat.beq i j with
  | true => .map m
  | false => .mref i
 | d => d
def tellD (j : Nat) (m : Mp) : D → D
 | .agg cs => .agg (cs.map (tellC j m))
 | d => tellC j m d
def tellV (j : Nat) (m : Mp) : Key → Val → Val
 | _,.d d => .d (tellD j m d)
 | _,.bx (some b) => .bx (some ⟨b.frozen,b.cells.map (tellC j m)⟩)
 | .mp i,v => match Nat.beq i j with
  | true => .mp none
  | false => v
 | _,v => v
def tellS (j : Nat) (m : Mp) (s : St) : St := fun k => tellV j m k (s k)
def tellL (j : Nat) (m : Mp) (L : List (Key × Val)) : List (Key × Val) := L.map fun kv => (kv.1,tellV j m kv.1 kv.2)
theorem tell_dflt (j : Nat) (m : Mp) (k : Key) : tellV j m k (dflt k) = dflt k := by
 cases k with
 | mp i =>
  simp only [dflt,tellV]
  split <;> rfl
 | _ => rfl
theorem ofL_tell (j : Nat) (m : Mp) : ∀ (L : List (Key × Val)),ofL (tellL j m L) = tellS j m (ofL L)
 | [] => by funext k; exact (tell_dflt j m k).symm
 | (k,v) :: L => by
  funext k'
  have ih := congrFun (ofL_tell j m L) k'
  simp only [tellL,List.map_cons,ofL,tellS] at ih ⊢
  unfold St.set
  cases hq : k.eqb k' with
  | true =>
   have := eqb_eq hq
   subst this
   rfl
  | false => exact ih

section
variable {C : Cfg} {w0 w : World} {R0 R : Foot} {a : Act} {s : St} {β : Nat → Nat} {σ : Sig}

theorem tell_tmp (j : Nat) (m : Mp) (s : St) (i : Nat) : (tellS j m s).tmp i = tellD j m (s.tmp i) := by
 unfold St.tmp tellS
 cases hq : s (.tmp i) with
 | d d => simp [tellV]
 | bx b => cases b <;> simp [tellV,tellD,tellC]
 | ob o => simp [tellV,tellD,tellC]
 | mp o => simp [tellV,tellD,tellC]
 | rw o => simp [tellV,tellD,tellC]
theorem tell_bx (j : Nat) (m : Mp) (s : St) (i : Nat) : (tellS j m s).bx i = (s.bx i).map fun b => ⟨b.frozen,b.cells.map (tellC j m)⟩ := by
 unfold St.bx tellS
 cases hq : s (.box i) with
 | bx b => cases b <;> simp [tellV]
 | rw zs =>
  simp only [tellV,Option.map_some,intC,List.map_map]
  congr 2
 | _ => simp [tellV]
theorem tell_ob (j : Nat) (m : Mp) (s : St) (i : Nat) : (tellS j m s).ob i = s.ob i := by
 unfold St.ob tellS
 cases hq : s (.obj i) with
 | bx b => cases b <;> simp [tellV]
 | _ => simp [tellV]
theorem tell_mp (j : Nat) (m : Mp) (s : St) (i : Nat) : (tellS j m s).mp i = if i = j then none else s.mp i := by
 unfold St.mp tellS
 cases hq : s (.mp i) with
 | bx b => cases b <;> simp only [tellV] <;> (by_cases h : i = j) <;> simp [h,beq_t,beq_f]
 | d d => simp only [tellV]; split <;> rfl
 | ob o => simp only [tellV]; by_cases h : i = j <;> simp [h,beq_t,beq_f]
 | mp o => simp only [tellV]; by_cases h : i = j <;> simp [h,beq_t,beq_f]
 | rw o => simp only [tellV]; by_cases h : i = j <;> simp [h,beq_t,beq_f]

theorem Inv.tell (h : Inv C w0 R0 a w s β σ R) (hno : ∀ b,¬ C.no b) {j : Nat} {m : Mp} (hj : s.mp j = some m) : ∃ R',Inv C w0 R0 a w (tellS j m s) β σ R' := by
 obtain ⟨g,g1,g2,g3,g4⟩ := h.mps.ok j m hj
 obtain ⟨es0,c0,hb0⟩ := g4.obj
 have hglt := (Array.getElem?_eq_some_iff.1 hb0).1
 refine ⟨fun b o => R b o ∨ (b = g ∧ o = 0),?_⟩
 have hk : Keeps R (fun b o => R b o ∨ (b = g ∧ o = 0)) w w := ⟨fun _ _ h => .inl h,fun _ _ _ _ h => h,fun _ _ _ _ h => h⟩
 have hTC : ∀ (d : D) (v : Value),RelTC β σ s R w d v → RelTC β σ (tellS j m s) (fun b o => R b o ∨ (b = g ∧ o = 0)) w (tellC j m d) v := by
  intro d v hr
  cases d with
  | mref i =>
   obtain ⟨⟨m',hm'⟩,ad,h1,h2⟩ := hr
   simp only [tellC]
   by_cases e : i = j
   ·subst e
    rw [beq_t rfl]
    rw [g1] at h1
    cases h1
    obtain ⟨es,clock,x1,x2,x3,x4⟩ := g4
    exact ⟨g,es,clock,h2,.inr ⟨rfl,rfl⟩,x1,x2,x3,x4⟩
   ·rw [beq_f e]
    exact ⟨⟨m',by rw [tell_mp,if_neg e]; exact hm'⟩,ad,h1,h2⟩
  | own k n =>
   obtain ⟨o,ho,h1,h2⟩ := hr
   exact ⟨o,by rw [tell_ob]; exact ho,h1,h2⟩
  | row i n =>
   obtain ⟨⟨b,hb⟩,hv⟩ := hr
   exact ⟨⟨_,by rw [tell_bx,hb]; rfl⟩,hv⟩
  | _ => exact RelTC.world hk _ _ hr
 have hT : ∀ (d : D) (v : Value),RelT β σ s R w d v → RelT β σ (tellS j m s) (fun b o => R b o ∨ (b = g ∧ o = 0)) w (tellD j m d) v := by
  intro d v hr
  cases d with
  | mref i =>
   have := hTC (.mref i) v hr
   simp only [tellD]
   simp only [tellC] at this ⊢
   split at this <;> exact this
  | own k n => exact hTC (.own k n) v hr
  | agg cs =>
   obtain ⟨vs,hv,hr⟩ := hr
   refine ⟨vs,hv,All2.map_left _ (hr.imp hTC)⟩
  | ptr i off =>
   obtain ⟨⟨b,hb⟩,hv⟩ := hr
   exact ⟨⟨_,by rw [tell_bx,hb]; rfl⟩,hv⟩
  | row i n =>
   obtain ⟨⟨b,hb⟩,hv⟩ := hr
   exact ⟨⟨_,by rw [tell_bx,hb]; rfl⟩,hv⟩
  | undef => exact trivial
  | _ => exact RelT.world hk _ _ hr
 have hbx : ∀ i b,(tellS j m s).bx i = some b → ∃ b0,s.bx i = some b0 ∧ b = ⟨b0.frozen,b0.cells.map (tellC j m)⟩ := by
  intro i b hb
  rw [tell_bx] at hb
  obtain ⟨b0,h1,h2⟩ := Option.map_eq_some_iff.1 hb
  exact ⟨b0,h1,h2.symm⟩
 refine ⟨h.below,h.defers,h.fix,h.nt,fun b o hr => .inl (h.sub b o hr),fun b o hr => ?_,fun g cs hg => Rel.keep hk _ _ (h.glob g cs hg),fun i => by rw [tell_tmp]; exact hT _ _ (h.tmps i),fun i b hb => ?_,fun i i' bi bj hi hj => ?_,fun k o ho => ?_,⟨h.far.sz,fun b hb => ?_,fun b hb => absurd hb (hno b)⟩,⟨fun i m' hm => ?_,fun i m' hm => ?_,fun i i' x y hx hy e => ?_⟩⟩
 ·rcases hr with hr | ⟨rfl,rfl⟩
  ·exact h.dom b o hr
  ·exact ⟨hglt,.inr g2⟩
 ·obtain ⟨b0,h1,rfl⟩ := hbx i b hb
  obtain ⟨p1,⟨arr,el,p2,p3,p4,p5⟩,p6⟩ := h.box i b0 h1
  have hne : β i ≠ g := fun e => by rw [e,hb0] at p2; cases p2
  refine ⟨p1,⟨arr,el,p2,fun hf => ?_,fun hf => by rw [List.length_map]; exact All2.map_left _ ((p4 hf).imp hTC),fun hf q hq => .inl (p5 hf q hq)⟩,fun hf o hr => ?_⟩
  ·have := p3 hf
   rw [List.length_map]
   refine All2.map_left _ (this.imp fun d v hr => ?_)
   cases d <;> first | exact RelC.keep hk _ _ hr | exact hr.elim
  ·rcases hr with hr | ⟨hr,_⟩
   ·exact p6 hf o hr
   ·exact hne hr
 ·obtain ⟨b0,h1,_⟩ := hbx i bi hi
  obtain ⟨b1,h2,_⟩ := hbx i' bj hj
  exact h.inj i i' b0 b1 h1 h2
 ·rw [tell_ob] at ho
  obtain ⟨p1,p2⟩ := h.obj k o ho
  refine ⟨SlR.keep hk (fun x vs hx => RelE.keep hk _ x vs hx) p1,fun hl => ?_⟩
  obtain ⟨g',off,q1,q2,⟨arr,el,q3,q3'⟩,q4,q5,q6⟩ := p2 hl
  refine ⟨g',off,q1,q2,⟨arr,el,q3,q3'⟩,fun i b hb => ?_,fun k' o' ho' => ?_,fun q hq hr => ?_⟩
  ·obtain ⟨b0,h1,_⟩ := hbx i b hb
   exact q4 i b0 h1
  ·rw [tell_ob] at ho'
   exact q5 k' o' ho'
  ·rcases hr with hr | ⟨hr,_⟩
   ·exact q6 q hq hr
   ·rw [hr,hb0] at q3; cases q3
 ·obtain ⟨p1,p2,p3,p4⟩ := h.far.ke b hb
  refine ⟨p1,p2,fun i x hx hf => ?_,fun k o ho => ?_⟩
  ·obtain ⟨b0,h1,rfl⟩ := hbx i x hx
   exact p3 i b0 h1 hf
  ·rw [tell_ob] at ho
   exact p4 k o ho
 ·rw [tell_mp] at hm
  split at hm
  ·cases hm
  ·rename_i hne
   obtain ⟨g',r1,r2,r3,r4⟩ := h.mps.ok i m' hm
   refine ⟨g',r1,r2,fun o hr => ?_,r4⟩
   rcases hr with hr | ⟨hr,_⟩
   ·exact r3 o hr
   ·exact hne (h.mps.inj i j m' m hm hj (by rw [r1,g1,hr]))
 ·rw [tell_mp] at hm
  rw [tell_ob]
  split at hm
  ·cases hm
  ·exact h.mps.sep i m' hm
 ·rw [tell_mp] at hx hy
  split at hx
  ·cases hx
  ·split at hy
   ·cases hy
   ·exact h.mps.inj i i' x y hx hy e

theorem Holds.tell {L : List (Key × Val)} (h : Holds C w0 R0 a w (ofL L)) (hno : ∀ b,¬ C.no b) {j : Nat} {m : Mp} (hj : (ofL L).mp j = some m) : Holds C w0 R0 a w (ofL (tellL j m L)) := by
 obtain ⟨β,σ,R,hI⟩ := h
 obtain ⟨R',hI'⟩ := hI.tell hno hj
 rw [ofL_tell]
 exact ⟨β,σ,R',hI'⟩
theorem WpL.tell {P : Program} {c : Code} {L : List (Key × Val)} {Post : Ex → List (Key × Val) → Prop} (hno : ∀ b,¬ C.no b) {j : Nat} {m : Mp} (hj : (ofL L).mp j = some m) (h : WpL P C c (tellL j m L) Post) : WpL P C c L Post :=
 fun w0 R0 a w Q ro n hro hH hQ => h w0 R0 a w Q ro n hro (hH.tell hno hj) hQ
end
end Go.Di

/-
 DI,part X: a frame with a range over a function: from the loop to the function's answer.
-/
namespace Go.Di
open Go.RowKit

/-- The configuration behind the loop. -/
def mkE (P : Program) (tt : TypeId → Option TI) (glob : Nat → Option (List D)) (n : Nat) (ke : Nat → Prop) (w1 : World) (ds : List Deferred) : Cfg :=
 { tt := tt,glob := glob,con := fun f args r => Contract P glob f args r,nt := n,lk := fun _ _ _ _ => False,ke := ke,w1 := w1,dfs := ds }
theorem goodE {P : Program} {tt : TypeId → Option TI} {glob : Nat → Option (List D)} {n : Nat} {ke : Nat → Prop} {w1 : World} {ds : List Deferred} (hm : P.follows .mixedOrders = true) (hT : TabOk P tt) : Good P (mkE P tt glob n ke w1 ds) :=
 ⟨hm,hT,⟨fun _ _ _ h => h,fun _ _ _ _ h => h.elim⟩,fun _ _ _ _ h => h.elim⟩

/-! ### What is checked of lists of what is known -/
def tmpIn (fx : List Nat) (L : List (Key × Val)) : Bool := L.all fun kv => match kv.1 with
 | .tmp i => fx.any fun j => Nat.beq j i
 | _ => true
theorem tmpIn_ok {fx : List Nat} : ∀ {L : List (Key × Val)},tmpIn fx L = true → ∀ i,i ∉ fx → (ofL L).tmp i = .undef
 | [],_,_,_ => rfl
 | (k,v) :: L,h,i,hi => by
  simp only [tmpIn,List.all_cons,Bool.and_eq_true] at h
  have ih := tmpIn_ok h.2 i hi
  cases k with
  | tmp j =>
   have hne : ¬ j = i := by
    rintro rfl
    have h1 := h.1
    simp only [List.any_eq_true] at h1
    obtain ⟨x,hx,e⟩ := h1
    have := Nat.eq_of_beq_eq_true e
    subst this
    exact hi hx
   unfold St.tmp at ih ⊢
   simp only [ofL]
   rw [set_tmp_tmp,if_neg hne]
   exact ih
  | box j => exact ih
  | obj j => exact ih
  | mp j => exact ih
def freeIn (L : List (Key × Val)) : Bool := L.all fun kv => match kv.2 with
 | .bx (some b) => !b.frozen
 | _ => true
theorem freeIn_ok : ∀ {L : List (Key × Val)},freeIn L = true → ∀ i b,(ofL L).bx i = some b → b.frozen = false
 | [],_,_,_,h => by cases h
 | (k,v) :: L,h,i,b,hb => by
  simp only [freeIn,List.all_cons,Bool.and_eq_true] at h
  unfold St.bx at hb
  simp only [ofL] at hb
  cases k with
  | box j =>
   rw [set_box_box] at hb
   by_cases e : j = i
   ·rw [if_pos e] at hb
    split at hb
    ·subst hb
     simpa using h.1
    ·cases hb
     rfl
    ·cases hb
   ·rw [if_neg e] at hb
    exact freeIn_ok h.2 i b (by unfold St.bx; exact hb)
  | tmp j => exact freeIn_ok h.2 i b (by unfold St.bx; exact hb)
  | obj j => exact freeIn_ok h.2 i b (by unfold St.bx; exact hb)
  | mp j => exact freeIn_ok h.2 i b (by unfold St.bx; exact hb)

section
variable {P : Program} {C C' : Cfg} {w0 w : World} {R0 R : Foot} {a : Act} {s : St} {β : Nat → Nat} {σ : Sig}

theorem Inv.setDefers (h : Inv C w0 R0 a w s β σ R) (hn : C'.nt = C.nt) (hg : C'.glob = C.glob) (hx : C'.fixed = []) (hke : C'.ke = C.ke) (hno : C'.no = C.no) (hw1 : C'.w1 = C.w1) : Inv C' w0 R0 { a with defers := C'.dfs } w s β σ R :=
 ⟨h.below,rfl,fun i hi => (by rw [hx] at hi; cases hi),by rw [hn]; exact h.nt,h.sub,h.dom,fun g cs hc => h.glob g cs (by rw [← hg]; exact hc),h.tmps,h.box,h.inj,h.obj,⟨by rw [hw1]; exact h.far.sz,fun b hb => by rw [hw1]; exact h.far.ke b (by rw [← hke]; exact hb),fun b hb => h.far.no b (by rw [← hno]; exact hb)⟩,h.mps⟩

theorem Inv.base (h : Inv C w0 R0 a w s β σ R) : Inv C w0 R a w s β σ R :=
 ⟨h.below,h.defers,h.fix,h.nt,fun _ _ h => h,fun b o hr => ⟨(h.dom b o hr).1,.inl hr⟩,h.glob,h.tmps,h.box,h.inj,h.obj,h.far,h.mps⟩
theorem Inv.unbase {R1 : Foot} (h : Inv C w0 R1 a w s β σ R) (h1 : ∀ b o,R0 b o → R1 b o) (h2 : ∀ b o,R1 b o → R0 b o ∨ w0.heap.size ≤ b) : Inv C w0 R0 a w s β σ R :=
 ⟨h.below,h.defers,h.fix,h.nt,fun b o hr => h.sub b o (h1 b o hr),fun b o hr => ⟨(h.dom b o hr).1,(h.dom b o hr).2.elim (h2 b o) .inr⟩,h.glob,h.tmps,h.box,h.inj,h.obj,h.far,h.mps⟩
theorem range_frame {tt : TypeId → Option TI} {glob : Nat → Option (List D)} {n : Nat} {α : Type} {gf : FuncId} {caps : List (List D)} {Told : Foot → (Nat → Prop) → α → Array Value → World → Prop} {xs : List α} {t tp id : Nat} {assign body : Code} {S : List α → List (Key × Val)} {S1 : List α → α → List (Key × Val)} {fx : List Nat} {dx : α → D} {L : List (Key × Val)}
  (hseq : ∀ (KE : Nat → Prop) (R : Foot) (w : World) (lb : Array Value),(∀ b,KE b → b < w.heap.size) → (∀ b o,R b o → KE b) → (∀ g cs,glob g = some cs → Rel R w (.ref cs 0) (.pointer (some ⟨g,0,none⟩))) → All2 (RelCap R w) caps lb.toList → SeqM P gf lb (Told R) xs KE w)
  (hfn : ∃ fn,P.funcs[gf]? = some fn ∧ (fn.name == "runtime.NumGoroutine") = false ∧ fn.body.isNone = false)
  (hv : ∀ R T x vs W,Told R T x vs W → ∃ v R',vs = #[v] ∧ (∀ b o,R' b o → R b o ∨ T b) ∧ Rel R' W (dx x) v) (ht : tp < n) (htx : tp ∉ fx) (hSt : ∀ pre i,i ∉ fx → (ofL (S pre)).tmp i = .undef) (hSm : ∀ pre i,(ofL (S pre)).mp i = none)
  (hA : ∀ pre x ke no w1 fv,(∃ post,pre ++ x :: post = xs) → WpL P (mkR P tt glob n ke no w1 fx fv) assign ((.tmp tp,.d (dx x)) :: S pre) (fun e L' => e = .normal ∧ L' = S1 pre x))
  (hB : ∀ pre x ke no w1 fv,(∃ post,pre ++ x :: post = xs) → WpL P (mkR P tt glob n ke no w1 fx fv) body (S1 pre x) (fun e L' => e = .normal ∧ L' = S (pre ++ [x])))
  (hL : (ofL L).tmp t = .fn gf [] caps) {ks : List Key} (hclo : closedK ks (pickK (ofL L) ks) = true) (hS0 : pickK (ofL L) ks = S []) (hob : ∀ k,(ofL (S [])).ob k = none) (hfz : ∀ i b,(ofL (S [])).bx i = some b → b.frozen = false)
  {Q : Exit → Act → World → Prop} (hH : Holds (mk P tt glob n) w0 R0 a w (ofL L))
  (hQ : ∀ D a' W',w0.heap.size ≤ D → Holds (mkE P tt glob n (fun b => b = D) W' [{ target := .collected D,args := #[] }]) w0 R0 a' W' (ofL (S xs)) → W'.heap[D]? = some (.deferred (some [])) → Q .normal a' W') :
  (Code.block id (Code.rangeFunc (.tmp t) #[tp] assign body)).wpIn (FR none) 1 P Q a w := by
 obtain ⟨β,σ,R,hI⟩ := hH
 have hdf : a.defers = [] := hI.defers
 have htv := hI.tmps t
 rw [hL] at htv
 obtain ⟨fs,lb,hval,hfs,hlb⟩ := htv
 have hfs0 : fs = #[] := by
  have := all2_nil hfs
  rw [← Array.toArray_toList (xs := fs),this]
 subst hfs0
 obtain ⟨fn,f1,f2,f3⟩ := hfn
 have eg : ∀ args w,(callFunc gf args).run P w = .ok (.enter gf args) w := by
  intro args w
  obtain ⟨c,hbody⟩ : ∃ c,fn.body = some c := by
   cases hb : fn.body with
   | none => rw [hb] at f3; cases f3
   | some c => exact ⟨c,rfl⟩
  have f2' : fn.name ≠ "runtime.NumGoroutine" := by simpa using f2
  simp [callFunc,f1,f2',hbody]
 have hKE : ∀ b,(fun b => ∃ o,R b o) b → b < w.heap.size := fun b ⟨o,hr⟩ => (hI.dom b o hr).1
 have hIr := hI.restrict hclo
 rw [hS0] at hIr
 have h0 : JI (mk0 glob n) w0 R a S (fun b => ∃ o,R b o) [] (fun _ => False) w := by
  refine ⟨β,σ,R,hIr.base.turn rfl rfl rfl (fun i hi => by cases hi) ⟨Nat.le_refl _,fun b hb => ⟨hKE b hb,rfl,fun i x hx hf e => ?_,fun k o ho => ?_⟩,fun b hb => hb.elim⟩⟩
  ·obtain ⟨o,hr⟩ := hb
   exact (hIr.box i x hx).free hf o (e ▸ hr)
  ·rw [hob k] at ho
   cases ho
 refine wpIn_block ?_
 refine rangeM (n := 1) (Nat.le_refl _) (gf := gf) (lb := lb) hval eg hKE (hseq _ R w lb hKE (fun b o hr => ⟨o,hr⟩) hI.glob hlb) (ps := #[tp]) (fun T x vs W htold => by
  obtain ⟨v,R',rfl,_⟩ := hv R T x vs W htold
  rfl) (JI (mk0 glob n) w0 R a S (fun b => ∃ o,R b o)) (ji_abides S _ a) (ji_put S _ a hI.below.size hKE) h0 (ji_round (tt := tt) (n := n) (fx := fx) (dx := dx) (xs := xs) (S1 := S1) hI.below.size hKE (hv R) ht htx hSt hSm hA hB) ?_
 rintro D N W ⟨β',σ',R',hI'⟩ hD hWD
 have hI' := hI'.unbase hI.sub fun b o hr => (hI.dom b o hr).2
 have h1 : Inv (mk0 glob n) w0 R0 a W (ofL (S xs)) β' σ' R' := hI'.turn rfl rfl rfl (fun i hi => by cases hi) ⟨Nat.zero_le _,fun b hb => hb.elim,fun b hb => hb.elim⟩
 have h2 : Inv { mk0 glob n with ke := fun b => b = D,w1 := W } w0 R0 a W (ofL (S xs)) β' σ' R' := h1.keepNow rfl rfl rfl (fun i hi => by cases hi) rfl rfl (fun b hb => by
  have : b = D := hb
  subst this
  exact ⟨_,hWD,rfl⟩)
 have h3 := h2.setDefers (C' := mkE P tt glob n (fun b => b = D) W [{ target := .collected D,args := #[] }]) rfl rfl rfl rfl rfl rfl
 have := hQ D _ W (Nat.le_trans hI.below.size hD) ⟨β',σ',R',h3⟩ hWD
 rw [hdf]
 exact this

theorem resVars_tt (h : C.tt = C'.tt) : ∀ (rs : List ResultVar) (k : List D → M),resVars C rs k = resVars C' rs k
 | [],k => rfl
 | .tmp t :: l,k => by simp only [resVars,resVars_tt h l]
 | .cell b t :: l,k => by simp only [resVars,resVars_tt h l,h]
theorem fin_tt (h : C.tt = C'.tt) (rs : List ResultVar) (s : St) : fin C rs s = fin C' rs s := by
 unfold fin
 rw [resVars_tt h]

theorem contract_of_marks {tt' : TypeId → Option TI} (hT : TabOk P tt') {glob : Nat → Option (List D)} {n : Nat} {f : FuncId} {c : Code} {rs : List ResultVar} (hf : FnOk P (mk P tt' glob n) f c rs) {args : List D} {r : D}
  (h : ∀ (w0 : World) (R0 : Foot) (a : Act) (Q : Exit → Act → World → Prop),Holds (mk P tt' glob n) w0 R0 a w0 (ofL (entry 0 args)) →
   (∀ D a' W' W1 e L',w0.heap.size ≤ D → Holds (mkE P tt' glob n (fun b => b = D) W1 [{ target := .collected D,args := #[] }]) w0 R0 a' W' (ofL L') → W1.heap[D]? = some (.deferred (some [])) → (∃ ps,fin (mkE P tt' glob n (fun b => b = D) W1 [{ target := .collected D,args := #[] }]) rs (ofL L') = some (ps,r) ∧ allP ps) → e = .normal ∨ e = .ret → Q e a' W') → c.wpIn (FR none) 1 P Q a w0) : Contract P glob f args r := by
 obtain ⟨fn,h1,h2,h3,h4,h5⟩ := hf.ok
 refine ⟨⟨fn,h1,h2,by rw [h3]; rfl⟩,fun w R vs hs hg ha => ?_⟩
 have hI := entry_inv (C := mk P tt' glob n) (fun _ h => h) (fun _ h => h) rfl rfl hs hg ha
 refine callsIn_wide.1 (callsIn_of_wp_marks (F := Fence.wide) (n := 1) h1 h3 trivial ?_)
 rw [h4]
 refine h w R _ _ ⟨_,_,_,hI⟩ fun D a' W' W1 e L' hD0 hH' hD hfin he => ?_
 obtain ⟨ps,hfin,hps⟩ := hfin
 obtain ⟨β,σ,R',hI'⟩ := hH'
 have hkD := (hI'.far.ke D rfl).2.1
 have hWD : W'.heap[D]? = some (.deferred (some [])) := hkD.trans hD
 have htake := run_takeDeferred (P := P) hWD
 have h6 : Inv { mk P tt' glob n with dfs := [{ target := .collected D,args := #[] }] } w R a' W' (ofL L') β σ R' := hI'.turn rfl rfl rfl (fun i hi => by cases hi) ⟨Nat.zero_le _,fun b hb => hb.elim,fun b hb => hb.elim⟩
 have h7 := h6.put_obj (.deferred none) hWD rfl rfl hD0 (fun h => h) (fun h => h)
 have hfin2 : fin { mk P tt' glob n with dfs := [{ target := .collected D,args := #[] }] } rs (ofL L') = some (ps,r) := by
  rw [← hfin]
  exact fin_tt (C := { mk P tt' glob n with dfs := [{ target := .collected D,args := #[] }] }) (C' := mkE P tt' glob n (fun b => b = D) W1 [{ target := .collected D,args := #[] }]) rfl _ _
 obtain ⟨v,hv,hr⟩ := fin_ok (C := { mk P tt' glob n with dfs := [{ target := .collected D,args := #[] }] }) hT hfin2 (allP_mem hps) h7 h5
 have hdf : a'.defers = [{ target := .collected D,args := #[] }] := h7.defers
 have hend : LeavesInM Fence.wide 1 P fn a'.tmps (fun e w' => ∃ v,e = .returned v ∧ Below w.heap.size w w' ∧ ∃ R' : Foot,(∀ b o,R b o → R' b o) ∧ (∀ b o,R' b o → b < w'.heap.size ∧ (R b o ∨ w.heap.size ≤ b)) ∧ Rel R' w' r v) a'.defers .returning W' := by
  rw [hdf]
  refine ⟨by simp,.inl ⟨D,_,rfl,htake,?_⟩⟩
  exact ⟨v,hv,v,rfl,h7.below,R',h7.sub,h7.dom,hr⟩
 rcases he with rfl | rfl
 ·exact hend
 ·exact hend
end
end Go.Di

namespace Go.Di
open Proofs
def svZ (b : Book) (i : Nat) : Sv := List.getD b.svs i (E.z E.sv)
def zbC : List D := [.nil,.nil,.nil,.int .i64 (0 : Int),.int .i64 (0 : Int),.nilmap,.nil]
def bkC (b : Book) (m t : D) : List D := [.sl false .sec b.secs,.sl false .int b.turns,.sl false .sv b.svs,.int .i64 b.rule,.int .i64 b.days,m,t]
def opA (b : Book) (but : List Int) : List (Key × Val) := [(.tmp 1,.d (.sl false .int but)),(.tmp 2,.d (.ptr 2 0)),(.box 2,.bx (some ⟨false,cellsOf (bookD b)⟩)),(.tmp 4,.d (.ptr 4 0)),(.box 4,.bx (some ⟨false,zbC⟩))]
def opAK : List Key := [.tmp 1,.tmp 2,.box 2,.tmp 4,.box 4]
def opB (b : Book) (but : List Int) : List (Key × Val) := opA b but ++ [(.tmp 5,.d (.ptr 5 0)),(.box 5,.bx (some ⟨false,bkC b (.mref 14) .nil⟩)),(.mp 14,.mp (some (.spot [((-1,-1),⟨0,0⟩)])))]
def opBK : List Key := opAK ++ [.tmp 5,.box 5,.mp 14]
def opS (b : Book) (but : List Int) (l : List Ent) (i : Nat) : List (Key × Val) :=
 [(.tmp 1,.d (.sl false .int but)),(.tmp 4,.d (.ptr 4 0)),(.tmp 5,.d (.ptr 5 0)),(.tmp 20,.d (.sl false .sv b.svs)),(.tmp 21,.d (.int .i64 b.svs.length)),(.tmp 22,.d (.int .i64 i)),
  (.box 4,.bx (some ⟨false,zbC⟩)),(.box 5,.bx (some ⟨false,bkC b (.mref 14) .nil⟩)),(.mp 14,.mp (some (.spot l)))]
def opK : List Key := [.tmp 1,.tmp 4,.tmp 5,.tmp 20,.tmp 21,.tmp 22,.box 4,.box 5,.mp 14]
def opE (b : Book) (l : List Ent) : List (Key × Val) := [(.tmp 4,.d (.ptr 4 0)),(.tmp 5,.d (.ptr 5 0)),(.box 4,.bx (some ⟨false,zbC⟩)),(.box 5,.bx (some ⟨false,bkC b (.mref 14) .nil⟩)),(.mp 14,.mp (some (.spot l)))]
def opEK : List Key := [.tmp 4,.tmp 5,.box 4,.box 5,.mp 14]
def opR (b : Book) (l : List Ent) : List TrC → List (Key × Val)
 | [] => [(.tmp 4,.d (.ptr 4 0)),(.tmp 5,.d (.ptr 5 0)),(.box 4,.bx (some ⟨false,zbC⟩)),(.box 5,.bx (some ⟨false,bkC b (.map (.spot l)) .nil⟩))]
 | x :: r => [(.tmp 4,.d (.ptr 4 0)),(.tmp 5,.d (.ptr 5 0)),(.box 4,.bx (some ⟨false,zbC⟩)),(.box 5,.bx (some ⟨false,bkC b (.map (.spot l)) (.own 69 (x :: r).length)⟩)),(.obj 69,.ob (some ⟨.trc,x :: r⟩))]
def opRK0 : List Key := [.tmp 4,.tmp 5,.box 4,.box 5]
def opRK1 : List Key := [.tmp 4,.tmp 5,.box 4,.box 5,.obj 69]
def opR1 (b : Book) (l : List Ent) (pre : List TrC) (x : TrC) : List (Key × Val) := [(.tmp 12,.d (.ptr 12 0)),(.box 12,.bx (some ⟨false,E.enc .trc x⟩))] ++ opR b l pre
def opW (b : Book) (l : List Ent) : D := .fn 192 [] [cellsOf (bkD b (.spot l) [])]
theorem op_0 (b : Book) (but : List Int) :
  runK (mk PR (lookN types) glob 72) [] [] [] (Code.at [0] (body Tryd.f119)) (entry 0 [bookD b,.sl false .int but]) opAK =
   some ([],.normal,opA b but) := by kernel_rfl
theorem op_1 (b : Book) (but : List Int) :
  runK (mk PR (lookN types) glob 72) [] [] [] (Code.at [1,0] (body Tryd.f119)) (opA b but) opBK =
   some ([Cfg.plain (mk PR (lookN types) glob 72),0 + 2 ≤ 2,Cfg.plain (mk PR (lookN types) glob 72)],.normal,opB b but) := by kernel_rfl
theorem op_2 (b : Book) (but : List Int) :
  runK (mk PR (lookN types) glob 72) [] [] [] (Code.at [1,1,0,0] (body Tryd.f119)) (opB b but) opK =
   some ([],.normal,opS b but [((-1,-1),⟨0,0⟩)] 0) := by kernel_rfl
theorem op_skip (b : Book) (but : List Int) (l : List Ent) (i : Nat) :
  runK (mk PR (lookN types) glob 72) [(23,true),(29,true)] [(29,.bool true)] [] (Code.at [1,1,0,1,0,0] (body Tryd.f119)) (opS b but l i) opK =
   some ([decide ((i : Int) < ((List.length (Book.svs b) : Nat) : Int)) = true,(0 : Int) ≤ (i : Int) ∧ (i : Int) < ((List.length (Book.svs b) : Nat) : Int),0 + 4 ≤ 4,Contract PR glob 130 [D.sl false E.int but,D.int .i64 ((i : Int))] (D.bool true),true = true,inI64 ((i : Int) + (1 : Int))],.normal,opS b but l (i + 1)) := by kernel_rfl
theorem op_new (b : Book) (but : List Int) (l : List Ent) (i : Nat) :
  runK (mk PR (lookN types) glob 72) [(23,true),(53,false)] [(29,.bool false)] [] (Code.at [1,1,0,1,0,0] (body Tryd.f119)) (opS b but l i) opK =
   some ([decide ((i : Int) < ((List.length (Book.svs b) : Nat) : Int)) = true,(0 : Int) ≤ (i : Int) ∧ (i : Int) < ((List.length (Book.svs b) : Nat) : Int),0 + 4 ≤ 4,Contract PR glob 130 [D.sl false E.int but,D.int .i64 ((i : Int))] (D.bool false),0 + 0 + 1 ≤ 4,0 + 1 + 1 ≤ 4,0 + 2 + 1 ≤ 4,0 + 3 + 1 ≤ 4,inI64 (Sv.r (svZ b i) - Sv.e (svZ b i)),0 + 2 + 1 ≤ 4,0 + 3 + 1 ≤ 4,inI64 (Sv.r (svZ b i) + Sv.e (svZ b i)),0 + 2 ≤ 2,Option.isSome (lookK l (Sv.s (svZ b i),Sv.d (svZ b i))) = false,0 + 2 ≤ 2,0 + 2 ≤ 2,Cfg.plain (mk PR (lookN types) glob 72),inI64 ((i : Int) + (1 : Int))],.normal,opS b but (updK l ((svZ b i).s,(svZ b i).d) ⟨(svZ b i).r - (svZ b i).e,(svZ b i).r + (svZ b i).e⟩) (i + 1)) := by kernel_rfl
theorem op_old (b : Book) (but : List Int) (l : List Ent) (i : Nat) (o : Span) :
  runK (mk PR (lookN types) glob 72) [(23,true),(53,true)] [(29,.bool false),(56,spD o)] [] (Code.at [1,1,0,1,0,0] (body Tryd.f119)) (opS b but l i) opK =
   some ([decide ((i : Int) < ((List.length (Book.svs b) : Nat) : Int)) = true,(0 : Int) ≤ (i : Int) ∧ (i : Int) < ((List.length (Book.svs b) : Nat) : Int),0 + 4 ≤ 4,Contract PR glob 130 [D.sl false E.int but,D.int .i64 ((i : Int))] (D.bool false),0 + 0 + 1 ≤ 4,0 + 1 + 1 ≤ 4,0 + 2 + 1 ≤ 4,0 + 3 + 1 ≤ 4,inI64 (Sv.r (svZ b i) - Sv.e (svZ b i)),0 + 2 + 1 ≤ 4,0 + 3 + 1 ≤ 4,inI64 (Sv.r (svZ b i) + Sv.e (svZ b i)),0 + 2 ≤ 2,Option.isSome (lookK l (Sv.s (svZ b i),Sv.d (svZ b i))) = true,0 + 2 ≤ 2,0 + 2 ≤ 2,Contract PR glob 166 [D.agg [D.int .i64 (Span.lo (Option.getD (lookK l (Sv.s (svZ b i),Sv.d (svZ b i))) (Span.mk (0 : Int) (0 : Int)))),D.int .i64 (Span.hi (Option.getD (lookK l (Sv.s (svZ b i),Sv.d (svZ b i))) (Span.mk (0 : Int) (0 : Int))))],D.agg [D.int .i64 (Sv.r (svZ b i) - Sv.e (svZ b i)),D.int .i64 (Sv.r (svZ b i) + Sv.e (svZ b i))]] (D.agg [D.int .i64 (Span.lo o),D.int .i64 (Span.hi o)]),0 + 2 ≤ 2,0 + 2 ≤ 2,Cfg.plain (mk PR (lookN types) glob 72),inI64 ((i : Int) + (1 : Int))],.normal,opS b but (updK l ((svZ b i).s,(svZ b i).d) o) (i + 1)) := by kernel_rfl
theorem op_end (b : Book) (but : List Int) (l : List Ent) (i : Nat) :
  runK (mk PR (lookN types) glob 72) [(23,false)] [] [] (Code.at [1,1,0,1,0,0] (body Tryd.f119)) (opS b but l i) opEK =
   some ([decide ((i : Int) < ((List.length (Book.svs b) : Nat) : Int)) = false],.exit 0,opE b l) := by kernel_rfl
theorem op_12 (b : Book) (l : List Ent) :
  runK (mk PR (lookN types) glob 72) [] [(63,opW b l)] [] (Code.at [1,1,1,0,0] (body Tryd.f119)) (tellL 14 (.spot l) (opE b l)) ([.tmp 63] ++ opRK0) =
   some ([Contract PR glob 167 [D.agg [D.sl false E.sec (Book.secs b),D.sl false E.int (Book.turns b),D.sl false E.sv (Book.svs b),D.int .i64 (Book.rule b),D.int .i64 (Book.days b),D.map (Mp.spot l),D.nil]] (D.fn 192 [] [[D.sl false E.sec (Book.secs b),D.sl false E.int (Book.turns b),D.sl false E.sv (Book.svs b),D.int .i64 (Book.rule b),D.int .i64 (Book.days b),D.map (Mp.spot l),D.sl false E.trc []]])],.normal,(.tmp 63,.d (opW b l)) :: opR b l []) := by kernel_rfl
theorem op_as0 (b : Book) (l : List Ent) (x : TrC) (ke no : Nat → Prop) (w1 : World) (fv : Nat → Value) :
  runK (mkR PR (lookN types) glob 72 ke no w1 [4,5] fv) [] [] [] (Code.at [1,1,1,0,1,0,0] (body Tryd.f119)) ((.tmp 64,.d (trD x)) :: opR b l []) ([.tmp 12,.box 12] ++ opRK0) =
   some ([],.normal,opR1 b l [] x) := by kernel_rfl
theorem op_as1 (b : Book) (l : List Ent) (y : TrC) (r : List TrC) (x : TrC) (ke no : Nat → Prop) (w1 : World) (fv : Nat → Value) :
  runK (mkR PR (lookN types) glob 72 ke no w1 [4,5] fv) [] [] [] (Code.at [1,1,1,0,1,0,0] (body Tryd.f119)) ((.tmp 64,.d (trD x)) :: opR b l (y :: r)) ([.tmp 12,.box 12] ++ opRK1) =
   some ([],.normal,opR1 b l (y :: r) x) := by kernel_rfl
theorem op_bd0 (b : Book) (l : List Ent) (x : TrC) (ke no : Nat → Prop) (w1 : World) (fv : Nat → Value) :
  runK (mkR PR (lookN types) glob 72 ke no w1 [4,5] fv) [] [] [] (Code.at [1,1,1,0,1,0,1] (body Tryd.f119)) (opR1 b l [] x) opRK1 =
   some ([0 + 12 ≤ 12,1 * (TI.bytes (TI.mk (TK.struct [(0,140),(4,141)]) 12 96 [D.int .i64 0,D.int .i64 0,D.int .i64 0,D.int .i64 0,D.int .i64 0,D.int .i64 0,D.int .i64 0,D.int .i64 0,D.int .i64 0,D.int .i64 0,D.int .i64 0,D.int .i64 0] (some E.trc) true) + 1) ≤ 140737488355328,1 = 1],.normal,opR b l ([] ++ [x])) := by kernel_rfl
theorem op_bd1 (b : Book) (l : List Ent) (y : TrC) (r : List TrC) (x : TrC) (ke no : Nat → Prop) (w1 : World) (fv : Nat → Value) :
  runK (mkR PR (lookN types) glob 72 ke no w1 [4,5] fv) [] [] [] (Code.at [1,1,1,0,1,0,1] (body Tryd.f119)) (opR1 b l (y :: r) x) opRK1 =
   some ([0 + 12 ≤ 12,(y :: r).length = (y :: r).length,((y :: r) ++ [x]).length * 97 ≤ 140737488355328,((y :: r) ++ [x]).length = ((y :: r) ++ [x]).length],.normal,opR b l ((y :: r) ++ [x])) := by kernel_rfl
theorem op_150 (b : Book) (l : List Ent) (ke : Nat → Prop) (w1 : World) (ds : List Deferred) :
  runK (mkE PR (lookN types) glob 72 ke w1 ds) [] [] [] (Code.at [1,1,1,1] (body Tryd.f119)) (opR b l []) [.tmp 4,.box 4] =
   some ([],.ret,[(.tmp 4,.d (.ptr 4 0)),(.box 4,.bx (some ⟨false,bkC b (.map (.spot l)) .nil⟩))]) := by kernel_rfl
theorem op_151 (b : Book) (l : List Ent) (y : TrC) (r : List TrC) (ke : Nat → Prop) (w1 : World) (ds : List Deferred) :
  runK (mkE PR (lookN types) glob 72 ke w1 ds) [] [] [] (Code.at [1,1,1,1] (body Tryd.f119)) (opR b l (y :: r)) [.tmp 4,.box 4,.obj 69] =
   some ([(y :: r).length = (y :: r).length],.ret,[(.tmp 4,.d (.ptr 4 0)),(.box 4,.bx (some ⟨false,bkC b (.map (.spot l)) (.own 69 (y :: r).length)⟩)),(.obj 69,.ob (some ⟨.trc,y :: r⟩))]) := by kernel_rfl
theorem op_fn : FnOk PR (mk PR (lookN types) glob 72) 119 (body Tryd.f119) [.cell 4 129] := by refine ⟨Tryd.f119,?_,?_,?_,?_,?_⟩ <;> kernel_rfl
end Go.Di

