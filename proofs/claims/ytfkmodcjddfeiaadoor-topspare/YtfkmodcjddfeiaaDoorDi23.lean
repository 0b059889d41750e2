/- Part 23: an interpreter over plain data for this code, with the proof that it says what the model does, and the contracts of the functions. No condition. -/
import Derived.Test.YtfkmodcjddfeiaaDoorDi22
set_option linter.unusedVariables false
set_option linter.unusedSimpArgs false
namespace Go.Di
open Proofs
open Go.RowKit
section
variable {x : FBook} {m : Mp} {th : List (List Int)} {wr : List Int} {al : List (List Int)} {R : Foot} {KE : Nat → Prop} {xs : List (List Work)} {y : Nat} {J : List (List Work) → (Nat → Prop) → World → Prop} {pA pY pB pC : Value}

theorem get_put {a : Act} {d i : Nat} {v u : Value} (hd : d < a.tmps.size) (hne : d ≠ i) (h : a.tmps.getD i undef = u) : (a.put (some d) v).tmps.getD i undef = u := by
 rw [getD_put a d v i hd,if_neg hne]; exact h
theorem get_now {a : Act} {d : Nat} {v : Value} (hd : d < a.tmps.size) : (a.put (some d) v).tmps.getD d undef = v := by
 rw [getD_put a d v d hd,if_pos rfl]
theorem getD_set {l : Array Bool} {i j : Nat} (h : l.getD j false = true) : (l.setIfInBounds i true).getD j false = true := by
 by_cases hij : i = j
 ·subst hij
  have hlt : i < l.size := by
   rcases Nat.lt_or_ge i l.size with h' | h'
   ·exact h'
   ·rw [Array.getD_eq_getD_getElem?,Array.getElem?_eq_none h'] at h; cases h
  exact getD_now hlt
 ·exact getD_keep hij h
theorem size_put (a : Act) (d : Nat) (v : Value) : (a.put (some d) v).tmps.size = a.tmps.size := by simp [Act.put]

theorem chg_leaf (hJ : Abides J) (hRKE : ∀ b o,R b o → KE b) (hy : YieldP R KE xs y J) (hx : FIn x) {on : W4} {s : Int} {pre : List (List Work)} {N0 N : Nat → Prop} {W0 W : World} {a : Act} {fv : Nat → Value}
  (hKE : ∀ b,KE b → b < W0.heap.size) (hN0 : ∀ b,N0 b → b < W0.heap.size) (hcaps : PCaps x m th wr al R KE y pA pY pB pC N0 W0) (hmid : Mid KE J pre [] N0 W0 N W)
  (hfr : Fr PRG (lookN typesF) globF 39 [2,3,4,5,6] fv KE W0.heap.size N a W (gS x m th wr al on s)) (hf3 : fv 3 = pY) (hf4 : fv 4 = pB) (hxs : ∃ post,pre ++ [plannedF x on] ++ post = xs)
  {Q : Exit → Act → World → Prop} (hret : ∀ a' W',Done KE J pre [plannedF x on] N0 W0 a' W' → Q .ret a' W') : (Code.at [1,0,1,0] (body Tryd.f181)).wpIn (FR none) 0 PRG Q a W := by
 have hcode : Code.at [1,0,1,0] (body Tryd.f181) = .seq (.region 2 (rops (Code.at [1,0,1,0,0] (body Tryd.f181))) true) .ret := by kernel_rfl
 rw [hcode]
 have hfin : ∀ (e : Exit) (a' : Act) (w' : World),noOut (fun e a' w' => e = .normal ∧ Done KE J pre [plannedF x on] N0 W0 a' w') e a' w' → Exit.then (Code.wpIn (FR none) 0 PRG Code.ret Q) Q e a' w' := by
  intro e a' w' h
  obtain ⟨rfl,h2⟩ := noOut_mono h
  exact wpIn_ret (hret a' w' h2)
 refine wpIn_seq (wpIn_mono (Q := noOut fun e a' w' => e = .normal ∧ Done KE J pre [plannedF x on] N0 W0 a' w') (wpIn_region_any mixed_ok ?_) hfin)
 obtain ⟨ops,hops⟩ : ∃ ops,ops = rops (Code.at [1,0,1,0,0] (body Tryd.f181)) := ⟨_,rfl⟩
 rw [← hops]
 have hsz : ops.size = 6 := by rw [hops]; kernel_rfl
 have d0 : edgesOf ops 0 = [] := by rw [hops]; kernel_rfl
 have d1 : edgesOf ops 1 = [] := by rw [hops]; kernel_rfl
 have d2 : edgesOf ops 2 = [] := by rw [hops]; kernel_rfl
 have d3 : edgesOf ops 3 = [1,2] := by rw [hops]; kernel_rfl
 have d4 : edgesOf ops 4 = [0,3,3] := by rw [hops]; kernel_rfl
 have d5 : edgesOf ops 5 = [4,4,0,1,2,3,4] := by rw [hops]; kernel_rfl
 -- what is known at the start
 have hnt : 39 ≤ a.tmps.size := by obtain ⟨β,σ,R',hi⟩ := hfr; exact hi.inv.nt
 have hdf := hfr.defers
 have e3 : a.tmps.getD 3 undef = pY := (hfr.fixed 3 (by simp)).trans hf3
 have e4 : a.tmps.getD 4 undef = pB := (hfr.fixed 4 (by simp)).trans hf4
 obtain ⟨g6,arr6,el6,R6,e6,hg1,hg2,hg3,_,hg4⟩ := hfr.boxAt (i := 6) rfl (cs := cellsOf (setsD on)) rfl
 have hcs6 := hg4 (.inl rfl)
 have hcap := hcaps.after hRKE hmid.le hmid.same
 obtain ⟨b4,hb1,hb2,hb3⟩ := hcap.yld
 have hKEW : ∀ b,KE b → b < W.heap.size := fun b hb => Nat.lt_of_lt_of_le (hKE b hb) hmid.size
 have hRW : ∀ b o,R b o → b < W.heap.size := fun b o hr => hKEW b (hRKE b o hr)
 obtain ⟨W1,hW1⟩ : ∃ W1 : World,W1 = { W with drawn := W.drawn + 1 } := ⟨_,rfl⟩
 rw [← hW1]
 have hB1 : Below W.heap.size W W1 := by rw [hW1]; exact below_drew1 W
 obtain ⟨post,hpost⟩ := hxs
 have hkeepR : ∀ W',Below W.heap.size W W' → Keeps R R W W' := fun W' hb => Keeps.of_below (fun _ _ h => h) hRW hb
 -- what holds of those that are done
 obtain ⟨P1,hP1⟩ : ∃ P1 : Array Bool → Act → World → Prop,P1 = fun l a' w' => l.getD 5 false = false ∧ Below W.heap.size W w' ∧ (l.getD 0 false = true → a'.tmps.getD 15 undef = .func (.yield y) #[] #[]) ∧ (l.getD 1 false = true → Rel R w' (fbkD x m th wr) (a'.tmps.getD 16 undef)) ∧ (l.getD 2 false = true → a'.tmps.getD 17 undef = w4V on) ∧
  (l.getD 3 false = true → l.getD 1 false = true ∧ l.getD 2 false = true ∧ ∃ R' : Foot,(∀ b o,R' b o → b < w'.heap.size ∧ (R b o ∨ W.heap.size ≤ b)) ∧ Rel R' w' (.sl false .work (plannedF x on)) (a'.tmps.getD 18 undef)) := ⟨_,rfl⟩
 obtain ⟨P2,hP2⟩ : ∃ P2 : Array Bool → Act → World → Prop,P2 = fun l a' w' => (∀ j,j < 4 → l.getD j false = true) ∧ (∃ N',Mid KE J pre [plannedF x on] N0 W0 N' w') ∧ a'.tmps.getD 19 undef = .bool true ∧ (l.getD 5 false = true → a'.tmps.getD 8 undef = .bool true) := ⟨_,rfl⟩
 refine wpAnyIn_inv (fun l a' w' => l.size = 6 ∧ a'.defers = [] ∧ 39 ≤ a'.tmps.size ∧ a'.tmps.getD 3 undef = pY ∧ a'.tmps.getD 4 undef = pB ∧ a'.tmps.getD 6 undef = .pointer (some ⟨g6,0,none⟩) ∧ ((l.getD 4 false = false ∧ P1 l a' w') ∨ (l.getD 4 false = true ∧ P2 l a' w'))) ?_ ?_ ops.size (Array.replicate ops.size false) a W1 ⟨by simp [hsz],hdf,hnt,e3,e4,e6,.inl ⟨by rw [hsz]; rfl,by rw [hP1,hsz]; exact ⟨rfl,hB1,fun h => (by cases h),fun h => (by cases h),fun h => (by cases h),fun h => (by cases h)⟩⟩⟩ (by rw [hsz]; decide)
 · -- all is done
  rintro l a' w' ⟨hl,hd,hn,q3,q4,q6,hphase⟩ hall
  have hall' : ∀ i,i < 6 → (∀ j ∈ edgesOf ops i,l.getD j false = true) → l.getD i false = true := fun i hi h => by rw [← getD_tf (by omega)]; exact hall i (by omega) h
  have l0 := hall' 0 (by omega) (by rw [d0]; intro j hj; cases hj)
  have l1 := hall' 1 (by omega) (by rw [d1]; intro j hj; cases hj)
  have l2 := hall' 2 (by omega) (by rw [d2]; intro j hj; cases hj)
  have l3 := hall' 3 (by omega) (by rw [d3]; intro j hj; simp only [List.mem_cons,List.not_mem_nil,or_false] at hj; rcases hj with rfl | rfl <;> assumption)
  have l4 := hall' 4 (by omega) (by rw [d4]; intro j hj; simp only [List.mem_cons,List.not_mem_nil,or_false] at hj; rcases hj with rfl | rfl | rfl <;> assumption)
  have l5 := hall' 5 (by omega) (by rw [d5]; intro j hj; simp only [List.mem_cons,List.not_mem_nil,or_false] at hj; rcases hj with rfl | rfl | rfl | rfl | rfl | rfl | rfl <;> assumption)
  rcases hphase with ⟨h4,_⟩ | ⟨_,hp⟩
  ·rw [h4] at l4; cases l4
  ·rw [hP2] at hp
   exact ⟨rfl,hd,hp.2.2.2 l5,hp.2.1⟩
 ·rintro l a' w' i ⟨hl,hd,hn,q3,q4,q6,hphase⟩ hi hli hedge
  rw [getD_tf (by omega)] at hli
  have hsize : (l.setIfInBounds i true).size = 6 := by rw [Array.size_setIfInBounds]; exact hl
  -- the slots that stay
  have hkeep : ∀ (d : Nat) (v : Value),d < 39 → d ≠ 3 → d ≠ 4 → d ≠ 6 → (a'.put (some d) v).defers = [] ∧ 39 ≤ (a'.put (some d) v).tmps.size ∧ (a'.put (some d) v).tmps.getD 3 undef = pY ∧ (a'.put (some d) v).tmps.getD 4 undef = pB ∧ (a'.put (some d) v).tmps.getD 6 undef = .pointer (some ⟨g6,0,none⟩) := fun d v h1 h2 h3 h4 =>
   ⟨hd,by rw [size_put]; exact hn,get_put (by omega) h2 q3,get_put (by omega) h3 q4,get_put (by omega) h4 q6⟩
  have hi6 : i = 0 ∨ i = 1 ∨ i = 2 ∨ i = 3 ∨ i = 4 ∨ i = 5 := by omega
  -- before the yield: what is not done yet
  have hph1 : i ≠ 5 → l.getD 4 false = false ∧ P1 l a' w' := fun hne => by
   rcases hphase with h | ⟨h4,hp⟩
   ·exact h
   ·rw [hP2] at hp
    by_cases h : i < 4
    ·have := hp.1 i h
     rw [hli] at this
     cases this
    ·have : i = 4 := by omega
     rw [this,h4] at hli
     cases hli
  rcases hi6 with rfl | rfl | rfl | rfl | rfl | rfl
  · -- the yield is loaded
   obtain ⟨h4,hp⟩ := hph1 (by decide)
   rw [hP1] at hp
   obtain ⟨h50,hb,f0,f1,f2,f3⟩ := hp
   obtain ⟨o0,h00,h01,h02,h03⟩ := (opAt (ops := ops) (i := 0) (dst := some 15) (op := .load 157 (.tmp 3)) (by rw [hops]; kernel_rfl)).at_
   have hc4 : w'.cell? ⟨b4,0,none⟩ = some (.func (.yield y) #[] #[]) := by rw [cell_same (hb.block b4 (hmid.own b4 hb2))]; exact hb3
   refine wpOpIn_hand (v := .func (.yield y) #[] #[]) (w' := w') h00 h01 (load_nd h03) ?_ ?_
   ·have hev : a'.eval (.tmp 3) = .pointer (some ⟨b4,0,none⟩) := q3.trans hb1
    simp only [execOp,h03,hev]
    simp [run_loadv (P := PRG) typesF_ok (t := 157) (ti := ⟨.other,1,8,[.nilfn],none,false⟩) (by kernel_rfl) rfl rfl hc4]
   rw [h02]
   obtain ⟨k1,k2,k3,k4,k5⟩ := hkeep 15 (.func (.yield y) #[] #[]) (by decide) (by decide) (by decide) (by decide)
   refine ⟨hsize,k1,k2,k3,k4,k5,.inl ⟨getD_keep (by decide) h4,?_⟩⟩
   rw [hP1]
   refine ⟨getD_keep (by decide) h50,hb,fun _ => get_now (by omega),fun h => ?_,fun h => ?_,fun h => ?_⟩
   ·rw [getD_put a' 15 _ 16 (by omega),if_neg (by decide)]; exact f1 ((getD_done h).resolve_left (by decide))
   ·rw [getD_put a' 15 _ 17 (by omega),if_neg (by decide)]; exact f2 ((getD_done h).resolve_left (by decide))
   ·rw [getD_put a' 15 _ 18 (by omega),if_neg (by decide)]; obtain ⟨k6,k7,k8⟩ := f3 ((getD_done h).resolve_left (by decide)); exact ⟨getD_set k6,getD_set k7,k8⟩
  · -- the book is loaded
   obtain ⟨h4,hp⟩ := hph1 (by decide)
   rw [hP1] at hp
   obtain ⟨h50,hb,f0,f1,f2,f3⟩ := hp
   obtain ⟨o0,h00,h01,h02,h03⟩ := (opAt (ops := ops) (i := 1) (dst := some 16) (op := .load 151 (.tmp 4)) (by rw [hops]; kernel_rfl)).at_
   obtain ⟨u,hu1,hu2⟩ := run_loadAgg (t := 151) (ti := ⟨.struct [(0,84),(10,149),(11,40),(12,23)],13,216,zfbkC,none,false⟩) (by kernel_rfl) rfl (cs := cellsOf (fbkD x m th wr)) rfl (Rel.keep (hkeepR w' hb) _ _ hcap.b)
   refine wpOpIn_hand (v := u) (w' := w') h00 h01 (load_nd h03) ?_ ?_
   ·have hev : a'.eval (.tmp 4) = pB := q4
    simp only [execOp,h03,hev]
    simp [hu1]
   rw [h02]
   obtain ⟨k1,k2,k3,k4,k5⟩ := hkeep 16 u (by decide) (by decide) (by decide) (by decide)
   refine ⟨hsize,k1,k2,k3,k4,k5,.inl ⟨getD_keep (by decide) h4,?_⟩⟩
   rw [hP1]
   refine ⟨getD_keep (by decide) h50,hb,fun h => ?_,fun _ => ?_,fun h => ?_,fun h => ?_⟩
   ·rw [getD_put a' 16 _ 15 (by omega),if_neg (by decide)]; exact f0 ((getD_done h).resolve_left (by decide))
   ·rw [getD_put a' 16 _ 16 (by omega),if_pos rfl]; exact hu2
   ·rw [getD_put a' 16 _ 17 (by omega),if_neg (by decide)]; exact f2 ((getD_done h).resolve_left (by decide))
   ·rw [getD_put a' 16 _ 18 (by omega),if_neg (by decide)]; obtain ⟨k6,k7,k8⟩ := f3 ((getD_done h).resolve_left (by decide)); exact ⟨getD_set k6,getD_set k7,k8⟩
  · -- the sets are loaded
   obtain ⟨h4,hp⟩ := hph1 (by decide)
   rw [hP1] at hp
   obtain ⟨h50,hb,f0,f1,f2,f3⟩ := hp
   obtain ⟨o0,h00,h01,h02,h03⟩ := (opAt (ops := ops) (i := 2) (dst := some 17) (op := .load 196 (.tmp 6)) (by rw [hops]; kernel_rfl)).at_
   have hg6 : w'.heap[g6]? = some (.cells arr6 el6 (0,0)) := by rw [hb.block g6 (hmid.own g6 hg1)]; exact hg3
   have href : Rel (fun b _ => b = g6) w' (.ref (cellsOf (setsD on)) 0) (.pointer (some ⟨g6,0,none⟩)) := by
    refine ⟨g6,0,rfl,fun j d hj => ?_⟩
    obtain ⟨u,hu,hr⟩ := All2.get hcs6 j d hj
    have hj4 : j < 4 := (List.getElem?_eq_some_iff.1 hj).1
    have hju : arr6[j]? = some u := by
     rw [List.getElem?_take] at hu
     split at hu
     ·simpa using hu
     ·cases hu
    refine ⟨u,?_,rfl,by rw [cell_of hg6]; rw [Nat.zero_add]; exact hju⟩
    have hd4 : ∃ z : Int,d = .int .i64 z := by
     have h4' : j = 0 ∨ j = 1 ∨ j = 2 ∨ j = 3 := by omega
     rcases h4' with rfl | rfl | rfl | rfl <;> (cases hj; exact ⟨_,rfl⟩)
    obtain ⟨z,rfl⟩ := hd4
    exact hr
   obtain ⟨u,hu1,hu2⟩ := run_loadAgg (t := 196) (ti := ⟨.array 4 3,4,32,[.int .i64 0,.int .i64 0,.int .i64 0,.int .i64 0],none,true⟩) (by kernel_rfl) rfl (cs := cellsOf (setsD on)) rfl href
   have hu3 : u = w4V on := wD_rel hu2
   refine wpOpIn_hand (v := u) (w' := w') h00 h01 (load_nd h03) ?_ ?_
   ·have hev : a'.eval (.tmp 6) = .pointer (some ⟨g6,0,none⟩) := q6
    simp only [execOp,h03,hev]
    simp [hu1]
   rw [h02]
   obtain ⟨k1,k2,k3,k4,k5⟩ := hkeep 17 u (by decide) (by decide) (by decide) (by decide)
   refine ⟨hsize,k1,k2,k3,k4,k5,.inl ⟨getD_keep (by decide) h4,?_⟩⟩
   rw [hP1]
   refine ⟨getD_keep (by decide) h50,hb,fun h => ?_,fun h => ?_,fun _ => ?_,fun h => ?_⟩
   ·rw [getD_put a' 17 _ 15 (by omega),if_neg (by decide)]; exact f0 ((getD_done h).resolve_left (by decide))
   ·rw [getD_put a' 17 _ 16 (by omega),if_neg (by decide)]; exact f1 ((getD_done h).resolve_left (by decide))
   ·rw [getD_put a' 17 _ 17 (by omega),if_pos rfl]; exact hu3
   ·rw [getD_put a' 17 _ 18 (by omega),if_neg (by decide)]; obtain ⟨k6,k7,k8⟩ := f3 ((getD_done h).resolve_left (by decide)); exact ⟨getD_set k6,getD_set k7,k8⟩
  · -- the plan is made
   obtain ⟨h4,hp⟩ := hph1 (by decide)
   rw [hP1] at hp
   obtain ⟨h50,hb,f0,f1,f2,f3⟩ := hp
   rw [d3] at hedge
   have g1 := f1 (hedge 1 (by simp))
   have g2 := f2 (hedge 2 (by simp))
   obtain ⟨o0,h00,h01,h02,h03⟩ := (opAt (ops := ops) (i := 3) (dst := some 18) (op := .call { callee := .value (.func 182),args := #[.tmp 16,.tmp 17],argTypes := #[151,196] }) (by rw [hops]; kernel_rfl)).at_
   refine wpOpIn_con (planned_con hx m th wr on) h00 h01 h03 rfl (vs := [a'.tmps.getD 16 undef,w4V on]) (R := R) (by simp only [List.map_toArray,List.map_cons,List.map_nil]; show #[a'.tmps.getD 16 undef,a'.tmps.getD 17 undef] = _; rw [g2]) (fun b o hr => Nat.lt_of_lt_of_le (hRW b o hr) hb.size) (fun g cs hg => Rel.keep (hkeepR w' hb) _ _ (hcap.glob g cs hg)) ⟨g1,⟨_,rfl,rfl,rfl,rfl,rfl,trivial⟩,trivial⟩ ?_
   intro v w2 R' hb2' hR1 hR2 hv
   rw [h02]
   obtain ⟨k1,k2,k3,k4,k5⟩ := hkeep 18 v (by decide) (by decide) (by decide) (by decide)
   refine ⟨hsize,k1,k2,k3,k4,k5,.inl ⟨getD_keep (by decide) h4,?_⟩⟩
   rw [hP1]
   have hbb : Below W.heap.size W w2 := hb.trans (hb2'.mono hb.size)
   refine ⟨getD_keep (by decide) h50,hbb,fun h => ?_,fun h => ?_,fun h => ?_,fun _ => ⟨getD_keep (by decide) (hedge 1 (by simp)),getD_keep (by decide) (hedge 2 (by simp)),R',fun b o hr => ⟨(hR2 b o hr).1,(hR2 b o hr).2.imp id fun h => Nat.le_trans hb.size h⟩,?_⟩⟩
   ·rw [getD_put a' 18 _ 15 (by omega),if_neg (by decide)]; exact f0 ((getD_done h).resolve_left (by decide))
   ·rw [getD_put a' 18 _ 16 (by omega),if_neg (by decide)]
    exact Rel.keep (Keeps.of_below (fun _ _ h => h) (fun b o hr => Nat.lt_of_lt_of_le (hRW b o hr) hb.size) hb2') _ _ g1
   ·rw [getD_put a' 18 _ 17 (by omega),if_neg (by decide)]; exact f2 ((getD_done h).resolve_left (by decide))
   ·rw [getD_put a' 18 _ 18 (by omega),if_pos rfl]; exact hv
  · -- it is yielded
   obtain ⟨h4,hp⟩ := hph1 (by decide)
   rw [hP1] at hp
   obtain ⟨h50,hb,f0,f1,f2,f3⟩ := hp
   rw [d4] at hedge
   have g0 := f0 (hedge 0 (by simp))
   obtain ⟨l1,l2,R',g3,g3'⟩ := f3 (hedge 3 (by simp))
   obtain ⟨o0,h00,h01,h02,h03⟩ := (opAt (ops := ops) (i := 4) (dst := some 19) (op := .call { callee := .value (.tmp 15),args := #[.tmp 18],argTypes := #[90] }) (by rw [hops]; kernel_rfl)).at_
   have hjy : J pre (fun b => N b ∨ (W.heap.size ≤ b ∧ b < w'.heap.size)) w' := hJ.new _ _ _ _ _ (by simpa using hmid.j) hb (fun b hb => hb)
   have htold : ToldP R (fun b => W.heap.size ≤ b ∧ b < w'.heap.size) (plannedF x on) #[a'.tmps.getD 18 undef] w' := ⟨_,R',rfl,fun b o hr => (g3 b o hr).2.imp id fun h => ⟨h,(g3 b o hr).1⟩,g3'⟩
   refine wpOpIn_yield h00 h01 h03 rfl g0 (vs := #[a'.tmps.getD 18 undef]) (by simp only [List.map_toArray,List.map_cons,List.map_nil]; rfl) (hy pre (plannedF x on) _ _ (fun b => W.heap.size ≤ b ∧ b < w'.heap.size) w' hjy ⟨post,by rw [← hpost]; simp⟩ (fun b h => .inr h) htold) ?_
   rintro e w2 ⟨rfl,hj2,hs2⟩
   refine ⟨_,rfl,?_⟩
   rw [h02]
   obtain ⟨k1,k2,k3,k4,k5⟩ := hkeep 19 (.bool true) (by decide) (by decide) (by decide) (by decide)
   refine ⟨hsize,k1,k2,k3,k4,k5,.inr ⟨getD_now (by omega),?_⟩⟩
   rw [hP2]
   have hNn : ∀ b,N b → Less (fun b => N b ∨ (W.heap.size ≤ b ∧ b < w'.heap.size)) (fun b => W.heap.size ≤ b ∧ b < w'.heap.size) b := fun b hb => ⟨.inl hb,fun h => by have := hmid.own b hb; omega⟩
   refine ⟨fun j hj => ?_,⟨N,hmid.le,hJ.new _ _ _ _ _ hj2 (Below.refl _ _) (fun b hb => .inl (hNn b hb)),Nat.le_trans hmid.size (Nat.le_trans hb.size hs2.size),fun b hb' => ?_,fun b hb' => Nat.lt_of_lt_of_le (hmid.own b hb') (Nat.le_trans hb.size hs2.size)⟩,get_now (by omega),fun h => ?_⟩
   ·have h4' : j = 0 ∨ j = 1 ∨ j = 2 ∨ j = 3 := by omega
    rcases h4' with rfl | rfl | rfl | rfl
    ·exact getD_keep (by decide) (hedge 0 (by simp))
    ·exact getD_keep (by decide) l1
    ·exact getD_keep (by decide) l2
    ·exact getD_keep (by decide) (hedge 3 (by simp))
   ·have hlt : b < W.heap.size := hb'.elim (hKEW b) fun h => hmid.own b (hmid.le b h)
    have h1 : w2.heap[b]? = w'.heap[b]? := hb'.elim (hs2.old b) fun h => hs2.own b (hNn b (hmid.le b h))
    rw [h1,hb.block b hlt]
    exact hmid.same b hb'
   ·rcases getD_done h with h | h
    ·cases h
    ·rw [h50] at h; cases h
  · -- the answer
   rcases hphase with ⟨h4,hp⟩ | ⟨h4,hp⟩
   ·rw [d5] at hedge
    rw [hedge 4 (by simp)] at h4
    cases h4
   ·rw [hP2] at hp
    obtain ⟨hall4,hm2,h19,_⟩ := hp
    obtain ⟨o0,h00,h01,h02,h03⟩ := (opAt (ops := ops) (i := 5) (dst := some 8) (op := .assign (.tmp 19)) (by rw [hops]; kernel_rfl)).at_
    refine wpOpIn_hand (v := .bool true) (w' := w') h00 h01 (fun c hc => by rw [h03] at hc; cases hc) (by
     have hev : a'.eval (.tmp 19) = .bool true := h19
     simp [execOp,h03,hev]) ?_
    rw [h02]
    obtain ⟨k1,k2,k3,k4,k5⟩ := hkeep 8 (.bool true) (by decide) (by decide) (by decide) (by decide)
    refine ⟨hsize,k1,k2,k3,k4,k5,.inr ⟨getD_keep (by decide) h4,?_⟩⟩
    rw [hP2]
    exact ⟨fun j hj => getD_keep (by omega) (hall4 j hj),hm2,by rw [getD_put a' 8 _ 19 (by omega),if_neg (by decide)]; exact h19,fun _ => get_now (by omega)⟩
end
end Go.Di

namespace Go.Di
open Proofs
open Go.RowKit
section
variable {x : FBook} {m : Mp} {th : List (List Int)} {wr : List Int} {al : List (List Int)} {R : Foot} {KE : Nat → Prop} {xs : List (List Work)} {y : Nat} {J : List (List Work) → (Nat → Prop) → World → Prop} {pA pY pB pC : Value}

/-- What a call of the function that changes does,with so many sections left. -/
def ChgOk (x : FBook) (m : Mp) (th : List (List Int)) (wr : List Int) (al : List (List Int)) (R : Foot) (KE : Nat → Prop) (xs : List (List Work)) (y : Nat) (J : List (List Work) → (Nat → Prop) → World → Prop) (pA pY pB pC : Value) (f s : Nat) : Prop :=
 ∀ (on : W4) (pre : List (List Work)) (N0 : Nat → Prop) (W0 : World),(∃ post,pre ++ plansGo x al f s on ++ post = xs) → J pre N0 W0 → (∀ b,KE b → b < W0.heap.size) → (∀ b,N0 b → b < W0.heap.size) → PCaps x m th wr al R KE y pA pY pB pC N0 W0 →
  Calls PRG 181 #[w4V on,.int .i64 s,pA,pY,pB,pC] W0 (WearPost KE J pre (plansGo x al f s on) N0 W0)

theorem chg_fn : ∃ fn,PRG.funcs[181]? = some fn ∧ (fn.name == "runtime.NumGoroutine") = false ∧ fn.body.isNone = false := ⟨Tryd.f181,by kernel_rfl,by kernel_rfl,by kernel_rfl⟩
theorem take_succ_getD {α : Type} (l : List α) (j : Nat) (d : α) (h : j < l.length) : l.take (j + 1) = l.take j ++ [l.getD j d] := by
 rw [List.take_add_one,List.getElem?_eq_getElem h,List.getD_eq_getElem?_getD,List.getElem?_eq_getElem h]; rfl

theorem chg_rec (hJ : Abides J) (hRKE : ∀ b o,R b o → KE b) {f s : Nat} (ih : ChgOk x m th wr al R KE xs y J pA pY pB pC f (s + 1)) (hs : s < al.length) (hn : al.length ≤ 4) (hrow : ∀ s,(al.getD s []).length ≤ 1000000) {on : W4} {pre : List (List Work)} {N0 N : Nat → Prop} {W0 W : World} {a : Act} {fv : Nat → Value}
  (hKE : ∀ b,KE b → b < W0.heap.size) (hN0 : ∀ b,N0 b → b < W0.heap.size) (hcaps : PCaps x m th wr al R KE y pA pY pB pC N0 W0) (hmid : Mid KE J pre [] N0 W0 N W)
  (hfr : Fr PRG (lookN typesF) globF 39 [2,3,4,5,6] fv KE W0.heap.size N a W (gS x m th wr al on s)) (hfv : fv 5 = pC) (hxs : ∃ post,pre ++ plansGo x al (f + 1) s on ++ post = xs)
  {Q : Exit → Act → World → Prop} (hret : ∀ a' W',Done KE J pre (plansGo x al (f + 1) s on) N0 W0 a' W' → Q .ret a' W') : (Code.at [1,1] (body Tryd.f181)).wpIn (FR none) 0 PRG Q a W := by
 obtain ⟨row,hrw⟩ : ∃ row,row = al.getD s [] := ⟨_,rfl⟩
 have hrl : row.length ≤ 1000000 := by rw [hrw]; exact hrow s
 have hcode : Code.at [1,1] (body Tryd.f181) = .seq (.seq (Code.at [1,1,0,0] (body Tryd.f181)) (.block 0 (.loop (.seq (Code.at [1,1,0,1,0,0,0] (body Tryd.f181)) (.seq (.cond (.tmp 26) .skip (.exit 0))
  (.seq (.block 1 (.seq (Code.at [1,1,0,1,0,0,1,1,0,0,0] (body Tryd.f181)) (.seq (Code.at [1,1,0,1,0,0,1,1,0,0,1,0] (body Tryd.f181))
   (.seq (.region 7 (rops (Code.at [1,1,0,1,0,0,1,1,0,0,1,1,0] (body Tryd.f181))) false) (.cond (.tmp 37) (Code.at [1,1,0,1,0,0,1,1,0,0,1,1,1,0] (body Tryd.f181)) .skip)))))
  (Code.at [1,1,0,1,0,0,1,1,1] (body Tryd.f181)))))))) (.seq (Code.at [1,1,1,0] (body Tryd.f181)) .ret) := by kernel_rfl
 rw [hcode]
 refine wpIn_seq (wpIn_seq (hfr.path mixed_ok typesF_ok hJ hmid.j (fun ke no w1 => ⟨_,g_3 x m th wr al on s ke no w1 fv,⟨by omega,by omega⟩,trivial⟩) (by kernel_rfl) (by kernel_rfl) fun a1 W1 N1 hN1 => ?_))
 have hmid1 := hmid.step hN1 hKE hN0
 have hf1 := hN1.fr
 rw [show ((s : Int).toNat) = s from Int.toNat_natCast s,← hrw] at hf1
 show Code.wpIn _ _ _ _ _ _ _
 -- the rounds
 refine wpIn_block (wpIn_loop_ghost (fun k a W => ∃ j : Nat,k + j = row.length ∧ ∃ on' N fv,(∀ z,W4.set on' s z = on.set s z) ∧ fv 5 = pC ∧ Fr PRG (lookN typesF) globF 39 [2,3,4,5,6] fv KE W0.heap.size N a W (gL x m th wr al on' s row j) ∧
  Mid KE J pre ((row.take j).flatMap fun z => plansGo x al f (s + 1) (on.set s z)) N0 W0 N W) row.length ⟨0,by omega,on,N1,fv,fun _ => rfl,hfv,hf1,hmid1⟩ ?_)
 rintro k a W ⟨j,hk,on',N,fv,hset,hfv,hfr,hmid⟩
 refine wpIn_seq (hfr.path mixed_ok typesF_ok hJ hmid.j (fun ke no w1 => ⟨_,g_4 x m th wr al on' s row j ke no w1 fv,trivial⟩) (by kernel_rfl) (by kernel_rfl) fun a3 W3 N3 hN3 => ?_)
 have hmid3 := hmid.step hN3 hKE hN0
 have h26 : a3.tmps.getD 26 undef = .bool (decide ((j : Int) < (row.length : Int))) := hN3.fr.val (i := 26) rfl rfl
 show Code.wpIn _ _ _ _ _ _ _
 by_cases hlt : j < row.length
 ·rw [decide_eq_true (by omega : (j : Int) < (row.length : Int))] at h26
  refine wpIn_seq (wpIn_cond_true h26 (wpIn_skip ?_))
  show Code.wpIn _ _ _ _ _ _ _
  have hf3 := hN3.fr.drop gLK (by kernel_rfl) (by kernel_rfl) (L' := gL x m th wr al on' s row j) (by kernel_rfl) (by kernel_rfl)
  refine wpIn_seq (wpIn_block (wpIn_seq (hf3.path mixed_ok typesF_ok hJ hmid3.j (fun ke no w1 => ⟨_,g_5 x m th wr al on' s row j ke no w1 fv,⟨by omega,by omega⟩,by omega,trivial⟩) (by kernel_rfl) (by kernel_rfl) fun a4 V4 N4 hN4 => ?_)))
  have hmid4 := hmid3.step hN4 hKE hN0
  obtain ⟨z,hz⟩ : ∃ z,z = row.getD j 0 := ⟨_,rfl⟩
  have hf4 := hN4.fr
  rw [← hz] at hf4
  show Code.wpIn _ _ _ _ _ _ _
  -- the store
  have hstore : ∀ {Q' : Exit → Act → World → Prop},(∀ a' W' N',FrNext PRG (lookN typesF) globF 39 [2,3,4,5,6] fv KE W0.heap.size N4 N' J (pre ++ (row.take j).flatMap fun z => plansGo x al f (s + 1) (on.set s z)) a' V4 W' (gL x m th wr al (on'.set s z) s row j) → Q' .normal a' W') →
    (Code.at [1,1,0,1,0,0,1,1,0,0,1,0] (body Tryd.f181)).wpIn (FR none) 0 PRG Q' a4 V4 := by
   intro Q' hQ'
   have hp4 : s < 4 := by omega
   clear hset
   match s,hp4,hf4,hQ' with
   | 0,_,hf4,hQ' => exact hf4.path mixed_ok typesF_ok hJ hmid4.j (fun ke no w1 => ⟨_,g_6_0 x m th wr al on' row j z ke no w1 fv,⟨by omega,by omega⟩,trivial⟩) (by kernel_rfl) (by kernel_rfl) hQ'
   | 1,_,hf4,hQ' => exact hf4.path mixed_ok typesF_ok hJ hmid4.j (fun ke no w1 => ⟨_,g_6_1 x m th wr al on' row j z ke no w1 fv,⟨by omega,by omega⟩,trivial⟩) (by kernel_rfl) (by kernel_rfl) hQ'
   | 2,_,hf4,hQ' => exact hf4.path mixed_ok typesF_ok hJ hmid4.j (fun ke no w1 => ⟨_,g_6_2 x m th wr al on' row j z ke no w1 fv,⟨by omega,by omega⟩,trivial⟩) (by kernel_rfl) (by kernel_rfl) hQ'
   | 3,_,hf4,hQ' => exact hf4.path mixed_ok typesF_ok hJ hmid4.j (fun ke no w1 => ⟨_,g_6_3 x m th wr al on' row j z ke no w1 fv,⟨by omega,by omega⟩,trivial⟩) (by kernel_rfl) (by kernel_rfl) hQ'
   | _ + 4,h,_,_ => omega
  refine wpIn_seq (hstore fun a6 W6 N6 hN6 => ?_)
  have hmid6 := hmid4.step hN6 hKE hN0
  have hfv6 : a6.tmps.getD 5 undef = pC := (hN6.fr.fixed 5 (by simp)).trans hfv
  show Code.wpIn _ _ _ _ _ _ _
  obtain ⟨ops,hops⟩ : ∃ ops,ops = rops (Code.at [1,1,0,1,0,0,1,1,0,0,1,1,0] (body Tryd.f181)) := ⟨_,rfl⟩
  refine wpIn_seq (wp_text (by kernel_rfl) ?_)
  have hsz : (rops (Code.at [1,1,0,1,0,0,1,1,0,0,1,1,0] (body Tryd.f181))).size = 6 := by kernel_rfl
  rw [hsz]
  show wpOps _ _ _ (0 :: [1,2,3,4,5]) _ _
  obtain ⟨b5,hb1,hb2,hb3⟩ := hcaps.chg
  have hc5 : W6.cell? ⟨b5,0,none⟩ = some (.func (.func 181) #[] #[pA,pY,pB,pC]) := by rw [cell_same (hmid6.same b5 (.inr hb2))]; exact hb3
  obtain ⟨o0,h00,h01,h02,h03⟩ := (opAt (ops := (rops (Code.at [1,1,0,1,0,0,1,1,0,0,1,1,0] (body Tryd.f181)))) (i := 0) (dst := some 32) (op := .load 195 (.tmp 5)) (by kernel_rfl)).at_
  refine wpOps_hand (v := .func (.func 181) #[] #[pA,pY,pB,pC]) (w' := W6) h00 h01 ?_ ?_
  ·have hev : a6.eval (.tmp 5) = .pointer (some ⟨b5,0,none⟩) := hfv6.trans hb1
   simp only [execOp,h03,hev]
   simp [run_loadv (P := PRG) typesF_ok (t := 195) (ti := ⟨.other,1,8,[.nilfn],none,false⟩) (by kernel_rfl) rfl rfl hc5]
  rw [h02]
  have hnt6 : 39 ≤ a6.tmps.size := by
   obtain ⟨β,σ,R,hi⟩ := hN6.fr
   exact hi.inv.nt
  have hf6 := (hN6.fr.putAny 32 (by decide) (by decide) (by kernel_rfl) (.func (.func 181) #[] #[pA,pY,pB,pC])).fix [2,3,4,5,6,32]
  have hfv6' : (a6.put (some 32) (.func (.func 181) #[] #[pA,pY,pB,pC])).tmps.getD 5 undef = pC := get_put (by omega) (by decide) hfv6
  show wpOps _ _ _ (List.range' 1 [(rops (Code.at [1,1,0,1,0,0,1,1,0,0,1,1,0] (body Tryd.f181)))[1],(rops (Code.at [1,1,0,1,0,0,1,1,0,0,1,1,0] (body Tryd.f181)))[2],(rops (Code.at [1,1,0,1,0,0,1,1,0,0,1,1,0] (body Tryd.f181)))[3]].length ++ [4,5]) _ _
  refine hf6.ops hJ hmid6.j typesF_ok (l := [(rops (Code.at [1,1,0,1,0,0,1,1,0,0,1,1,0] (body Tryd.f181)))[1],(rops (Code.at [1,1,0,1,0,0,1,1,0,0,1,1,0] (body Tryd.f181)))[2],(rops (Code.at [1,1,0,1,0,0,1,1,0,0,1,1,0] (body Tryd.f181)))[3]]) (fun j o hj => ?_) (fun ke no w1 => ⟨_,g_7a x m th wr al (on'.set s z) s row j ke no w1 _,by omega,by simp only [inI64]; omega,trivial⟩) (noObs_ok (by kernel_rfl)) (keepOk_ok (by kernel_rfl)) fun a7 W7 N7 hN7 => ?_
  ·match j,hj with
   | 0,hj => simp only [List.getElem?_cons_zero,Option.some.injEq] at hj; subst hj; exact Array.getElem?_eq_getElem _
   | 1,hj => simp only [List.getElem?_cons_succ,List.getElem?_cons_zero,Option.some.injEq] at hj; subst hj; exact Array.getElem?_eq_getElem _
   | 2,hj => simp only [List.getElem?_cons_succ,List.getElem?_cons_zero,Option.some.injEq] at hj; subst hj; exact Array.getElem?_eq_getElem _
  have hmid7 := hmid6.step hN7 hKE hN0
  have h32 : a7.tmps.getD 32 undef = .func (.func 181) #[] #[pA,pY,pB,pC] := by
   rw [hN7.fr.fixed 32 (by simp)]
   exact get_now (by omega)
  have h33 : a7.tmps.getD 33 undef = w4V (on'.set s z) := hN7.fr.val (i := 33) rfl rfl
  have h35 : a7.tmps.getD 35 undef = .int .i64 ((s : Int) + 1) := hN7.fr.val (i := 35) rfl rfl
  have hfv7 : a7.tmps.getD 5 undef = pC := (hN7.fr.fixed 5 (by simp)).trans hfv6'
  obtain ⟨o4,h40,h41,h42,h43⟩ := (opAt (ops := (rops (Code.at [1,1,0,1,0,0,1,1,0,0,1,1,0] (body Tryd.f181)))) (i := 4) (dst := some 36) (op := .call { callee := .value (.tmp 32),args := #[.tmp 33,.tmp 35],argTypes := #[196,3] }) (by kernel_rfl)).at_
  obtain ⟨fn,f1,f2,f3⟩ := chg_fn
  have htk : row.take (j + 1) = row.take j ++ [z] := by rw [hz]; exact take_succ_getD row j 0 hlt
  have hgo : ∃ post,(pre ++ (row.take j).flatMap fun z => plansGo x al f (s + 1) (on.set s z)) ++ plansGo x al f (s + 1) (on'.set s z) ++ post = xs := by
   obtain ⟨post,hpost⟩ := hxs
   have e1 : plansGo x al (f + 1) s on = row.flatMap fun z => plansGo x al f (s + 1) (on.set s z) := by rw [hrw]; rfl
   refine ⟨((row.drop (j + 1)).flatMap fun z => plansGo x al f (s + 1) (on.set s z)) ++ post,?_⟩
   rw [← hpost,e1,hset]
   conv => rhs; rw [← List.take_append_drop (j + 1) row,htk]
   simp [List.flatMap_append,List.append_assoc]
  have hcl := ih (on'.set s z) _ N7 W7 hgo hmid7.j (fun b hb => Nat.lt_of_lt_of_le (hKE b hb) hmid7.size) hmid7.own (hcaps.after hRKE hmid7.le hmid7.same)
  have hcl' : Calls PRG 181 (#[w4V (on'.set s z),.int .i64 ((s : Int) + 1)] ++ #[pA,pY,pB,pC]) W7 (WearPost KE J (pre ++ (row.take j).flatMap fun z => plansGo x al f (s + 1) (on.set s z)) (plansGo x al f (s + 1) (on'.set s z)) N7 W7) := by
   rw [show ((s : Int) + 1) = ((s + 1 : Nat) : Int) by omega]
   exact hcl
  refine wpOps_callv h40 h41 h43 rfl h32 (vs := #[w4V (on'.set s z),.int .i64 ((s : Int) + 1)]) (by simp only [List.map_toArray,List.map_cons,List.map_nil]; show #[a7.tmps.getD 33 undef,a7.tmps.getD 35 undef] = _; rw [h33,h35]) f1 f2 f3 hcl' ?_
  rintro e W8 ⟨rfl,N8,hm8⟩
  refine ⟨_,rfl,?_⟩
  rw [h42]
  have hmid8 := hmid7.more hm8
  have hf8 := ((hN7.fr.after hm8.le hm8.own hm8.size hm8.same).put 36 (by decide) (by decide) (x := .bool true) (v := .bool true) (fun _ => rfl)).fix [2,3,4,5,6]
  have hnt7 : 39 ≤ a7.tmps.size := by
   obtain ⟨β,σ,R,hi⟩ := hN7.fr
   exact hi.inv.nt
  have hfv8 : (a7.put (some 36) (.bool true)).tmps.getD 5 undef = pC := get_put (by omega) (by decide) hfv7
  show wpOps _ _ _ (List.range' 5 [(rops (Code.at [1,1,0,1,0,0,1,1,0,0,1,1,0] (body Tryd.f181)))[5]].length ++ []) _ _
  refine hf8.ops hJ hmid8.j typesF_ok (l := [(rops (Code.at [1,1,0,1,0,0,1,1,0,0,1,1,0] (body Tryd.f181)))[5]]) (fun j o hj => ?_) (fun ke no w1 => ⟨_,g_7b x m th wr al (on'.set s z) s row j ke no w1 _,trivial⟩) (noObs_ok (by kernel_rfl)) (keepOk_ok (by kernel_rfl)) fun a9 W9 N9 hN9 => ?_
  ·match j,hj with
   | 0,hj => simp only [List.getElem?_cons_zero,Option.some.injEq] at hj; subst hj; exact Array.getElem?_eq_getElem _
  have hmid9 := hmid8.step hN9 hKE hN0
  show Code.wpIn _ _ _ _ _ _ _
  have h37 : a9.tmps.getD 37 undef = .bool false := hN9.fr.val (i := 37) rfl rfl
  refine wpIn_cond_false h37 (wpIn_skip ?_)
  show Code.wpIn _ _ _ _ _ _ _
  have hf9 := hN9.fr.drop gLK (by kernel_rfl) (by kernel_rfl) (L' := gL x m th wr al (on'.set s z) s row j) (by kernel_rfl) (by kernel_rfl)
  refine hf9.path mixed_ok typesF_ok hJ hmid9.j (fun ke no w1 => ⟨_,g_9 x m th wr al (on'.set s z) s row j ke no w1 _,by simp only [inI64]; omega,trivial⟩) (by kernel_rfl) (by kernel_rfl) fun a5 W5 N5 hN5 => ?_
  refine ⟨k - 1,by omega,j + 1,by omega,on'.set s z,N5,_,fun z' => by rw [set_set]; exact hset z',hfv8,hN5.fr,?_⟩
  have hmid10 := hmid9.step hN5 hKE hN0
  rw [htk,List.flatMap_append,List.flatMap_singleton,← hset]
  exact hmid10
 ·rw [decide_eq_false (by omega : ¬ (j : Int) < (row.length : Int))] at h26
  refine wpIn_seq (wpIn_cond_false h26 (wpIn_exit ?_))
  have hf3 := hN3.fr.drop gK (by kernel_rfl) (by kernel_rfl) (L' := gS x m th wr al on' s) (by kernel_rfl) (by kernel_rfl)
  show Code.wpIn _ _ _ _ _ _ _
  refine wpIn_seq (hf3.path mixed_ok typesF_ok hJ hmid3.j (fun ke no w1 => ⟨_,g_10 x m th wr al on' s ke no w1 fv,trivial⟩) (by kernel_rfl) (by kernel_rfl) fun a4 V4 N4 hN4 => ?_)
  show Code.wpIn _ _ _ _ _ _ _
  refine wpIn_ret (hret _ _ ⟨hN4.fr.defers,hN4.fr.val (i := 8) rfl rfl,N4,?_⟩)
  have e1 : plansGo x al (f + 1) s on = (row.take j).flatMap fun z => plansGo x al f (s + 1) (on.set s z) := by
   rw [List.take_of_length_le (by omega),hrw]
   rfl
  rw [e1]
  exact hmid3.step hN4 hKE hN0

theorem chg_head (hJ : Abides J) (hRKE : ∀ b o,R b o → KE b) {f s : Nat} {on : W4} {pre : List (List Work)} {N0 : Nat → Prop} {W0 : World} (hj : J pre N0 W0) (hKE : ∀ b,KE b → b < W0.heap.size) (hN0 : ∀ b,N0 b → b < W0.heap.size) (hcaps : PCaps x m th wr al R KE y pA pY pB pC N0 W0)
  (hleaf : s = al.length → ∀ (a : Act) (W : World) (N : Nat → Prop) (fv : Nat → Value) (Q : Exit → Act → World → Prop),Mid KE J pre [] N0 W0 N W → Fr PRG (lookN typesF) globF 39 [2,3,4,5,6] fv KE W0.heap.size N a W (gS x m th wr al on s) → fv 3 = pY → fv 4 = pB →
   (∀ a' W',Done KE J pre (plansGo x al f s on) N0 W0 a' W' → Q .ret a' W') → (Code.at [1,0,1,0] (body Tryd.f181)).wpIn (FR none) 0 PRG Q a W)
  (hrec : s ≠ al.length → ∀ (a : Act) (W : World) (N : Nat → Prop) (fv : Nat → Value) (Q : Exit → Act → World → Prop),Mid KE J pre [] N0 W0 N W → Fr PRG (lookN typesF) globF 39 [2,3,4,5,6] fv KE W0.heap.size N a W (gS x m th wr al on s) → fv 5 = pC →
   (∀ a' W',Done KE J pre (plansGo x al f s on) N0 W0 a' W' → Q .ret a' W') → (Code.at [1,1] (body Tryd.f181)).wpIn (FR none) 0 PRG Q a W) :
  Calls PRG 181 #[w4V on,.int .i64 s,pA,pY,pB,pC] W0 (WearPost KE J pre (plansGo x al f s on) N0 W0) := by
 refine calls_of_wp (fn := Tryd.f181) (c := body Tryd.f181) (by kernel_rfl) (by kernel_rfl) ((wpIn_wide (n := 0)).1 ?_)
 have hcode : body Tryd.f181 = .seq (Code.at [0] (body Tryd.f181)) (.seq (.seq (Code.at [1,0,0] (body Tryd.f181)) (.cond (.tmp 14) (Code.at [1,0,1,0] (body Tryd.f181)) .skip)) (Code.at [1,1] (body Tryd.f181))) := by kernel_rfl
 obtain ⟨Ra,h1,h2⟩ := hcaps.all
 have hnt : (Tryd.f181).ntmps = 39 := by kernel_rfl
 rw [hnt]
 show Code.wpIn (FR none) 0 _ (body Tryd.f181) _ _ _
 rw [hcode]
 obtain ⟨a0,ha0⟩ : ∃ a0 : Act,a0 = { tmps := (#[w4V on,.int .i64 s,pA,pY,pB,pC] : Array Value) ++ Array.replicate (39 - (#[w4V on,.int .i64 s,pA,pY,pB,pC] : Array Value).size) undef,defers := [] } := ⟨_,rfl⟩
 rw [← ha0]
 have hgd : ∀ i,i < 6 → a0.tmps.getD i undef = (#[w4V on,.int .i64 s,pA,pY,pB,pC] : Array Value).getD i undef := by
  intro i hi
  rw [ha0,Array.getD_eq_getD_getElem?,Array.getD_eq_getD_getElem?,Array.getElem?_append,if_pos (by simpa using hi)]
 have t0 : a0.tmps.getD 0 undef = w4V on := hgd 0 (by decide)
 have t1 : a0.tmps.getD 1 undef = .int .i64 s := hgd 1 (by decide)
 have t2 : a0.tmps.getD 2 undef = pA := hgd 2 (by decide)
 have t3 : a0.tmps.getD 3 undef = pY := hgd 3 (by decide)
 have t4 : a0.tmps.getD 4 undef = pB := hgd 4 (by decide)
 have t5 : a0.tmps.getD 5 undef = pC := hgd 5 (by decide)
 have k1 : Keeps R (fun b o => R b o ∨ Ra b o) W0 W0 := ⟨fun _ _ h => .inl h,fun _ _ _ _ h => h,fun _ _ _ _ h => h⟩
 have k2 : Keeps Ra (fun b o => R b o ∨ Ra b o) W0 W0 := ⟨fun _ _ h => .inr h,fun _ _ _ _ h => h,fun _ _ _ _ h => h⟩
 have hfr := Fr.start (P := PRG) (tt := lookN typesF) (glob := globF) (n := 39) (fx := [2,3,4,5]) (KE := KE) (N := N0) (W := W0) (R := fun b o => R b o ∨ Ra b o) (a := a0) (args := [setsD on,.int .i64 s,.ref [.sl false (.list .int) al] 0,.undef,.ref (cellsOf (fbkD x m th wr)) 0]) (by rw [ha0]) (by rw [ha0]; simp) hN0 hKE
  (fun b o hr => hr.elim (fun h => .inl (hRKE b o h)) (h1 b o)) (fun g cs hg => Rel.keep k1 _ _ (hcaps.glob g cs hg)) (fun i d hi => by
  match i,hi with
  | 0,hi => cases hi; refine .inr ?_; rw [t0]; exact ⟨_,rfl,rfl,rfl,rfl,rfl,trivial⟩
  | 1,hi => cases hi; refine .inr ?_; rw [t1]; rfl
  | 2,hi => cases hi; refine .inr ?_; rw [t2]; exact Rel.keep k2 _ _ h2
  | 3,hi => cases hi; exact .inl rfl
  | 4,hi => cases hi; refine .inr ?_; rw [t4]; exact Rel.keep k1 _ _ hcaps.b)
 have hmid0 : Mid KE J pre [] N0 W0 N0 W0 := ⟨fun _ h => h,by rw [List.append_nil]; exact hj,Nat.le_refl _,fun _ _ => rfl,hN0⟩
 refine wpIn_seq (hfr.path mixed_ok typesF_ok hJ hmid0.j (fun ke no w1 => ⟨_,g_0 x m th wr al on s ke no w1 _,trivial⟩) (by kernel_rfl) (by kernel_rfl) fun a1 W1 N1 hN1 => ?_)
 have hmid1 := hmid0.step hN1 hKE hN0
 have hf1 := hN1.fr.fix [2,3,4,5,6]
 have e3 : a1.tmps.getD 3 undef = pY := by rw [hN1.fr.fixed 3 (by simp)]; exact t3
 have e4 : a1.tmps.getD 4 undef = pB := by rw [hN1.fr.fixed 4 (by simp)]; exact t4
 have e5 : a1.tmps.getD 5 undef = pC := by rw [hN1.fr.fixed 5 (by simp)]; exact t5
 show Code.wpIn _ _ _ _ _ _ _
 refine wpIn_seq (wpIn_seq (hf1.path mixed_ok typesF_ok hJ hmid1.j (fun ke no w1 => ⟨_,g_1 x m th wr al on s ke no w1 _,trivial⟩) (by kernel_rfl) (by kernel_rfl) fun a2 W2 N2 hN2 => ?_))
 have hmid2 := hmid1.step hN2 hKE hN0
 have h14 : a2.tmps.getD 14 undef = .bool ((s : Int) == (al.length : Int)) := hN2.fr.val (i := 14) rfl rfl
 have hf2 := hN2.fr.drop gK (by kernel_rfl) (by kernel_rfl) (L' := gS x m th wr al on s) (by kernel_rfl) (by kernel_rfl)
 have hfin : ∀ a' W',Done KE J pre (plansGo x al f s on) N0 W0 a' W' → bodyPost PRG Tryd.f181 (WearPost KE J pre (plansGo x al f s on) N0 W0) .ret a' W' := by
  rintro a' W' ⟨d1,d2,N',d3⟩
  refine ⟨d1,.bool true,?_,rfl,N',d3⟩
  have := results_run (P := PRG) (a := a') (w := W') (fn := Tryd.f181) (rs := [.tmp 8]) (by kernel_rfl) (vs := [.bool true]) ⟨d2.symm,trivial⟩
  simpa using this
 show Code.wpIn _ _ _ _ _ _ _
 by_cases hp : s = al.length
 ·have h14' : a2.tmps.getD 14 undef = .bool true := by rw [h14]; simp [hp]
  exact wpIn_cond_true h14' (hleaf hp a2 W2 N2 _ _ hmid2 hf2 e3 e4 hfin)
 ·have h14' : a2.tmps.getD 14 undef = .bool false := by
   rw [h14]
   congr 1
   rw [beq_eq_false_iff_ne]
   omega
  exact wpIn_cond_false h14' (wpIn_skip (hrec hp a2 W2 N2 _ _ hmid2 hf2 e5 hfin))

theorem chg_ok (hJ : Abides J) (hRKE : ∀ b o,R b o → KE b) (hy : YieldP R KE xs y J) (hx : FIn x) (hn : al.length ≤ 4) (hrow : ∀ s,(al.getD s []).length ≤ 1000000) :
  ∀ (f s : Nat),f + s = al.length → ChgOk x m th wr al R KE xs y J pA pY pB pC f s := by
 intro f
 induction f with
 | zero =>
  intro s hs on pre N0 W0 hxs hj hKE hN0 hcaps
  exact chg_head hJ hRKE hj hKE hN0 hcaps (fun _ a W N fv Q hmid hfr h3 h4 hret => chg_leaf hJ hRKE hy hx hKE hN0 hcaps hmid hfr h3 h4 hxs hret) (fun h => absurd (by omega) h)
 | succ f ih =>
  intro s hs on pre N0 W0 hxs hj hKE hN0 hcaps
  exact chg_head hJ hRKE hj hKE hN0 hcaps (fun h => by omega) (fun _ a W N fv Q hmid hfr hfv hret => chg_rec hJ hRKE (ih (s + 1) (by omega)) (by omega) hn hrow hKE hN0 hcaps hmid hfr hfv hxs hret)
end
end Go.Di

