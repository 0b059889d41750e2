/- Part 25: an interpreter over plain data for this code, with the proof that it says what the model does, and the contracts of the functions. No condition. -/
import Derived.Test.YtfkmodcjddfeiaaDoorDi24
import Derived.Shelf.Slices.SearchI
import Derived.Shelf.Slices.Clone
import Derived.Shelf.Spec.SlicesInsertGrow
set_option linter.unusedVariables false
set_option linter.unusedSimpArgs false
namespace Go.Proofs
/-! ### The numbers of slices.BinarySearch,Clone and Insert in this program -/
def Tryd.laysBS_ren : Go.Shelf.Ren := ⟨fun | 25 => 150 | 31 => 184 | 32 => 185 | 37 => 202 | n => n,fun | 22 => 23 | 3 => 3 | 4 => 4 | 40 => 199 | 0 => 0 | n => n,fun | n => n⟩
theorem Tryd.laysBS : Go.Proofs.Lays2.n25 Tryd.prog Tryd.laysBS_ren where
 mixed := by kernel_rfl
 f25 := Tryd.func150.trans (congrArg some (by kernel_rfl))
 f31 := Tryd.func184.trans (congrArg some (by kernel_rfl))
 f32 := Tryd.func185.trans (congrArg some (by kernel_rfl))
 f37 := Tryd.func202.trans (congrArg some (by kernel_rfl))
 t0 := Tryd.underlying0
 a0 := Tryd.isAgg0
 z0 := Tryd.sizeOf0
 v0 := Tryd.zeroValue0
 t3 := Tryd.underlying3
 a3 := Tryd.isAgg3
 z3 := Tryd.sizeOf3
 v3 := Tryd.zeroValue3
 t4 := Tryd.underlying4
 a4 := Tryd.isAgg4
 z4 := Tryd.sizeOf4
 v4 := Tryd.zeroValue4
 t22 := Tryd.underlying23
 a22 := Tryd.isAgg23
 z22 := Tryd.sizeOf23
 v22 := Tryd.zeroValue23
 t40 := Tryd.underlying199
 a40 := Tryd.isAgg199
 z40 := Tryd.sizeOf199
 v40 := Tryd.zeroValue199
def Tryd.laysIns_ren : Go.Shelf.Ren := ⟨fun | 21 => 151 | 27 => 186 | 28 => 187 | 35 => 203 | 39 => 207 | n => n,fun | 22 => 23 | 3 => 3 | 4 => 4 | 0 => 0 | n => n,fun | n => n⟩
theorem Tryd.laysIns : Go.Proofs.Lays2.n21 Tryd.prog Tryd.laysIns_ren where
 mixed := by kernel_rfl
 f21 := Tryd.func151.trans (congrArg some (by kernel_rfl))
 f27 := Tryd.func186.trans (congrArg some (by kernel_rfl))
 f28 := Tryd.func187.trans (congrArg some (by kernel_rfl))
 f35 := Tryd.func203.trans (congrArg some (by kernel_rfl))
 f39 := Tryd.func207.trans (congrArg some (by kernel_rfl))
 t0 := Tryd.underlying0
 a0 := Tryd.isAgg0
 z0 := Tryd.sizeOf0
 v0 := Tryd.zeroValue0
 t3 := Tryd.underlying3
 a3 := Tryd.isAgg3
 z3 := Tryd.sizeOf3
 v3 := Tryd.zeroValue3
 t4 := Tryd.underlying4
 a4 := Tryd.isAgg4
 z4 := Tryd.sizeOf4
 v4 := Tryd.zeroValue4
 t22 := Tryd.underlying23
 a22 := Tryd.isAgg23
 z22 := Tryd.sizeOf23
 v22 := Tryd.zeroValue23
 i3 := by kernel_rfl
def Tryd.laysCl_ren : Go.Shelf.Ren := ⟨fun | 15 => 152 | n => n,fun | 22 => 23 | 3 => 3 | 4 => 4 | n => n,fun | n => n⟩
theorem Tryd.laysCl : Go.Proofs.Lays2.n15 Tryd.prog Tryd.laysCl_ren where
 mixed := by kernel_rfl
 f15 := Tryd.func152.trans (congrArg some (by kernel_rfl))
 t3 := Tryd.underlying3
 a3 := Tryd.isAgg3
 z3 := Tryd.sizeOf3
 v3 := Tryd.zeroValue3
 t4 := Tryd.underlying4
 a4 := Tryd.isAgg4
 z4 := Tryd.sizeOf4
 v4 := Tryd.zeroValue4
 t22 := Tryd.underlying23
 a22 := Tryd.isAgg23
 z22 := Tryd.sizeOf23
 v22 := Tryd.zeroValue23
 i3 := by kernel_rfl
end Go.Proofs
namespace Go.Di
open Proofs
open Go.RowKit Go.Proofs

theorem at_ints {l : List Int} {i : Nat} {x : Int} (h : l[i]? = some x) : i < l.length ∧ l.getD i 0 = x := by
 obtain ⟨hi,hx⟩ := List.getElem?_eq_some_iff.1 h
 exact ⟨hi,by rw [List.getD_eq_getElem?_getD,h]; rfl⟩
/-- A row of numbers,in memory from a block on. -/
def OwnR (base : Nat) (w : World) (v : Value) (l : List Int) : Prop :=
 (v = .slice none 0 0 ∧ l = []) ∨ ∃ g cap cur el,v = .slice (some ⟨g,0,none⟩) l.length cap ∧ base ≤ g ∧ w.heap[g]? = some (.cells cur el (0,0)) ∧ l.length ≤ cap ∧ cap ≤ maxLen ∧ cap ≤ cur.size ∧ ∀ j,j < l.length → cur[j]? = some (.int .i64 (l.getD j 0))
theorem OwnR.keep {base : Nat} {w w' : World} {v : Value} {l : List Int} (h : OwnR base w v l) (hb : Below w.heap.size w w') : OwnR base w' v l := by
 rcases h with h | ⟨g,cap,cur,el,h1,h2,h3,h4⟩
 ·exact .inl h
 ·exact .inr ⟨g,cap,cur,el,h1,h2,by rw [hb.block g (Array.getElem?_eq_some_iff.1 h3).1]; exact h3,h4⟩
theorem OwnR.of {base : Nat} {w : World} {v : Value} {l : List Int} (h : w.ownsRow base 3 1 v l.length (l.map (Value.int .i64))) : OwnR base w v l := by
 obtain ⟨h1,h2⟩ := h
 rcases h2 with ⟨h2,h3⟩ | ⟨g,cap,cur,h2,h3,h4,h5,h6,h7,h8⟩
 ·exact .inl ⟨h2,List.length_eq_zero_iff.1 h3⟩
 ·refine .inr ⟨g,cap,cur,3,h2,h3,h4,h5,h6,by omega,fun j hj => ?_⟩
  have h := congrArg (fun l => l[j]?) h8
  simp only [Nat.mul_one,List.getElem?_take,if_pos hj,Array.getElem?_toList,List.getElem?_map,List.getElem?_eq_getElem hj,Option.map_some] at h
  rw [h,List.getD_eq_getElem?_getD,List.getElem?_eq_getElem hj]
  rfl
theorem OwnR.rel {base : Nat} {w : World} {v : Value} {l : List Int} (h : OwnR base w v l) (hb : base ≤ w.heap.size) (R : Foot) (hR : ∀ b o,R b o → b < w.heap.size) :
  ∃ R' : Foot,(∀ b o,R b o → R' b o) ∧ (∀ b o,R' b o → b < w.heap.size ∧ (R b o ∨ base ≤ b)) ∧ Rel R' w (.sl false .int l) v := by
 rcases h with ⟨rfl,rfl⟩ | ⟨g,cap,cur,el,rfl,h2,h3,h4,h5,h6,h7⟩
 ·exact ⟨R,fun _ _ h => h,fun b o h => ⟨hR b o h,.inl h⟩,sl_nil _ _ _ _ _⟩
 ·have hg := (Array.getElem?_eq_some_iff.1 h3).1
  refine ⟨fun b o => R b o ∨ b = g,fun _ _ h => .inl h,fun b o h => h.elim (fun h => ⟨hR b o h,.inl h⟩) fun h => ⟨by omega,.inr (by omega)⟩,some ⟨g,0,none⟩,cap,rfl,h4,h5,(fun h => absurd h (by decide)),fun _ => ⟨g,0,rfl,fun i x hx => ⟨[.int .i64 x],rfl,rfl,fun j u hu => ?_⟩⟩⟩
  match j,hu with
  | 0,hu =>
   cases hu
   obtain ⟨hi,e1⟩ := at_ints (l := l) (i := i) (x := x) hx
   refine ⟨.inr rfl,?_⟩
   rw [cell_of h3]
   have h8 := h7 i hi
   rw [e1] at h8
   rw [show 0 + i * E.int.sz + 0 = i from by show 0 + i * 1 + 0 = i; omega]
   exact h8

/-! ### Clone -/
theorem clone_calls {R : Foot} {w : World} {l : List Int} {v : Value} (hl : l.length ≤ 1000) (hv : Rel R w (.sl false .int l) v) : Calls PRG 152 #[v] w fun e w' => ∃ v',e = .returned v' ∧ OwnR w.heap.size w' v' l ∧ Below w.heap.size w w' := by
 obtain ⟨A,c,rfl,h1,h2,_,h4⟩ := hv
 by_cases h0 : 0 < l.length
 ·obtain ⟨b,o,rfl,h5⟩ := h4 h0
  refine (Any.slices_Clone_int Tryd.laysCl b o l.length c l w (Nat.le_refl _) (by omega) fun j hj => ?_).mono ?_
  ·obtain ⟨vs,q1,q2,q3⟩ := h5 j _ (List.getElem?_eq_getElem hj)
   have q2' : vs = [.int .i64 l[j]] := q2
   subst q2'
   have : w.cell? ⟨b,o + j * 1 + 0,none⟩ = some (.int .i64 l[j]) := (q3 0 _ rfl).2
   rw [Nat.add_zero,Nat.mul_one] at this
   rw [this,List.getD_eq_getElem?_getD,List.getElem?_eq_getElem hj]
   rfl
  ·rintro e w' ⟨v',rfl,q1,_,q2⟩
   rw [List.take_length] at q1
   exact ⟨v',rfl,OwnR.of q1,q2⟩
 ·obtain rfl : l = [] := List.length_eq_zero_iff.1 (by omega)
  cases A with
  | none =>
   refine (Any.slices_Clone_int_nil Tryd.laysCl 0 c w).mono ?_
   rintro e w' ⟨rfl,rfl⟩
   exact ⟨_,rfl,.inl ⟨rfl,rfl⟩,Below.refl _ _⟩
  | some a =>
   refine (Any.slices_Clone_int_zero Tryd.laysCl a c w).mono ?_
   rintro e w' ⟨v',rfl,q1,_,q2⟩
   exact ⟨v',rfl,OwnR.of q1,q2⟩

/-! ### Insert -/
def insL (l : List Int) (j : Nat) (d : Int) : List Int := l.take j ++ d :: l.drop j
theorem insL_length {l : List Int} {j : Nat} (d : Int) (hj : j ≤ l.length) : (insL l j d).length = l.length + 1 := by unfold insL; rw [List.length_append,List.length_cons,List.length_take,List.length_drop]; omega
theorem insL_getD {l : List Int} {j : Nat} (d : Int) (hj : j ≤ l.length) (k : Nat) : (insL l j d).getD k 0 = if k < j then l.getD k 0 else if k = j then d else l.getD (k - 1) 0 := by
 unfold insL
 rw [List.getD_eq_getElem?_getD,List.getElem?_append,List.length_take,Nat.min_eq_left hj]
 by_cases h1 : k < j
 ·rw [if_pos h1,if_pos h1,List.getElem?_take,if_pos h1,List.getD_eq_getElem?_getD]
 ·rw [if_neg h1,if_neg h1]
  by_cases h2 : k = j
  ·rw [if_pos h2,h2,Nat.sub_self]
   rfl
  ·rw [if_neg h2,show k - j = (k - j - 1) + 1 by omega,List.getElem?_cons_succ,List.getElem?_drop,List.getD_eq_getElem?_getD,show j + (k - j - 1) = k - 1 by omega]
theorem below_drew {B : Nat} {w : World} : Below B w w.drew := ⟨rfl,rfl,rfl,Nat.le_refl _,fun _ _ => rfl⟩
theorem below_setCells {B g o : Nat} {vs : List Value} {w : World} (h : B ≤ g) : Below B w (w.setCells g o vs) := by
 obtain ⟨r1,r2,r3,r4⟩ := setCells_rest g vs o w
 exact ⟨r1,r2,r3,by rw [r4]; exact Nat.le_refl _,fun k hk => setCells_other g vs o w k (by omega)⟩
theorem ints_getD {l : List Int} {j : Nat} {v : Value} (h : (l.map (Value.int .i64))[j]? = some v) : j < l.length ∧ v = .int .i64 (l.getD j 0) := by
 obtain ⟨hj,he⟩ := List.getElem?_eq_some_iff.1 h
 rw [List.length_map] at hj
 refine ⟨hj,?_⟩
 rw [← he,List.getElem_map,List.getD_eq_getElem?_getD,List.getElem?_eq_getElem hj]
 rfl
theorem ints_at {l : List Int} {j : Nat} (h : j < l.length) : (l.map (Value.int .i64))[j]? = some (.int .i64 (l.getD j 0)) := by
 rw [List.getElem?_map,List.getElem?_eq_getElem h,List.getD_eq_getElem?_getD,List.getElem?_eq_getElem h]
 rfl
theorem insert_calls {base : Nat} {w : World} {l : List Int} {v : Value} {j : Nat} {d : Int} {vb c2 el2 : Nat} (hl : l.length ≤ 1000) (hj : j ≤ l.length) (hv : OwnR base w v l) (hb : base ≤ w.heap.size) (hvb : w.heap[vb]? = some (.cells #[.int .i64 d] el2 (0,0))) (hne : ∀ g n c,v = .slice (some ⟨g,0,none⟩) n c → vb ≠ g) :
  Calls PRG 151 #[v,.int .i64 j,.slice (some ⟨vb,0,none⟩) 1 c2] w fun e w' => ∃ v',e = .returned v' ∧ OwnR base w' v' (insL l j d) ∧ Below base w w' := by
 have hlen := insL_length d hj
 have hcell : ∀ (k : Nat) (u : Value),([Value.int .i64 d] : List Value)[k]? = some u → w.cell? ⟨vb,0 + k,none⟩ = some u := by
  intro k u hu
  match k,hu with
  | 0,hu => cases hu; rw [cell_of hvb]; rfl
 have hone : ∀ u ∈ ([Value.int .i64 d] : List Value),u.oneCell' = true := by
  intro u hu
  rw [List.mem_singleton] at hu
  subst hu
  rfl
 have hones : ∀ u ∈ l.map (Value.int .i64),u.oneCell' = true := by
  intro u hu
  obtain ⟨x,_,rfl⟩ := List.mem_map.1 hu
  rfl
 rcases hv with ⟨rfl,rfl⟩ | ⟨g,cap,cur,el,rfl,h2,h3,h4,h5,h6,h7⟩
 ·obtain rfl : j = 0 := by simpa using hj
  refine (Any2.slices_Insert_int_end_grow Tryd.laysIns none 0 0 vb 0 1 c2 [] [.int .i64 d] w (by omega) (by omega) (by omega) (by omega) rfl rfl (fun _ => rfl) (fun a h => by cases h) hcell hone).mono ?_
  rintro e w' ⟨rfl,rfl⟩
  refine ⟨_,rfl,.inr ⟨w.heap.size,_,_,_,rfl,hb,heap_alloc_new _ _,?_,?_,?_,?_⟩,below_drew.trans (below_alloc1 _ _ |>.mono hb)⟩
  ·exact grownCap_ge _ _ _ _
  ·exact grownCap_le_maxLen _ _ _ _ (by decide)
  ·have := grownCap_ge w (0 + 1) 0 (Tryd.laysIns_ren.t 3)
   simp only [Array.size_append,size_zeroCells,List.size_toArray,List.length_append,List.length_singleton,List.length_nil]
   have h1 : (Value.int .i64 0).cells.size = 1 := rfl
   rw [h1]
   omega
  ·intro k hk
   rw [hlen] at hk
   obtain rfl : k = 0 := by simpa using hk
   rw [Array.getElem?_append]
   rfl
 ·have hg := (Array.getElem?_eq_some_iff.1 h3).1
  have hcs : ∀ k u,(l.map (Value.int .i64))[k]? = some u → w.cell? ⟨g,0 + k,none⟩ = some u := by
   intro k u hu
   obtain ⟨q1,rfl⟩ := ints_getD hu
   rw [cell_of h3,Nat.zero_add]
   exact h7 k q1
  have hvg := hne g _ _ rfl
  have hsome : ∀ k,k < cap → (w.cell? ⟨g,0 + k,none⟩).isSome = true := by
   intro k hk
   rw [cell_of h3,Nat.zero_add,Array.getElem?_eq_getElem (by omega)]
   rfl
  have hfr : ∀ k,w.frozen? ⟨g,k,none⟩ = false := by
   intro k
   simp [World.frozen?,h3]
  by_cases hjl : j < l.length
  ·by_cases hroom : l.length + 1 ≤ cap
   ·have hcalls := Any2.slices_Insert_int_shift Tryd.laysIns g 0 l.length cap j vb 0 1 c2 (l.map (Value.int .i64)) [.int .i64 d] w hjl (by omega) hroom (by simpa [maxLen] using h5) hvg (by simp) rfl hcs (fun k hk => hsome k (by omega)) (fun k hk => hfr _) hcell hones hone el2 el 1 cur.size (by simp [World.shape?,hvb]) (by simp [World.shape?,h3]) (by omega) (by simp [World.frozen?,hvb]) (by simp [World.frozen?,hvb])
    refine hcalls.mono ?_
    rintro e w' ⟨rfl,rfl⟩
    have c1 := setCells_get g ((l.map (Value.int .i64)).drop j) (0 + (j + 1)) w.drew cur el (0,0) h3
    have c2' := setCells_get g [.int .i64 d] (0 + j) _ _ _ _ c1
    refine ⟨_,rfl,.inr ⟨g,cap,_,_,by rw [hlen],h2,c2',by omega,h5,by rw [putAll_size,putAll_size]; exact h6,?_⟩,(below_drew.trans (below_setCells h2)).trans (below_setCells h2)⟩
    intro k hk
    rw [hlen] at hk
    rw [insL_getD d hj,putAll_get,putAll_size,putAll_get]
    simp only [List.length_singleton,List.length_drop,List.length_map]
    by_cases hk1 : k < j
    ·rw [if_neg (by omega),if_neg (by omega),if_pos hk1]
     exact h7 k (by omega)
    ·by_cases hk2 : k = j
     ·rw [if_pos ⟨by omega,by omega,by omega⟩,if_neg hk1,if_pos hk2,show k - (0 + j) = 0 by omega]
      rfl
     ·rw [if_neg (by omega),if_pos ⟨by omega,by omega,by omega⟩,if_neg hk1,if_neg hk2,List.getElem?_drop,show j + (k - (0 + (j + 1))) = k - 1 by omega]
      exact ints_at (by omega)
   ·have hcalls := Any2.slices_Insert_int_grow Tryd.laysIns g 0 l.length cap j vb 0 1 c2 (l.map (Value.int .i64)) [.int .i64 d] w hjl (by omega) h4 (by omega) (by omega) (by simp) rfl hcs hcell hones hone
    refine hcalls.mono ?_
    rintro e w' ⟨rfl,rfl⟩
    obtain ⟨arr,harr⟩ : ∃ arr : Array Value,arr = ((l.map (Value.int .i64)).take j).toArray ++ Builtin.zeroCells (Value.int .i64 0).cells (l.length + 1 - j) ++ Builtin.zeroCells (Value.int .i64 0).cells (grownCap w (l.length + 1) cap (Tryd.laysIns_ren.t 3) - (l.length + 1)) := ⟨_,rfl⟩
    have hgc := grownCap_ge w (l.length + 1) cap (Tryd.laysIns_ren.t 3)
    have hasz : grownCap w (l.length + 1) cap (Tryd.laysIns_ren.t 3) ≤ arr.size := by
     rw [harr]
     simp only [Array.size_append,size_zeroCells,List.size_toArray,List.length_take,List.length_map]
     have : (Value.int .i64 0).cells.size = 1 := rfl
     rw [this]
     omega
    rw [← harr]
    have c0 : (w.alloc (.cells arr (Tryd.laysIns_ren.t 3))).drew.heap[w.heap.size]? = some (.cells arr (Tryd.laysIns_ren.t 3) (0,0)) := heap_alloc_new _ _
    have c1 := setCells_get w.heap.size [.int .i64 d] j _ arr _ (0,0) c0
    have c2' := setCells_get w.heap.size ((l.map (Value.int .i64)).drop j) (j + 1) (((w.alloc (.cells arr (Tryd.laysIns_ren.t 3))).drew.setCells w.heap.size j [.int .i64 d]).drew) _ _ _ c1
    refine ⟨_,rfl,.inr ⟨w.heap.size,_,_,_,by rw [hlen],hb,c2',by omega,grownCap_le_maxLen _ _ _ _ (by unfold maxLen; omega),by rw [putAll_size,putAll_size]; exact hasz,?_⟩,((((below_alloc1 _ _).mono hb).trans below_drew).trans (below_setCells hb)).trans (below_drew.trans (below_setCells hb))⟩
    intro k hk
    rw [hlen] at hk
    rw [insL_getD d hj,putAll_get,putAll_size,putAll_get]
    simp only [List.length_singleton,List.length_drop,List.length_map]
    by_cases hk1 : k < j
    ·rw [if_neg (by omega),if_neg (by omega),if_pos hk1,harr,Array.getElem?_append,Array.getElem?_append]
     simp only [Array.size_append,size_zeroCells,List.size_toArray,List.length_take,List.length_map,Nat.min_eq_left hj]
     rw [if_pos (by omega),if_pos hk1]
     simp only [List.getElem?_toArray,List.getElem?_take,if_pos hk1]
     exact ints_at (by omega)
    ·by_cases hk2 : k = j
     ·rw [if_neg (by omega),if_pos ⟨by omega,by omega,by omega⟩,if_neg hk1,if_pos hk2,show k - j = 0 by omega]
      rfl
     ·rw [if_pos ⟨by omega,by omega,by omega⟩,if_neg hk1,if_neg hk2,List.getElem?_drop,show j + (k - (j + 1)) = k - 1 by omega]
      exact ints_at (by omega)
  ·obtain rfl : j = l.length := by omega
   by_cases hroom : l.length + 1 ≤ cap
   ·have hcalls := Any2.slices_Insert_int_end_room Tryd.laysIns g 0 l.length cap vb 0 1 c2 [.int .i64 d] w (by omega) hroom (by simpa [maxLen] using h5) rfl (fun k hk => by have := hsome (l.length + k) (by omega); rw [Nat.add_assoc]; exact this) (fun k hk => hfr _) hcell hone
    refine hcalls.mono ?_
    rintro e w' ⟨rfl,rfl⟩
    have c1 := setCells_get g [.int .i64 d] (0 + l.length) w cur el (0,0) h3
    refine ⟨_,rfl,.inr ⟨g,cap,_,_,by rw [hlen],h2,c1,by omega,h5,by rw [putAll_size]; exact h6,?_⟩,below_setCells h2⟩
    intro k hk
    rw [hlen] at hk
    rw [insL_getD d hj,putAll_get]
    simp only [List.length_singleton]
    by_cases hk1 : k < l.length
    ·rw [if_neg (by omega),if_pos hk1]
     exact h7 k hk1
    ·rw [if_pos ⟨by omega,by omega,by omega⟩,if_neg hk1,if_pos (by omega),show k - (0 + l.length) = 0 by omega]
     rfl
   ·have hadd : ∀ a,(some ⟨g,0,none⟩ : Option Addr) = some a → ∀ k u,(l.map (Value.int .i64))[k]? = some u → w.cell? (a.add k) = some u := by
     intro a ha k u hu
     cases ha
     have h := hcs k u hu
     unfold Addr.add
     by_cases hk : k = 0
     ·subst hk
      exact h
     ·rw [if_neg hk]
      exact h
    have hcalls := Any2.slices_Insert_int_end_grow Tryd.laysIns (some ⟨g,0,none⟩) l.length cap vb 0 1 c2 (l.map (Value.int .i64)) [.int .i64 d] w (by omega) h4 (by omega) (by omega) (by simp) rfl (fun h => by cases h) hadd hcell hone
    refine hcalls.mono ?_
    rintro e w' ⟨rfl,rfl⟩
    have hgc := grownCap_ge w (l.length + 1) cap (Tryd.laysIns_ren.t 3)
    refine ⟨_,rfl,.inr ⟨w.heap.size,_,_,_,by rw [hlen],hb,heap_alloc_new _ _,by omega,grownCap_le_maxLen _ _ _ _ (by unfold maxLen; omega),?_,?_⟩,below_drew.trans ((below_alloc1 _ _).mono hb)⟩
    ·simp only [Array.size_append,size_zeroCells,List.size_toArray,List.length_append,List.length_map,List.length_singleton]
     have : (Value.int .i64 0).cells.size = 1 := rfl
     rw [this]
     omega
    ·intro k hk
     rw [hlen] at hk
     rw [insL_getD d hj,Array.getElem?_append]
     simp only [List.size_toArray,List.length_append,List.length_map,List.length_singleton]
     rw [if_pos hk,List.getElem?_toArray,List.getElem?_append]
     simp only [List.length_map]
     by_cases hk1 : k < l.length
     ·rw [if_pos hk1,if_pos hk1]
      exact ints_at hk1
     ·rw [if_neg hk1,if_neg hk1,if_pos (by omega),show k - l.length = 0 by omega]
      rfl
end Go.Di

namespace Go.Di
open Proofs
/-- A book with other open days. -/
def FBook.withOpn (x : FBook) (l : List Int) : FBook := { x with opn := l }
end Go.Di

namespace Go.Di
open Proofs
theorem fPlan_fn : FnOk PRG (MF 29) 77 (body Tryd.f77) [.tmp 2,.tmp 3] := by refine ⟨Tryd.f77,?_,?_,?_,?_,?_⟩ <;> kernel_rfl
theorem fStock_fn : FnOk PRG (MF 27) 89 (body Tryd.f89) [.tmp 2,.tmp 3] := by refine ⟨Tryd.f89,?_,?_,?_,?_,?_⟩ <;> kernel_rfl
theorem bsNil_fn : FnOk PRG (MF 54) 150 (body Tryd.f150) [.tmp 4,.tmp 5] := by refine ⟨Tryd.f150,?_,?_,?_,?_,?_⟩ <;> kernel_rfl
theorem restA_fn : FnOk PRG (MF 82) 92 (body Tryd.f92) [.tmp 2,.tmp 3] := by refine ⟨Tryd.f92,?_,?_,?_,?_,?_⟩ <;> kernel_rfl
theorem restB_fn : FnOk PRG (MF 82) 92 (body Tryd.f92) [.tmp 2,.tmp 3] := by refine ⟨Tryd.f92,?_,?_,?_,?_,?_⟩ <;> kernel_rfl
def bsNil_S0 (d : Int)  : List (Key × Val) :=
 [(.tmp 0,.d (D.sl false E.int [])),
  (.tmp 1,.d (D.int .i64 d)),
  (.tmp 6,.d (D.int .i64 ((Nat.cast : Nat → Int) 0))),
  (.tmp 7,.d (D.int .i64 0)),
  (.tmp 8,.d (D.int .i64 ((Nat.cast : Nat → Int) 0)))]
def bsNil_K0 : List Key := [.tmp 0,.tmp 1,.tmp 6,.tmp 7,.tmp 8]
def restA_RK12 : List Key := [.tmp 1,.tmp 4,.tmp 7,.tmp 8,.tmp 9,.tmp 10,.tmp 11,.tmp 13,.tmp 35,.tmp 36,.box 1,.box 4,.box 13]
def restA_RS12 (x : FBook) (m : Mp) (th : List (List Int)) (wr : List Int) (k v : Int) (i j : Nat) (u : List Int)  : List (Key × Val) :=
 [(.tmp 1,.d (D.ptr 1 0)),
  (.tmp 4,.d (D.ptr 4 0)),
  (.tmp 7,.d (D.bool false)),
  (.tmp 8,.d (.int .i64 k)),
  (.tmp 9,.d (.int .i64 v)),
  (.tmp 10,.d (.int .i64 i)),
  (.tmp 13,.d (D.ptr 13 0)),
  (.tmp 35,.d (D.int .i64 (Book.days (FBook.chain x) + (1 : Int)))),
  (.tmp 36,.d (.int .i64 i)),
  (.box 1,.bx (some (Box.mk false (cellsOf (fbookD x))))),
  (.box 4,.bx (some (Box.mk false (cellsOf (fbkD x m th wr))))),
  (.box 13,.bx (some ⟨false,cellsOf (fbkD (x.withOpn u) m th wr)⟩))]
def restA_S0 (x : FBook) (m : Mp) (th : List (List Int)) (wr : List Int) (k v : Int) (i : Nat) : List (Key × Val) :=
 [(.tmp 1,.d (D.ptr 1 0)),
  (.tmp 4,.d (D.ptr 4 0)),
  (.tmp 7,.d (D.bool false)),
  (.tmp 8,.d (.int .i64 k)),
  (.tmp 9,.d (.int .i64 v)),
  (.tmp 35,.d (D.int .i64 (Book.days (FBook.chain x) + (1 : Int)))),
  (.tmp 36,.d (.int .i64 i)),
  (.box 1,.bx (some (Box.mk false (cellsOf (fbookD x))))),
  (.box 4,.bx (some (Box.mk false (cellsOf (fbkD x m th wr)))))]
def restA_K0 : List Key := [.tmp 1,.tmp 4,.tmp 7,.tmp 8,.tmp 9,.tmp 35,.tmp 36,.box 1,.box 4]
def restB_RK12 : List Key := [.tmp 1,.tmp 4,.tmp 7,.tmp 8,.tmp 9,.tmp 10,.tmp 11,.tmp 13,.tmp 35,.tmp 36,.box 1,.box 4,.box 13]
def restB_RS12 (x : FBook) (m : Mp) (th : List (List Int)) (wr : List Int) (k v : Int) (i j : Nat) (u : List Int)  : List (Key × Val) :=
 [(.tmp 1,.d (D.ptr 1 0)),
  (.tmp 4,.d (D.ptr 4 0)),
  (.tmp 7,.d (D.bool true)),
  (.tmp 8,.d (.int .i64 k)),
  (.tmp 9,.d (.int .i64 v)),
  (.tmp 10,.d (.int .i64 i)),
  (.tmp 13,.d (D.ptr 13 0)),
  (.tmp 35,.d (D.int .i64 (Book.days (FBook.chain x) + (1 : Int)))),
  (.tmp 36,.d (.int .i64 i)),
  (.box 1,.bx (some (Box.mk false (cellsOf (fbookD x))))),
  (.box 4,.bx (some (Box.mk false (cellsOf (fbkD x m th wr))))),
  (.box 13,.bx (some ⟨false,cellsOf (fbkD (x.withOpn u) m th wr)⟩))]
def restB_S0 (x : FBook) (m : Mp) (th : List (List Int)) (wr : List Int) (k v : Int) (i : Nat) : List (Key × Val) :=
 [(.tmp 1,.d (D.ptr 1 0)),
  (.tmp 4,.d (D.ptr 4 0)),
  (.tmp 7,.d (D.bool true)),
  (.tmp 8,.d (.int .i64 k)),
  (.tmp 9,.d (.int .i64 v)),
  (.tmp 35,.d (D.int .i64 (Book.days (FBook.chain x) + (1 : Int)))),
  (.tmp 36,.d (.int .i64 i)),
  (.box 1,.bx (some (Box.mk false (cellsOf (fbookD x))))),
  (.box 4,.bx (some (Box.mk false (cellsOf (fbkD x m th wr)))))]
def restB_K0 : List Key := [.tmp 1,.tmp 4,.tmp 7,.tmp 8,.tmp 9,.tmp 35,.tmp 36,.box 1,.box 4]
theorem bsNil_0_end (d : Int) :
  runK (MF 54) [(15,false)] [] [] (Code.at [1,1,1,0,0,0] (body Tryd.f150)) (bsNil_S0 d ) bsNil_K0 =
   some ([decide ((0 : Int) < (Nat.cast : Nat → Int) 0) = false],Ex.exit 0,bsNil_S0 d) := by kernel_rfl
theorem restA_0_skip (x : FBook) (m : Mp) (th : List (List Int)) (wr : List Int) (k v : Int) (i : Nat) (j : Nat) :
  runK (MF 82) [(37,true)] [(43,.tup [.int .i64 j,.bool true])] [] (Code.at [1,1,1,1,1,0,1,0,0] (body Tryd.f92)) (restA_S0 x m th wr k v i) restA_K0 =
   some ([decide ((i : Int) < Book.days (FBook.chain x) + (1 : Int)) = true,CF 150 [D.sl false E.int (FBook.opn x),D.int .i64 (i : Int)] (D.tup [D.int .i64 (j : Int),D.bool true]),inI64 ((i : Int) + (1 : Int))],Ex.normal,restA_S0 x m th wr k v (i + 1)) := by kernel_rfl
theorem restA_0_no (x : FBook) (m : Mp) (th : List (List Int)) (wr : List Int) (k v : Int) (i : Nat) (j : Nat) (u : List Int) (q : List Work) :
  runK (MF 82) [(37,true)] [(43,.tup [.int .i64 j,.bool false]),(59,.tup [.sl false .work q,.bool false])] [(1012,(restA_RK12,(.normal,restA_RS12 x m th wr k v i j u)))] (Code.at [1,1,1,1,1,0,1,0,0] (body Tryd.f92)) (restA_S0 x m th wr k v i) restA_K0 =
   some ([decide ((i : Int) < Book.days (FBook.chain x) + (1 : Int)) = true,CF 150 [D.sl false E.int (FBook.opn x),D.int .i64 (i : Int)] (D.tup [D.int .i64 (j : Int),D.bool false]),LF 82 (Code.at [1,1,1,1,1,0,1,0,0,1,1,0,0,1,1,1,1,0] (body Tryd.f92)) [(.tmp 1,.d (D.ptr 1 0)),(.tmp 4,.d (D.ptr 4 0)),(.tmp 7,.d (D.bool false)),(.tmp 8,.d (D.int .i64 k)),(.tmp 9,.d (D.int .i64 v)),(.tmp 10,.d (D.int .i64 (i : Int))),(.tmp 11,.d (D.int .i64 (j : Int))),(.tmp 13,.d (D.ptr 13 0)),(.tmp 35,.d (D.int .i64 (Book.days (FBook.chain x) + (1 : Int)))),(.tmp 36,.d (D.int .i64 (i : Int))),(.box 1,.bx (some (Box.mk false (cellsOf (fbookD x))))),(.box 4,.bx (some (Box.mk false (cellsOf (fbkD x m th wr))))),(.box 13,.bx (some (Box.mk false (cellsOf (fbkD x m th wr)))))] Ex.normal (restA_RS12 x m th wr k v i j u),CF 139 [D.agg [D.sl false E.sec (Book.secs (FBook.chain (FBook.withOpn x u))),D.sl false E.int (Book.turns (FBook.chain (FBook.withOpn x u))),D.sl false E.sv (Book.svs (FBook.chain (FBook.withOpn x u))),D.int .i64 (Book.rule (FBook.chain (FBook.withOpn x u))),D.int .i64 (Book.days (FBook.chain (FBook.withOpn x u))),D.sl false E.int (FBook.feet (FBook.withOpn x u)),D.int .i64 (FBook.new (FBook.withOpn x u)),D.sl false E.int (FBook.opn (FBook.withOpn x u)),D.int .i64 (FBook.stock (FBook.withOpn x u)),D.int .i64 (FBook.make (FBook.withOpn x u)),D.map m,D.sl false (E.list E.int) th,D.sl false E.int wr]] (D.tup [D.sl false E.work q,D.bool false]),inI64 ((i : Int) + (1 : Int))],Ex.normal,restA_S0 x m th wr k v (i + 1)) := by kernel_rfl
theorem restA_0_end (x : FBook) (m : Mp) (th : List (List Int)) (wr : List Int) (k v : Int) (i : Nat) :
  runK (MF 82) [(37,false)] [] [] (Code.at [1,1,1,1,1,0,1,0,0] (body Tryd.f92)) (restA_S0 x m th wr k v i) restA_K0 =
   some ([decide ((i : Int) < Book.days (FBook.chain x) + (1 : Int)) = false],Ex.exit 0,restA_S0 x m th wr k v i) := by kernel_rfl
theorem restA_0_first (x : FBook) (m : Mp) (th : List (List Int)) (wr : List Int) (k v : Int) (i : Nat) (j : Nat) (u : List Int) (q : List Work) (y : Int) :
  runK (MF 82) [(37,true)] [(43,.tup [.int .i64 j,.bool false]),(59,.tup [.sl false .work q,.bool true]),(77,.int .i64 y)] [(1012,(restA_RK12,(.normal,restA_RS12 x m th wr k v i j u)))] (Code.at [1,1,1,1,1,0,1,0,0] (body Tryd.f92)) (restA_S0 x m th wr k v i) restB_K0 =
   some ([decide ((i : Int) < Book.days (FBook.chain x) + (1 : Int)) = true,CF 150 [D.sl false E.int (FBook.opn x),D.int .i64 (i : Int)] (D.tup [D.int .i64 (j : Int),D.bool false]),LF 82 (Code.at [1,1,1,1,1,0,1,0,0,1,1,0,0,1,1,1,1,0] (body Tryd.f92)) [(.tmp 1,.d (D.ptr 1 0)),(.tmp 4,.d (D.ptr 4 0)),(.tmp 7,.d (D.bool false)),(.tmp 8,.d (D.int .i64 k)),(.tmp 9,.d (D.int .i64 v)),(.tmp 10,.d (D.int .i64 (i : Int))),(.tmp 11,.d (D.int .i64 (j : Int))),(.tmp 13,.d (D.ptr 13 0)),(.tmp 35,.d (D.int .i64 (Book.days (FBook.chain x) + (1 : Int)))),(.tmp 36,.d (D.int .i64 (i : Int))),(.box 1,.bx (some (Box.mk false (cellsOf (fbookD x))))),(.box 4,.bx (some (Box.mk false (cellsOf (fbkD x m th wr))))),(.box 13,.bx (some (Box.mk false (cellsOf (fbkD x m th wr)))))] Ex.normal (restA_RS12 x m th wr k v i j u),CF 139 [D.agg [D.sl false E.sec (Book.secs (FBook.chain (FBook.withOpn x u))),D.sl false E.int (Book.turns (FBook.chain (FBook.withOpn x u))),D.sl false E.sv (Book.svs (FBook.chain (FBook.withOpn x u))),D.int .i64 (Book.rule (FBook.chain (FBook.withOpn x u))),D.int .i64 (Book.days (FBook.chain (FBook.withOpn x u))),D.sl false E.int (FBook.feet (FBook.withOpn x u)),D.int .i64 (FBook.new (FBook.withOpn x u)),D.sl false E.int (FBook.opn (FBook.withOpn x u)),D.int .i64 (FBook.stock (FBook.withOpn x u)),D.int .i64 (FBook.make (FBook.withOpn x u)),D.map m,D.sl false (E.list E.int) th,D.sl false E.int wr]] (D.tup [D.sl false E.work q,D.bool true]),CF 147 [fbkD x m th wr,D.sl false E.work q] (D.int .i64 y),inI64 ((i : Int) + (1 : Int))],Ex.normal,restB_S0 x m th wr (i : Int) y (i + 1)) := by kernel_rfl
theorem restB_0_skip (x : FBook) (m : Mp) (th : List (List Int)) (wr : List Int) (k v : Int) (i : Nat) (j : Nat) :
  runK (MF 82) [(37,true)] [(43,.tup [.int .i64 j,.bool true])] [] (Code.at [1,1,1,1,1,0,1,0,0] (body Tryd.f92)) (restB_S0 x m th wr k v i) restB_K0 =
   some ([decide ((i : Int) < Book.days (FBook.chain x) + (1 : Int)) = true,CF 150 [D.sl false E.int (FBook.opn x),D.int .i64 (i : Int)] (D.tup [D.int .i64 (j : Int),D.bool true]),inI64 ((i : Int) + (1 : Int))],Ex.normal,restB_S0 x m th wr k v (i + 1)) := by kernel_rfl
theorem restB_0_no (x : FBook) (m : Mp) (th : List (List Int)) (wr : List Int) (k v : Int) (i : Nat) (j : Nat) (u : List Int) (q : List Work) :
  runK (MF 82) [(37,true)] [(43,.tup [.int .i64 j,.bool false]),(59,.tup [.sl false .work q,.bool false])] [(1012,(restB_RK12,(.normal,restB_RS12 x m th wr k v i j u)))] (Code.at [1,1,1,1,1,0,1,0,0] (body Tryd.f92)) (restB_S0 x m th wr k v i) restB_K0 =
   some ([decide ((i : Int) < Book.days (FBook.chain x) + (1 : Int)) = true,CF 150 [D.sl false E.int (FBook.opn x),D.int .i64 (i : Int)] (D.tup [D.int .i64 (j : Int),D.bool false]),LF 82 (Code.at [1,1,1,1,1,0,1,0,0,1,1,0,0,1,1,1,1,0] (body Tryd.f92)) [(.tmp 1,.d (D.ptr 1 0)),(.tmp 4,.d (D.ptr 4 0)),(.tmp 7,.d (D.bool true)),(.tmp 8,.d (D.int .i64 k)),(.tmp 9,.d (D.int .i64 v)),(.tmp 10,.d (D.int .i64 (i : Int))),(.tmp 11,.d (D.int .i64 (j : Int))),(.tmp 13,.d (D.ptr 13 0)),(.tmp 35,.d (D.int .i64 (Book.days (FBook.chain x) + (1 : Int)))),(.tmp 36,.d (D.int .i64 (i : Int))),(.box 1,.bx (some (Box.mk false (cellsOf (fbookD x))))),(.box 4,.bx (some (Box.mk false (cellsOf (fbkD x m th wr))))),(.box 13,.bx (some (Box.mk false (cellsOf (fbkD x m th wr)))))] Ex.normal (restB_RS12 x m th wr k v i j u),CF 139 [D.agg [D.sl false E.sec (Book.secs (FBook.chain (FBook.withOpn x u))),D.sl false E.int (Book.turns (FBook.chain (FBook.withOpn x u))),D.sl false E.sv (Book.svs (FBook.chain (FBook.withOpn x u))),D.int .i64 (Book.rule (FBook.chain (FBook.withOpn x u))),D.int .i64 (Book.days (FBook.chain (FBook.withOpn x u))),D.sl false E.int (FBook.feet (FBook.withOpn x u)),D.int .i64 (FBook.new (FBook.withOpn x u)),D.sl false E.int (FBook.opn (FBook.withOpn x u)),D.int .i64 (FBook.stock (FBook.withOpn x u)),D.int .i64 (FBook.make (FBook.withOpn x u)),D.map m,D.sl false (E.list E.int) th,D.sl false E.int wr]] (D.tup [D.sl false E.work q,D.bool false]),inI64 ((i : Int) + (1 : Int))],Ex.normal,restB_S0 x m th wr k v (i + 1)) := by kernel_rfl
theorem restB_0_end (x : FBook) (m : Mp) (th : List (List Int)) (wr : List Int) (k v : Int) (i : Nat) :
  runK (MF 82) [(37,false)] [] [] (Code.at [1,1,1,1,1,0,1,0,0] (body Tryd.f92)) (restB_S0 x m th wr k v i) restB_K0 =
   some ([decide ((i : Int) < Book.days (FBook.chain x) + (1 : Int)) = false],Ex.exit 0,restB_S0 x m th wr k v i) := by kernel_rfl
theorem restB_0_worse (x : FBook) (m : Mp) (th : List (List Int)) (wr : List Int) (k v : Int) (i : Nat) (j : Nat) (u : List Int) (q : List Work) (y : Int) :
  runK (MF 82) [(37,true),(73,false)] [(43,.tup [.int .i64 j,.bool false]),(59,.tup [.sl false .work q,.bool true]),(69,.int .i64 y)] [(1012,(restB_RK12,(.normal,restB_RS12 x m th wr k v i j u)))] (Code.at [1,1,1,1,1,0,1,0,0] (body Tryd.f92)) (restB_S0 x m th wr k v i) restB_K0 =
   some ([decide ((i : Int) < Book.days (FBook.chain x) + (1 : Int)) = true,CF 150 [D.sl false E.int (FBook.opn x),D.int .i64 (i : Int)] (D.tup [D.int .i64 (j : Int),D.bool false]),LF 82 (Code.at [1,1,1,1,1,0,1,0,0,1,1,0,0,1,1,1,1,0] (body Tryd.f92)) [(.tmp 1,.d (D.ptr 1 0)),(.tmp 4,.d (D.ptr 4 0)),(.tmp 7,.d (D.bool true)),(.tmp 8,.d (D.int .i64 k)),(.tmp 9,.d (D.int .i64 v)),(.tmp 10,.d (D.int .i64 (i : Int))),(.tmp 11,.d (D.int .i64 (j : Int))),(.tmp 13,.d (D.ptr 13 0)),(.tmp 35,.d (D.int .i64 (Book.days (FBook.chain x) + (1 : Int)))),(.tmp 36,.d (D.int .i64 (i : Int))),(.box 1,.bx (some (Box.mk false (cellsOf (fbookD x))))),(.box 4,.bx (some (Box.mk false (cellsOf (fbkD x m th wr))))),(.box 13,.bx (some (Box.mk false (cellsOf (fbkD x m th wr)))))] Ex.normal (restB_RS12 x m th wr k v i j u),CF 139 [D.agg [D.sl false E.sec (Book.secs (FBook.chain (FBook.withOpn x u))),D.sl false E.int (Book.turns (FBook.chain (FBook.withOpn x u))),D.sl false E.sv (Book.svs (FBook.chain (FBook.withOpn x u))),D.int .i64 (Book.rule (FBook.chain (FBook.withOpn x u))),D.int .i64 (Book.days (FBook.chain (FBook.withOpn x u))),D.sl false E.int (FBook.feet (FBook.withOpn x u)),D.int .i64 (FBook.new (FBook.withOpn x u)),D.sl false E.int (FBook.opn (FBook.withOpn x u)),D.int .i64 (FBook.stock (FBook.withOpn x u)),D.int .i64 (FBook.make (FBook.withOpn x u)),D.map m,D.sl false (E.list E.int) th,D.sl false E.int wr]] (D.tup [D.sl false E.work q,D.bool true]),CF 147 [fbkD x m th wr,D.sl false E.work q] (D.int .i64 y),decide (y < v) = false,inI64 ((i : Int) + (1 : Int))],Ex.normal,restB_S0 x m th wr k v (i + 1)) := by kernel_rfl
theorem restB_0_better (x : FBook) (m : Mp) (th : List (List Int)) (wr : List Int) (k v : Int) (i : Nat) (j : Nat) (u : List Int) (q : List Work) (y : Int) :
  runK (MF 82) [(37,true),(73,true)] [(43,.tup [.int .i64 j,.bool false]),(59,.tup [.sl false .work q,.bool true]),(69,.int .i64 y),(77,.int .i64 y)] [(1012,(restB_RK12,(.normal,restB_RS12 x m th wr k v i j u)))] (Code.at [1,1,1,1,1,0,1,0,0] (body Tryd.f92)) (restB_S0 x m th wr k v i) restB_K0 =
   some ([decide ((i : Int) < Book.days (FBook.chain x) + (1 : Int)) = true,CF 150 [D.sl false E.int (FBook.opn x),D.int .i64 (i : Int)] (D.tup [D.int .i64 (j : Int),D.bool false]),LF 82 (Code.at [1,1,1,1,1,0,1,0,0,1,1,0,0,1,1,1,1,0] (body Tryd.f92)) [(.tmp 1,.d (D.ptr 1 0)),(.tmp 4,.d (D.ptr 4 0)),(.tmp 7,.d (D.bool true)),(.tmp 8,.d (D.int .i64 k)),(.tmp 9,.d (D.int .i64 v)),(.tmp 10,.d (D.int .i64 (i : Int))),(.tmp 11,.d (D.int .i64 (j : Int))),(.tmp 13,.d (D.ptr 13 0)),(.tmp 35,.d (D.int .i64 (Book.days (FBook.chain x) + (1 : Int)))),(.tmp 36,.d (D.int .i64 (i : Int))),(.box 1,.bx (some (Box.mk false (cellsOf (fbookD x))))),(.box 4,.bx (some (Box.mk false (cellsOf (fbkD x m th wr))))),(.box 13,.bx (some (Box.mk false (cellsOf (fbkD x m th wr)))))] Ex.normal (restB_RS12 x m th wr k v i j u),CF 139 [D.agg [D.sl false E.sec (Book.secs (FBook.chain (FBook.withOpn x u))),D.sl false E.int (Book.turns (FBook.chain (FBook.withOpn x u))),D.sl false E.sv (Book.svs (FBook.chain (FBook.withOpn x u))),D.int .i64 (Book.rule (FBook.chain (FBook.withOpn x u))),D.int .i64 (Book.days (FBook.chain (FBook.withOpn x u))),D.sl false E.int (FBook.feet (FBook.withOpn x u)),D.int .i64 (FBook.new (FBook.withOpn x u)),D.sl false E.int (FBook.opn (FBook.withOpn x u)),D.int .i64 (FBook.stock (FBook.withOpn x u)),D.int .i64 (FBook.make (FBook.withOpn x u)),D.map m,D.sl false (E.list E.int) th,D.sl false E.int wr]] (D.tup [D.sl false E.work q,D.bool true]),CF 147 [fbkD x m th wr,D.sl false E.work q] (D.int .i64 y),decide (y < v) = true,CF 147 [fbkD x m th wr,D.sl false E.work q] (D.int .i64 y),inI64 ((i : Int) + (1 : Int))],Ex.normal,restB_S0 x m th wr (i : Int) y (i + 1)) := by kernel_rfl
theorem fPlan_errz (x : FBook) (e : Int) :
  callF (MF 29) [(14,true)] [(10,.tup [zfbkD,.int .i64 e])] [] (body Tryd.f77) [.tmp 2,.tmp 3] [fbookD x] =
   some ([CF 137 [fbookD x,D.fn 138 [] []] (D.tup [D.agg [D.nil,D.nil,D.nil,D.int .i64 0,D.int .i64 0,D.nil,D.int .i64 0,D.nil,D.int .i64 0,D.int .i64 0,D.nilmap,D.nil,D.nil],D.int .i64 e]),(e != (0 : Int)) = true],D.tup [D.sl true E.work [],D.int .i64 e]) := by kernel_rfl
theorem fPlan_erro (x : FBook) (l : List (K2 × Bool)) (e : Int) :
  callF (MF 29) [(14,true)] [(10,.tup [fopD x l,.int .i64 e])] [] (body Tryd.f77) [.tmp 2,.tmp 3] [fbookD x] =
   some ([CF 137 [fbookD x,D.fn 138 [] []] (D.tup [fopD x l,D.int .i64 e]),(e != (0 : Int)) = true],D.tup [D.sl true E.work [],D.int .i64 e]) := by kernel_rfl
theorem fPlan_none (x : FBook) (m : Mp) (th : List (List Int)) (wr : List Int) (p : List Work) :
  callF (MF 29) [] [(10,.tup [fbkD x m th wr,.int .i64 0]),(18,.tup [.sl false .work p,.bool false])] [] (body Tryd.f77) [.tmp 2,.tmp 3] [fbookD x] =
   some ([CF 137 [fbookD x,D.fn 138 [] []] (D.tup [fbkD x m th wr,D.int .i64 0]),CF 139 [fbkD x m th wr] (D.tup [D.sl false E.work p,D.bool false])],D.tup [D.sl true E.work [],D.int .i64 4]) := by kernel_rfl
theorem fPlan_some (x : FBook) (m : Mp) (th : List (List Int)) (wr : List Int) (p : List Work) :
  callF (MF 29) [] [(10,.tup [fbkD x m th wr,.int .i64 0]),(18,.tup [.sl false .work p,.bool true])] [] (body Tryd.f77) [.tmp 2,.tmp 3] [fbookD x] =
   some ([CF 137 [fbookD x,D.fn 138 [] []] (D.tup [fbkD x m th wr,D.int .i64 0]),CF 139 [fbkD x m th wr] (D.tup [D.sl false E.work p,D.bool true]),(0 : Int) ≤ (0 : Int) ∧ (0 : Int) ≤ (List.length p : Int) ∧ (List.length p : Int) ≤ (List.length p : Int) ∧ (List.length p : Int) = (List.length p : Int)],D.tup [D.sl true E.work (List.drop 0 (List.take (Int.toNat ((List.length p : Int))) p)),D.int .i64 0]) := by kernel_rfl
theorem fStock_errz (x : FBook) (e : Int) :
  callF (MF 27) [(14,true)] [(10,.tup [zfbkD,.int .i64 e])] [] (body Tryd.f89) [.tmp 2,.tmp 3] [fbookD x] =
   some ([CF 137 [fbookD x,D.fn 138 [] []] (D.tup [D.agg [D.nil,D.nil,D.nil,D.int .i64 0,D.int .i64 0,D.nil,D.int .i64 0,D.nil,D.int .i64 0,D.int .i64 0,D.nilmap,D.nil,D.nil],D.int .i64 e]),(e != (0 : Int)) = true],D.tup [D.int .i64 0,D.int .i64 e]) := by kernel_rfl
theorem fStock_erro (x : FBook) (l : List (K2 × Bool)) (e : Int) :
  callF (MF 27) [(14,true)] [(10,.tup [fopD x l,.int .i64 e])] [] (body Tryd.f89) [.tmp 2,.tmp 3] [fbookD x] =
   some ([CF 137 [fbookD x,D.fn 138 [] []] (D.tup [fopD x l,D.int .i64 e]),(e != (0 : Int)) = true],D.tup [D.int .i64 0,D.int .i64 e]) := by kernel_rfl
theorem bsNil_all (d : Int) :
  callF (MF 54) [] [] [(0,(bsNil_K0,(.normal,bsNil_S0 d)))] (body Tryd.f150) [.tmp 4,.tmp 5] [.sl false .int [],.int .i64 d] =
   some ([LF 54 (Code.at [1,1,1,0] (body Tryd.f150)) [(.tmp 0,.d (D.sl false E.int [])),(.tmp 1,.d (D.int .i64 d)),(.tmp 6,.d (D.int .i64 ((Nat.cast : Nat → Int) 0))),(.tmp 7,.d (D.int .i64 0)),(.tmp 8,.d (D.int .i64 ((Nat.cast : Nat → Int) 0)))] Ex.normal (bsNil_S0 d)],D.tup [D.int .i64 0,D.bool false]) := by kernel_rfl
theorem restA_errz (x : FBook) (e : Int) :
  callF (MF 82) [(22,true)] [(18,.tup [zfbkD,.int .i64 e])] [] (body Tryd.f92) [.tmp 2,.tmp 3] [fbookD x] =
   some ([CF 137 [fbookD x,D.fn 138 [] []] (D.tup [D.agg [D.nil,D.nil,D.nil,D.int .i64 0,D.int .i64 0,D.nil,D.int .i64 0,D.nil,D.int .i64 0,D.int .i64 0,D.nilmap,D.nil,D.nil],D.int .i64 e]),(e != (0 : Int)) = true],D.tup [D.int .i64 0,D.int .i64 e]) := by kernel_rfl
theorem restA_erro (x : FBook) (l : List (K2 × Bool)) (e : Int) :
  callF (MF 82) [(22,true)] [(18,.tup [fopD x l,.int .i64 e])] [] (body Tryd.f92) [.tmp 2,.tmp 3] [fbookD x] =
   some ([CF 137 [fbookD x,D.fn 138 [] []] (D.tup [fopD x l,D.int .i64 e]),(e != (0 : Int)) = true],D.tup [D.int .i64 0,D.int .i64 e]) := by kernel_rfl
theorem restA_Anone (x : FBook) (m : Mp) (th : List (List Int)) (wr : List Int) (p : List Work) (v : Int) (k y : Int) (i : Nat) :
  callF (MF 82) [(80,true)] [(18,.tup [fbkD x m th wr,.int .i64 0]),(26,.tup [.sl false .work p,.bool false]),(31,.int .i64 v)] [(0,(restA_K0,(.normal,restA_S0 x m th wr k y i)))] (body Tryd.f92) [.tmp 2,.tmp 3] [fbookD x] =
   some ([CF 137 [fbookD x,D.fn 138 [] []] (D.tup [fbkD x m th wr,D.int .i64 0]),CF 139 [fbkD x m th wr] (D.tup [D.sl false E.work p,D.bool false]),CF 147 [fbkD x m th wr,D.sl false E.work p] (D.int .i64 v),inI64 (Book.days (FBook.chain x) + (1 : Int)),LF 82 (Code.at [1,1,1,1,1,0,1] (body Tryd.f92)) [(.tmp 1,.d (D.ptr 1 0)),(.tmp 4,.d (D.ptr 4 0)),(.tmp 7,.d (D.bool false)),(.tmp 8,.d (D.int .i64 (-(1 : Int)))),(.tmp 9,.d (D.int .i64 v)),(.tmp 35,.d (D.int .i64 (Book.days (FBook.chain x) + (1 : Int)))),(.tmp 36,.d (D.int .i64 0)),(.box 1,.bx (some (Box.mk false (cellsOf (fbookD x))))),(.box 4,.bx (some (Box.mk false (cellsOf (fbkD x m th wr)))))] Ex.normal (restA_S0 x m th wr k y i),decide (k < (0 : Int)) = true],D.tup [D.int .i64 0,D.int .i64 4]) := by kernel_rfl
theorem restA_Asome (x : FBook) (m : Mp) (th : List (List Int)) (wr : List Int) (p : List Work) (v : Int) (k y : Int) (i : Nat) :
  callF (MF 82) [(80,false)] [(18,.tup [fbkD x m th wr,.int .i64 0]),(26,.tup [.sl false .work p,.bool false]),(31,.int .i64 v)] [(0,(restA_K0,(.normal,restA_S0 x m th wr k y i)))] (body Tryd.f92) [.tmp 2,.tmp 3] [fbookD x] =
   some ([CF 137 [fbookD x,D.fn 138 [] []] (D.tup [fbkD x m th wr,D.int .i64 0]),CF 139 [fbkD x m th wr] (D.tup [D.sl false E.work p,D.bool false]),CF 147 [fbkD x m th wr,D.sl false E.work p] (D.int .i64 v),inI64 (Book.days (FBook.chain x) + (1 : Int)),LF 82 (Code.at [1,1,1,1,1,0,1] (body Tryd.f92)) [(.tmp 1,.d (D.ptr 1 0)),(.tmp 4,.d (D.ptr 4 0)),(.tmp 7,.d (D.bool false)),(.tmp 8,.d (D.int .i64 (-(1 : Int)))),(.tmp 9,.d (D.int .i64 v)),(.tmp 35,.d (D.int .i64 (Book.days (FBook.chain x) + (1 : Int)))),(.tmp 36,.d (D.int .i64 0)),(.box 1,.bx (some (Box.mk false (cellsOf (fbookD x))))),(.box 4,.bx (some (Box.mk false (cellsOf (fbkD x m th wr)))))] Ex.normal (restA_S0 x m th wr k y i),decide (k < (0 : Int)) = false],D.tup [D.int .i64 k,D.int .i64 0]) := by kernel_rfl
theorem restA_Bnone (x : FBook) (m : Mp) (th : List (List Int)) (wr : List Int) (p : List Work) (v : Int) (k y : Int) (i : Nat) :
  callF (MF 82) [(80,true)] [(18,.tup [fbkD x m th wr,.int .i64 0]),(26,.tup [.sl false .work p,.bool false]),(31,.int .i64 v)] [(0,(restA_K0,(.normal,restB_S0 x m th wr k y i)))] (body Tryd.f92) [.tmp 2,.tmp 3] [fbookD x] =
   some ([CF 137 [fbookD x,D.fn 138 [] []] (D.tup [fbkD x m th wr,D.int .i64 0]),CF 139 [fbkD x m th wr] (D.tup [D.sl false E.work p,D.bool false]),CF 147 [fbkD x m th wr,D.sl false E.work p] (D.int .i64 v),inI64 (Book.days (FBook.chain x) + (1 : Int)),LF 82 (Code.at [1,1,1,1,1,0,1] (body Tryd.f92)) [(.tmp 1,.d (D.ptr 1 0)),(.tmp 4,.d (D.ptr 4 0)),(.tmp 7,.d (D.bool false)),(.tmp 8,.d (D.int .i64 (-(1 : Int)))),(.tmp 9,.d (D.int .i64 v)),(.tmp 35,.d (D.int .i64 (Book.days (FBook.chain x) + (1 : Int)))),(.tmp 36,.d (D.int .i64 0)),(.box 1,.bx (some (Box.mk false (cellsOf (fbookD x))))),(.box 4,.bx (some (Box.mk false (cellsOf (fbkD x m th wr)))))] Ex.normal (restB_S0 x m th wr k y i),decide (k < (0 : Int)) = true],D.tup [D.int .i64 0,D.int .i64 4]) := by kernel_rfl
theorem restA_Bsome (x : FBook) (m : Mp) (th : List (List Int)) (wr : List Int) (p : List Work) (v : Int) (k y : Int) (i : Nat) :
  callF (MF 82) [(80,false)] [(18,.tup [fbkD x m th wr,.int .i64 0]),(26,.tup [.sl false .work p,.bool false]),(31,.int .i64 v)] [(0,(restA_K0,(.normal,restB_S0 x m th wr k y i)))] (body Tryd.f92) [.tmp 2,.tmp 3] [fbookD x] =
   some ([CF 137 [fbookD x,D.fn 138 [] []] (D.tup [fbkD x m th wr,D.int .i64 0]),CF 139 [fbkD x m th wr] (D.tup [D.sl false E.work p,D.bool false]),CF 147 [fbkD x m th wr,D.sl false E.work p] (D.int .i64 v),inI64 (Book.days (FBook.chain x) + (1 : Int)),LF 82 (Code.at [1,1,1,1,1,0,1] (body Tryd.f92)) [(.tmp 1,.d (D.ptr 1 0)),(.tmp 4,.d (D.ptr 4 0)),(.tmp 7,.d (D.bool false)),(.tmp 8,.d (D.int .i64 (-(1 : Int)))),(.tmp 9,.d (D.int .i64 v)),(.tmp 35,.d (D.int .i64 (Book.days (FBook.chain x) + (1 : Int)))),(.tmp 36,.d (D.int .i64 0)),(.box 1,.bx (some (Box.mk false (cellsOf (fbookD x))))),(.box 4,.bx (some (Box.mk false (cellsOf (fbkD x m th wr)))))] Ex.normal (restB_S0 x m th wr k y i),decide (k < (0 : Int)) = false],D.tup [D.int .i64 k,D.int .i64 0]) := by kernel_rfl
theorem restB_Bnone (x : FBook) (m : Mp) (th : List (List Int)) (wr : List Int) (p : List Work) (v : Int) (k y : Int) (i : Nat) :
  callF (MF 82) [(80,true)] [(18,.tup [fbkD x m th wr,.int .i64 0]),(26,.tup [.sl false .work p,.bool true]),(31,.int .i64 v)] [(0,(restB_K0,(.normal,restB_S0 x m th wr k y i)))] (body Tryd.f92) [.tmp 2,.tmp 3] [fbookD x] =
   some ([CF 137 [fbookD x,D.fn 138 [] []] (D.tup [fbkD x m th wr,D.int .i64 0]),CF 139 [fbkD x m th wr] (D.tup [D.sl false E.work p,D.bool true]),CF 147 [fbkD x m th wr,D.sl false E.work p] (D.int .i64 v),inI64 (Book.days (FBook.chain x) + (1 : Int)),LF 82 (Code.at [1,1,1,1,1,0,1] (body Tryd.f92)) [(.tmp 1,.d (D.ptr 1 0)),(.tmp 4,.d (D.ptr 4 0)),(.tmp 7,.d (D.bool true)),(.tmp 8,.d (D.int .i64 (-(1 : Int)))),(.tmp 9,.d (D.int .i64 v)),(.tmp 35,.d (D.int .i64 (Book.days (FBook.chain x) + (1 : Int)))),(.tmp 36,.d (D.int .i64 0)),(.box 1,.bx (some (Box.mk false (cellsOf (fbookD x))))),(.box 4,.bx (some (Box.mk false (cellsOf (fbkD x m th wr)))))] Ex.normal (restB_S0 x m th wr k y i),decide (k < (0 : Int)) = true],D.tup [D.int .i64 0,D.int .i64 4]) := by kernel_rfl
theorem restB_Bsome (x : FBook) (m : Mp) (th : List (List Int)) (wr : List Int) (p : List Work) (v : Int) (k y : Int) (i : Nat) :
  callF (MF 82) [(80,false)] [(18,.tup [fbkD x m th wr,.int .i64 0]),(26,.tup [.sl false .work p,.bool true]),(31,.int .i64 v)] [(0,(restB_K0,(.normal,restB_S0 x m th wr k y i)))] (body Tryd.f92) [.tmp 2,.tmp 3] [fbookD x] =
   some ([CF 137 [fbookD x,D.fn 138 [] []] (D.tup [fbkD x m th wr,D.int .i64 0]),CF 139 [fbkD x m th wr] (D.tup [D.sl false E.work p,D.bool true]),CF 147 [fbkD x m th wr,D.sl false E.work p] (D.int .i64 v),inI64 (Book.days (FBook.chain x) + (1 : Int)),LF 82 (Code.at [1,1,1,1,1,0,1] (body Tryd.f92)) [(.tmp 1,.d (D.ptr 1 0)),(.tmp 4,.d (D.ptr 4 0)),(.tmp 7,.d (D.bool true)),(.tmp 8,.d (D.int .i64 (-(1 : Int)))),(.tmp 9,.d (D.int .i64 v)),(.tmp 35,.d (D.int .i64 (Book.days (FBook.chain x) + (1 : Int)))),(.tmp 36,.d (D.int .i64 0)),(.box 1,.bx (some (Box.mk false (cellsOf (fbookD x))))),(.box 4,.bx (some (Box.mk false (cellsOf (fbkD x m th wr)))))] Ex.normal (restB_S0 x m th wr k y i),decide (k < (0 : Int)) = false],D.tup [D.int .i64 k,D.int .i64 0]) := by kernel_rfl
end Go.Di

namespace Go.Di
open Proofs
def riL (x : FBook) (m : Mp) (th : List (List Int)) (wr : List Int) (b : Bool) (k v : Int) (i j : Nat) : List (Key × Val) :=
 [(.tmp 1,.d (.ptr 1 0)),(.tmp 4,.d (.ptr 4 0)),(.tmp 7,.d (.bool b)),(.tmp 8,.d (.int .i64 k)),(.tmp 9,.d (.int .i64 v)),(.tmp 10,.d (.int .i64 i)),(.tmp 11,.d (.int .i64 j)),(.tmp 13,.d (.ptr 13 0)),(.tmp 35,.d (.int .i64 (x.chain.days + 1))),(.tmp 36,.d (.int .i64 i)),
  (.box 1,.bx (some ⟨false,cellsOf (fbookD x)⟩)),(.box 4,.bx (some ⟨false,cellsOf (fbkD x m th wr)⟩)),(.box 13,.bx (some ⟨false,cellsOf (fbkD x m th wr)⟩))]
def riK : List Key := [.tmp 1,.tmp 4,.tmp 7,.tmp 8,.tmp 9,.tmp 10,.tmp 11,.tmp 13,.tmp 35,.tmp 36,.box 1,.box 4,.box 13]
def riO : List Key := [.tmp 1,.tmp 4,.tmp 7,.tmp 8,.tmp 9,.tmp 10,.tmp 13,.tmp 35,.tmp 36,.box 1,.box 4,.box 13]
def riS (x : FBook) (m : Mp) (th : List (List Int)) (wr : List Int) (b : Bool) (k v : Int) (i : Nat) (u : List Int) : List (Key × Val) :=
 [(.tmp 1,.d (.ptr 1 0)),(.tmp 4,.d (.ptr 4 0)),(.tmp 7,.d (.bool b)),(.tmp 8,.d (.int .i64 k)),(.tmp 9,.d (.int .i64 v)),(.tmp 10,.d (.int .i64 i)),(.tmp 13,.d (.ptr 13 0)),(.tmp 35,.d (.int .i64 (x.chain.days + 1))),(.tmp 36,.d (.int .i64 i)),
  (.box 1,.bx (some ⟨false,cellsOf (fbookD x)⟩)),(.box 4,.bx (some ⟨false,cellsOf (fbkD x m th wr)⟩)),(.box 13,.bx (some ⟨false,cellsOf (fbkD (x.withOpn u) m th wr)⟩))]
noncomputable abbrev riOps : Array Oper := rops (Code.at [1,1,1,1,1,0,1,0,0,1,1,0,0,1,1,1,1,0] (body Tryd.f92))
theorem ri_a (x : FBook) (m : Mp) (th : List (List Int)) (wr : List Int) (b : Bool) (k v : Int) (i j : Nat) :
  runLK (MF 82) [] [] riOps [riOps[0],riOps[1]] (riL x m th wr b k v i j) (riK ++ [.tmp 49]) =
   some ([],riL x m th wr b k v i j ++ [(.tmp 49,.d (.sl false .int x.opn))]) := by kernel_rfl
theorem ri_b (x : FBook) (m : Mp) (th : List (List Int)) (wr : List Int) (b : Bool) (k v : Int) (i j : Nat) (u : List Int) :
  runLK (MF 82) [] [] riOps [riOps[7],riOps[8],riOps[9]] ((.tmp 54,.d (.sl false .int u)) :: (riL x m th wr b k v i j ++ [(.tmp 49,.d (.sl false .int x.opn))])) riO =
   some ([],riS x m th wr b k v i u) := by kernel_rfl
end Go.Di

namespace Go.Di
open Proofs
open Go.RowKit Go.Proofs

/-! ### BinarySearch -/
theorem bs_con {l : List Int} (hl : l.length ≤ 1000) (hs : l.Pairwise (· < ·)) (d : Int) : CF 150 [.sl false .int l,.int .i64 d] (.tup [.int .i64 (l.countP (· < d) : Nat),.bool (l.contains d)]) := by
 by_cases h0 : 0 < l.length
 ·refine ⟨⟨Tryd.f150,by kernel_rfl,by kernel_rfl,by kernel_rfl⟩,fun w R vs hd hg ha => ?_⟩
  obtain ⟨v,vs,rfl,hv,ha⟩ := all2_cons ha
  obtain ⟨v2,vs,rfl,hv2,ha⟩ := all2_cons ha
  obtain rfl := all2_nil ha
  have hv2' : v2 = .int .i64 d := hv2
  subst hv2'
  obtain ⟨A,c,rfl,h1,h2,_,h4⟩ := hv
  obtain ⟨b,o,rfl,h5⟩ := h4 h0
  refine (Any.slices_BinarySearch_int Tryd.laysBS b o l.length c l d w (Nat.le_refl _) (by omega) (fun j hj => ?_) ?_).mono ?_
  ·obtain ⟨vs,q1,q2,q3⟩ := h5 j _ (List.getElem?_eq_getElem hj)
   have q2' : vs = [.int .i64 l[j]] := q2
   subst q2'
   have : w.cell? ⟨b,o + j * 1 + 0,none⟩ = some (.int .i64 l[j]) := (q3 0 _ rfl).2
   rw [Nat.add_zero,Nat.mul_one] at this
   rw [this,List.getD_eq_getElem?_getD,List.getElem?_eq_getElem hj]
   rfl
  ·rw [List.take_length]
   exact hs.imp fun h => Int.le_of_lt h
  ·rintro e w' ⟨rfl,q,rfl⟩
   rw [List.take_length]
   refine ⟨_,rfl,⟨rfl,rfl,rfl,Nat.le_refl _,fun _ _ => rfl⟩,R,fun _ _ h => h,fun b o h => ⟨hd b o h,.inl h⟩,_,rfl,rfl,rfl,trivial⟩
 ·obtain rfl : l = [] := List.length_eq_zero_iff.1 (by omega)
  have hloop : LF 54 (Code.at [1,1,1,0] (body Tryd.f150)) (bsNil_S0 d) .normal (bsNil_S0 d) :=
   LF.each (id := 0) (c := Code.at [1,1,1,0,0,0] (body Tryd.f150)) (by kernel_rfl) 0 (fun _ => bsNil_S0 d) (fun i hi => by omega) ⟨_,_,_,_,_,_,_,bsNil_0_end d,⟨rfl,trivial⟩,.inl ⟨rfl,rfl⟩,rfl⟩
  exact contract_of_path (GF 54) bsNil_fn (bsNil_all d) ⟨hloop,trivial⟩

/-! ### The region that inserts a day -/
theorem build1 {a : Act} {w : World} {d : Int} {o : Oper} (hop : o.op = .buildSlice 23 1 #[(0,.tmp 52)]) (h : a.eval (.tmp 52) = .int .i64 d) : (execOp a.eval o).run PRG w = .ok (.value (.slice (some ⟨w.heap.size,0,none⟩) 1 1)) (w.alloc (.cells #[.int .i64 d] 3)) := by
 have hu : ∀ w,Sem.run PRG (underlying 23) w = .ok (TypeDesc.slice 3) w := run_underlying Tryd.underlying23
 have hz := Tryd.zeroValue3 w
 have hs := Tryd.sizeOf3 w
 have hc : ∀ z : Int,(Value.int .i64 z).cells = #[Value.int .i64 z] := fun _ => rfl
 have h1 : ∀ (arr : Array Value) (v : Value),arr.size = 1 → arr.setIfInBounds 0 v = #[v] := by
  intro arr v ha
  apply Array.ext
  ·simp [ha]
  ·intro k hk1 hk2
   have : k = 0 := by simpa using hk2
   subst this
   simp
 simp [execOp,hop,h,Instr.buildSlice,hu,hz,hs,newRow,Instr.fill,hc]
 rw [h1 _ _ (by simp)]
theorem ins_lf {x : FBook} (hx : x.opn.length ≤ 1000) (m : Mp) (th : List (List Int)) (wr : List Int) (b : Bool) (k v : Int) (i j : Nat) (hj : j ≤ x.opn.length) :
  LF 82 (Code.at [1,1,1,1,1,0,1,0,0,1,1,0,0,1,1,1,1,0] (body Tryd.f92)) (riL x m th wr b k v i j) .normal (riS x m th wr b k v i (insL x.opn j i)) := by
 refine LoopT.of (tt := lookN typesF) ?_
 intro w0 R0 a w Q ro n hro hH hQ
 have hcode : Code.at [1,1,1,1,1,0,1,0,0,1,1,0,0,1,1,1,1,0] (body Tryd.f92) = .region 12 riOps false := by kernel_rfl
 rw [hcode]
 refine wp_text (by kernel_rfl) ?_
 have hsz : riOps.size = 10 := by kernel_rfl
 rw [hsz]
 show wpOps _ _ _ (List.range' 0 [riOps[0],riOps[1]].length ++ [2,3,4,5,6,7,8,9]) _ _
 refine runLK_then (C := MF 82) typesF_ok ⟨fun _ _ _ h => h,fun _ _ _ _ h => h⟩ (ri_a x m th wr b k v i j) trivial (fun q o hq => ?_) hH fun a1 w1 hH1 => ?_
 ·match q,hq with
  | 0,hq => simp only [List.getElem?_cons_zero,Option.some.injEq] at hq; subst hq; exact Array.getElem?_eq_getElem _
  | 1,hq => simp only [List.getElem?_cons_succ,List.getElem?_cons_zero,Option.some.injEq] at hq; subst hq; exact Array.getElem?_eq_getElem _
 obtain ⟨β,σ,R,hI⟩ := hH1
 have hnt : 82 ≤ a1.tmps.size := hI.nt
 have t49 : Rel R w1 (.sl false .int x.opn) (a1.tmps.getD 49 undef) := hI.tmps 49
 have t10 : a1.tmps.getD 10 undef = .int .i64 i := hI.tmps 10
 have t11 : a1.tmps.getD 11 undef = .int .i64 j := hI.tmps 11
 -- Clone
 obtain ⟨o2,h20,h21,h22,h23⟩ := (opAt (ops := riOps) (i := 2) (dst := some 50) (op := .call { callee := .value (.func 152),args := #[.tmp 49],argTypes := #[23] }) (by kernel_rfl)).at_
 refine wpOps_callv h20 h21 h23 rfl (f := 152) (caps := #[]) rfl (vs := #[a1.tmps.getD 49 undef]) (by simp only [List.map_toArray,List.map_cons,List.map_nil]; rfl) (fn := Tryd.f152) (by kernel_rfl) (by kernel_rfl) (by kernel_rfl) (clone_calls hx t49) ?_
 rintro e w2 ⟨v1,rfl,hown,hb2⟩
 refine ⟨v1,rfl,?_⟩
 rw [h22]
 -- the numbers are moved
 obtain ⟨o3,h30,h31,h32,h33⟩ := (opAt (ops := riOps) (i := 3) (dst := some 51) (op := .move (.tmp 11)) (by kernel_rfl)).at_
 refine wpOps_hand (v := .int .i64 j) (w' := w2) h30 h31 (by
  have hev : (a1.put (some 50) v1).eval (.tmp 11) = .int .i64 j := get_put (by omega) (by decide) t11
  simp [execOp,h33,hev]) ?_
 rw [h32]
 obtain ⟨o4,h40,h41,h42,h43⟩ := (opAt (ops := riOps) (i := 4) (dst := some 52) (op := .move (.tmp 10)) (by kernel_rfl)).at_
 refine wpOps_hand (v := .int .i64 i) (w' := w2) h40 h41 (by
  have hev : ((a1.put (some 50) v1).put (some 51) (.int .i64 j)).eval (.tmp 10) = .int .i64 i := get_put (by rw [size_put]; omega) (by decide) (get_put (by omega) (by decide) t10)
  simp [execOp,h43,hev]) ?_
 rw [h42]
 -- the row of one day
 obtain ⟨o5,h50,h51,h52,h53⟩ := (opAt (ops := riOps) (i := 5) (dst := some 53) (op := .buildSlice 23 1 #[(0,.tmp 52)]) (by kernel_rfl)).at_
 refine wpOps_hand h50 h51 (build1 (d := i) h53 (get_now (by rw [size_put,size_put]; omega))) ?_
 rw [h52]
 obtain ⟨w3,hw3⟩ : ∃ w3,w3 = w2.alloc (.cells #[.int .i64 i] 3) := ⟨_,rfl⟩
 have hb3 : Below w2.heap.size w2 w3 := by rw [hw3]; exact below_alloc1 _ _
 have hnew : w3.heap[w2.heap.size]? = some (.cells #[.int .i64 i] 3 (0,0)) := by rw [hw3]; exact heap_alloc_new _ _
 rw [← hw3]
 -- Insert
 obtain ⟨o6,h60,h61,h62,h63⟩ := (opAt (ops := riOps) (i := 6) (dst := some 54) (op := .call { callee := .value (.func 151),args := #[.tmp 50,.tmp 51,.tmp 53],argTypes := #[23,3,23] }) (by kernel_rfl)).at_
 obtain ⟨a5,ha5⟩ : ∃ a5,a5 = (((a1.put (some 50) v1).put (some 51) (.int .i64 j)).put (some 52) (.int .i64 i)).put (some 53) (.slice (some ⟨w2.heap.size,0,none⟩) 1 1) := ⟨_,rfl⟩
 rw [← ha5]
 have e50 : a5.tmps.getD 50 undef = v1 := by rw [ha5]; exact get_put (by rw [size_put,size_put,size_put]; omega) (by decide) (get_put (by rw [size_put,size_put]; omega) (by decide) (get_put (by rw [size_put]; omega) (by decide) (get_now (by omega))))
 have e51 : a5.tmps.getD 51 undef = .int .i64 j := by rw [ha5]; exact get_put (by rw [size_put,size_put,size_put]; omega) (by decide) (get_put (by rw [size_put,size_put]; omega) (by decide) (get_now (by rw [size_put]; omega)))
 have e53 : a5.tmps.getD 53 undef = .slice (some ⟨w2.heap.size,0,none⟩) 1 1 := by rw [ha5]; exact get_now (by rw [size_put,size_put,size_put]; omega)
 have hins := insert_calls (base := w1.heap.size) (w := w3) (l := x.opn) (v := v1) (j := j) (d := (i : Int)) (vb := w2.heap.size) (c2 := 1) (el2 := 3) hx hj (hown.keep hb3) (Nat.le_trans hb2.size hb3.size) hnew (fun g n c hv => by
  rcases hown with ⟨h,_⟩ | ⟨g',cap,cur,el,h1,h2,h3,_⟩
  ·rw [h] at hv; cases hv
  ·rw [h1] at hv
   cases hv
   have := (Array.getElem?_eq_some_iff.1 h3).1
   omega)
 refine wpOps_callv h60 h61 h63 rfl (f := 151) (caps := #[]) rfl (vs := #[v1,.int .i64 j,.slice (some ⟨w2.heap.size,0,none⟩) 1 1]) (by simp only [List.map_toArray,List.map_cons,List.map_nil]; show #[a5.tmps.getD 50 undef,a5.tmps.getD 51 undef,a5.tmps.getD 53 undef] = _; rw [e50,e51,e53]) (fn := Tryd.f151) (by kernel_rfl) (by kernel_rfl) (by kernel_rfl) hins ?_
 rintro e w4 ⟨v4,rfl,hown4,hb4⟩
 refine ⟨v4,rfl,?_⟩
 rw [h62]
 have hb14 : Below w1.heap.size w1 w4 := (hb2.trans (hb3.mono hb2.size)).trans hb4
 obtain ⟨R',hR1,hR2,hR3⟩ := hown4.rel (by exact hb14.size) R (fun b o hr => Nat.lt_of_lt_of_le (hI.dom b o hr).1 hb14.size)
 have hI2 := hI.later hb14 hR1 hR2
 have hu : ∀ d,d ∈ [50,51,52,53] → (ofL (riL x m th wr b k v i j ++ [(.tmp 49,.d (.sl false .int x.opn))])) (.tmp d) = .d .undef := by
  intro d hd
  simp only [List.mem_cons,List.not_mem_nil,or_false] at hd
  rcases hd with rfl | rfl | rfl | rfl <;> rfl
 have hI3 := (((hI2.putAny (d := 50) (by decide) (by simp [mk]) (hu 50 (by simp)) v1).putAny (d := 51) (by decide) (by simp [mk]) (hu 51 (by simp)) (.int .i64 j)).putAny (d := 52) (by decide) (by simp [mk]) (hu 52 (by simp)) (.int .i64 i)).putAny (d := 53) (by decide) (by simp [mk]) (hu 53 (by simp)) (.slice (some ⟨w2.heap.size,0,none⟩) 1 1)
 rw [← ha5] at hI3
 have hI4 := hI3.put 54 (by decide) (by simp [mk]) (x := .sl false .int (insL x.opn j i)) (v := v4) (RelT.ofRel hR3)
 show wpOps _ _ _ (List.range' 7 [riOps[7],riOps[8],riOps[9]].length ++ []) _ _
 refine runLK_then (C := MF 82) typesF_ok ⟨fun _ _ _ h => h,fun _ _ _ _ h => h⟩ (ri_b x m th wr b k v i j (insL x.opn j i)) trivial (fun q o hq => ?_) ⟨β,σ,R',hI4⟩ fun a9 w9 hH9 => ?_
 ·match q,hq with
  | 0,hq => simp only [List.getElem?_cons_zero,Option.some.injEq] at hq; subst hq; exact Array.getElem?_eq_getElem _
  | 1,hq => simp only [List.getElem?_cons_succ,List.getElem?_cons_zero,Option.some.injEq] at hq; subst hq; exact Array.getElem?_eq_getElem _
  | 2,hq => simp only [List.getElem?_cons_succ,List.getElem?_cons_zero,Option.some.injEq] at hq; subst hq; exact Array.getElem?_eq_getElem _
 exact hQ .normal _ _ _ ⟨rfl,rfl⟩ hH9
end Go.Di

