/- Part 25: contracts are proved. No condition. -/
import Derived.Test.YtfkmodcjddfeiaaDoorDi24
set_option linter.unusedVariables false
set_option linter.unusedSimpArgs false
namespace Go.Di
open Proofs
theorem mem_getD_ex {α : Type} {l : List α} {v : α} (d : α) (h : v ∈ l) : ∃ j,j < l.length ∧ l.getD j d = v := by
 obtain ⟨j,hj,he⟩ := List.getElem_of_mem h
 exact ⟨j,hj,by rw [List.getD_eq_getElem?_getD,List.getElem?_eq_getElem hj]; exact he⟩
def frX (x : FBook) (w : W4) (s c : Int) : Nat → Int
 | 0 => x.new
 | k + 1 => frX x w s c k - w.at (Yfk x s (c + k)).toNat
def thkV (x : FBook) (T : Nat → Int) (w : W4) (plan : List Work) (s : Nat) (d : Int) : Int :=
 if (Yc6 plan s d).1 = 0 then T s - wornX x.chain x.chain.turns w s d else frX x w s (Yc6 plan s d).2 (d - (Yc6 plan s d).2).toNat
def Ygc (x : FBook) (T : Nat → Int) (w : W4) (plan : List Work) (s : Nat) (d : Int) : Int :=
 if (Yc6 plan s (d - 1)).1 = 0 then T s - wornX x.chain x.chain.turns w s d else frX x w s (Yc6 plan s (d - 1)).2 (d - (Yc6 plan s (d - 1)).2).toNat
theorem wornX_next (b : Book) (turns : List Int) (w : W4) (k : Nat) (d : Nat) : wornX b turns w k ((d : Int) + 1) = wornX b turns w k d + w.at (Ybp b.secs.length turns d k).toNat := by
 unfold wornX
 rw [show ((d : Int) + 1).toNat = d + 1 by omega,Int.toNat_natCast]
 rfl
theorem last_none (s : Int) {d : Int} : ∀ (l : List Work) (p : Int × Int),(∀ w ∈ l,¬ (w.s = s ∧ w.d ≤ d)) → l.foldl (Yav s d) p = p
 | [],_,_ => rfl
 | u :: l,p,h => by
  rw [List.foldl_cons]
  have : Yav s d p u = p := by unfold Yav; rw [if_neg (h u (by simp))]
  rw [this]
  exact last_none s l p fun z hz => h z (by simp [hz])
theorem last_same {plan : List Work} {s d : Int} (hno : ∀ w ∈ plan,¬ (w.s = s ∧ w.d = d)) : Yc6 plan s (d - 1) = Yc6 plan s d := by
 unfold Yc6
 have key : ∀ (l : List Work) (p : Int × Int),(∀ w ∈ l,¬ (w.s = s ∧ w.d = d)) → l.foldl (Yav s (d - 1)) p = l.foldl (Yav s d) p := by
  intro l
  induction l with
  | nil => exact fun _ _ => rfl
  | cons w l ih =>
   intro p hl
   rw [List.foldl_cons,List.foldl_cons]
   have e : Yav s (d - 1) p w = Yav s d p w := by
    unfold Yav
    have := hl w (by simp)
    by_cases hc : w.s = s ∧ w.d ≤ d
    ·rw [if_pos hc,if_pos ⟨hc.1,by have h2 : w.d ≠ d := fun e => this ⟨hc.1,e⟩; omega⟩]
    ·rw [if_neg hc,if_neg (fun h2 => hc ⟨h2.1,by omega⟩)]
   rw [e]
   exact ih _ fun z hz => hl z (by simp [hz])
 exact key plan _ hno
theorem head_zero {x : FBook} {T : Nat → Int} {w : W4} {plan : List Work} (hp : ∀ v ∈ plan,0 ≤ v.d) (s : Nat) : Ygc x T w plan s 0 = T s := by
 unfold Ygc
 have e : Yc6 plan s (0 - 1) = (0,0) := last_none _ plan _ fun v hv h => by have := hp v hv; omega
 rw [e,if_pos rfl]
 have : wornX x.chain x.chain.turns w s 0 = 0 := rfl
 omega
theorem thk_on {x : FBook} {T : Nat → Int} {w : W4} {plan : List Work} (hp : plan.Pairwise wlt) {s : Nat} {d : Int} (h : ∃ v ∈ plan,v.s = s ∧ v.d = d) : thkV x T w plan s d = x.new := by
 have h2 := lastF_in s d plan (0,0) hp h
 have h2' : (Yc6 plan s d).2 = d := h2
 obtain ⟨v,hv,hs,hd⟩ := h
 rcases last_char hp s d with ⟨h1,_⟩ | ⟨_,h1⟩
 ·unfold thkV
  rw [if_neg (by omega),h2',Int.sub_self]
  rfl
 ·exact absurd ⟨hs,by omega⟩ (h1 v hv)
theorem thk_off {x : FBook} {T : Nat → Int} {w : W4} {plan : List Work} {s : Nat} {d : Int} (hno : ∀ v ∈ plan,¬ (v.s = s ∧ v.d = d)) : thkV x T w plan s d = Ygc x T w plan s d := by
 unfold thkV Ygc
 rw [last_same hno]
theorem head_next {x : FBook} (hfe : x.feet.length = x.chain.secs.length) {T : Nat → Int} {w : W4} {plan : List Work} {s : Nat} (d : Nat) : Ygc x T w plan s ((d : Int) + 1) = thkV x T w plan s d - w.at (Ybp x.chain.secs.length x.chain.turns d s).toNat := by
 have hled := lastF_led (plan := plan) (s := s) (d := d) (by omega)
 unfold Ygc thkV
 rw [show (d : Int) + 1 - 1 = d by omega]
 by_cases h : (Yc6 plan s d).1 = 0
 ·rw [if_pos h,if_pos h,wornX_next]
  omega
 ·rw [if_neg h,if_neg h]
  generalize (Yc6 plan s d).2 = c at hled
  rw [show ((d : Int) + 1 - c).toNat = ((d : Int) - c).toNat + 1 by omega]
  show frX x w s c ((d : Int) - c).toNat - w.at (Yfk x s (c + ((d : Int) - c).toNat)).toNat = _
  rw [show c + ((((d : Int) - c).toNat : Nat) : Int) = d by omega]
  unfold Yfk
  rw [hfe]
def Ybl (x : FBook) (T : Nat → Int) (w : W4) (plan : List Work) (d : Nat) : List Int := (List.range x.chain.secs.length).map fun k => thkV x T w plan k d
def Yb3 (x : FBook) (T : Nat → Int) (w : W4) (plan : List Work) (d : Nat) : List Int := (List.range x.chain.secs.length).map fun k => Ygc x T w plan k d
theorem wrk_mem {plan : List Work} {s d : Int} : d ∈ wrkF plan s ↔ ∃ v ∈ plan,v.s = s ∧ v.d = d := by
 have key : ∀ i,i ≤ plan.length → (d ∈ wrkTo plan s i ↔ ∃ j,j < i ∧ (plan.getD j work0).s = s ∧ (plan.getD j work0).d = d) := by
  intro i
  induction i with
  | zero => intro _; simp [wrkTo]
  | succ i ih =>
   intro hi
   have ih := ih (by omega)
   simp only [wrkTo]
   by_cases hb : ((plan.getD i work0).s == s) = true
   ·rw [if_pos hb,List.mem_append,ih,List.mem_singleton]
    have hb' : (plan.getD i work0).s = s := by simpa using hb
    constructor
    ·rintro (⟨j,h1,h2⟩ | h)
     ·exact ⟨j,by omega,h2⟩
     ·exact ⟨i,by omega,hb',h.symm⟩
    ·rintro ⟨j,h1,h2,h3⟩
     by_cases e : j = i
     ·subst e; exact .inr h3.symm
     ·exact .inl ⟨j,by omega,h2,h3⟩
   ·rw [if_neg hb,ih]
    have hb' : ¬ (plan.getD i work0).s = s := by simpa using hb
    constructor
    ·rintro ⟨j,h1,h2⟩; exact ⟨j,by omega,h2⟩
    ·rintro ⟨j,h1,h2,h3⟩
     by_cases e : j = i
     ·subst e; exact absurd h2 hb'
     ·exact ⟨j,by omega,h2,h3⟩
 unfold wrkF
 rw [key plan.length (Nat.le_refl _)]
 constructor
 ·rintro ⟨j,h1,h2,h3⟩; exact ⟨_,mem_getD work0 h1,h2,h3⟩
 ·rintro ⟨v,hv,h2,h3⟩
  obtain ⟨j,hj,rfl⟩ := mem_getD_ex work0 hv
  exact ⟨j,hj,h2,h3⟩
def chgTo (x : FBook) (plan : List Work) (d : Nat) (zs : List Int) : Nat → List Int
 | 0 => zs
 | i + 1 => if (d : Int) ∈ wrkF plan i then (chgTo x plan d zs i).set (i * 1) x.new else chgTo x plan d zs i
theorem Yfn (x : FBook) (plan : List Work) (d : Nat) (zs : List Int) : ∀ i,(chgTo x plan d zs i).length = zs.length
 | 0 => rfl
 | i + 1 => by
  simp only [chgTo]
  split
  ·rw [List.length_set]; exact Yfn x plan d zs i
  ·exact Yfn x plan d zs i
theorem chgTo_get {x : FBook} {plan : List Work} {d : Nat} {zs : List Int} : ∀ i,i ≤ zs.length → ∀ k,k < zs.length → (chgTo x plan d zs i).getD k 0 = if k < i ∧ (d : Int) ∈ wrkF plan k then x.new else zs.getD k 0
 | 0,_,k,hk => by rw [if_neg (by omega)]; rfl
 | i + 1,hi,k,hk => by
  have ih := chgTo_get (x := x) (plan := plan) (d := d) (zs := zs) i (by omega) k hk
  simp only [chgTo]
  by_cases hm : (d : Int) ∈ wrkF plan i
  ·rw [if_pos hm,setL_getD (by rw [Yfn]; exact hk),Nat.mul_one,ih]
   by_cases e : i = k
   ·subst e; rw [if_pos rfl,if_pos ⟨by omega,hm⟩]
   ·rw [if_neg e]
    by_cases h : k < i ∧ (d : Int) ∈ wrkF plan k
    ·rw [if_pos h,if_pos ⟨by omega,h.2⟩]
    ·rw [if_neg h,if_neg (fun h' => h ⟨by omega,h'.2⟩)]
  ·rw [if_neg hm,ih]
   by_cases h : k < i ∧ (d : Int) ∈ wrkF plan k
   ·rw [if_pos h,if_pos ⟨by omega,h.2⟩]
   ·rw [if_neg h,if_neg (fun h' => by
     by_cases e : i = k
     ·subst e; exact hm h'.2
     ·exact h ⟨by omega,h'.2⟩)]
theorem chg_row {x : FBook} {T : Nat → Int} {w : W4} {plan : List Work} (hp : plan.Pairwise wlt) (d : Nat) : chgTo x plan d (Yb3 x T w plan d) x.chain.secs.length = Ybl x T w plan d := by
 have hl : (Yb3 x T w plan d).length = x.chain.secs.length := by simp [Yb3]
 refine ext_getD (by rw [Yfn,hl]; simp [Ybl]) fun k hk => ?_
 rw [Yfn,hl] at hk
 rw [chgTo_get _ (by omega) k (by omega)]
 have e1 : (Ybl x T w plan d).getD k 0 = thkV x T w plan k d := Yc2 (f := fun k => thkV x T w plan k d) hk
 have e2 : (Yb3 x T w plan d).getD k 0 = Ygc x T w plan k d := Yc2 (f := fun k => Ygc x T w plan k d) hk
 rw [e1,e2]
 by_cases hm : (d : Int) ∈ wrkF plan k
 ·rw [if_pos ⟨hk,hm⟩,thk_on hp (wrk_mem.1 hm)]
 ·rw [if_neg (fun h => hm h.2),thk_off fun v hv h => hm (wrk_mem.2 ⟨v,hv,h⟩)]
def Yfb (n : Nat) (f : Bool) (ws zs : List Int) : Nat → List Int
 | 0 => zs
 | i + 1 => (Yfb n f ws zs i).set (i * 1) ((Yfb n f ws zs i).getD (i * 1) 0 - ws.getD (piF n f i) 0)
theorem Yeh (n : Nat) (f : Bool) (ws zs : List Int) : ∀ i,(Yfb n f ws zs i).length = zs.length
 | 0 => rfl
 | i + 1 => by simp only [Yfb,List.length_set]; exact Yeh n f ws zs i
theorem wearT_get {n : Nat} {f : Bool} {ws zs : List Int} : ∀ i,i ≤ zs.length → ∀ k,k < zs.length → (Yfb n f ws zs i).getD k 0 = zs.getD k 0 - if k < i then ws.getD (piF n f k) 0 else 0
 | 0,_,k,hk => by rw [if_neg (by omega)]; simp [Yfb]
 | i + 1,hi,k,hk => by
  have ih := fun k hk => wearT_get (n := n) (f := f) (ws := ws) (zs := zs) i (by omega) k hk
  simp only [Yfb]
  rw [setL_getD (by rw [Yeh]; exact hk),Nat.mul_one]
  by_cases e : i = k
  ·subst e
   rw [if_pos rfl,ih i hk,if_neg (by omega),if_pos (by omega)]
   omega
  ·rw [if_neg e,ih k hk]
   by_cases h : k < i
   ·rw [if_pos h,if_pos (by omega)]
   ·rw [if_neg h,if_neg (by omega)]
theorem place_pi (n : Nat) (turns : List Int) (d : Int) (k : Nat) (hk : k < n) : (Ybp n turns d k).toNat = piF n (Ycn turns d) k := by
 rw [place_fold]
 unfold piF
 split <;> omega
theorem head_row {x : FBook} (hfe : x.feet.length = x.chain.secs.length) {T : Nat → Int} {w : W4} {plan : List Work} {ws : List Int} (hw : ∀ p,p < x.chain.secs.length → ws.getD p 0 = w.at p) (d : Nat) : Yfb x.chain.secs.length (Ycn x.chain.turns d) ws (Ybl x T w plan d) x.chain.secs.length = Yb3 x T w plan (d + 1) := by
 have hl : (Ybl x T w plan d).length = x.chain.secs.length := by simp [Ybl]
 refine ext_getD (by rw [Yeh,hl]; simp [Yb3]) fun k hk => ?_
 rw [Yeh,hl] at hk
 rw [wearT_get _ (by omega) k (by omega),if_pos hk]
 have e1 : (Ybl x T w plan d).getD k 0 = thkV x T w plan k d := Yc2 (f := fun k => thkV x T w plan k d) hk
 have e2 : (Yb3 x T w plan (d + 1)).getD k 0 = Ygc x T w plan k ((d : Int) + 1) := Yc2 (f := fun k => Ygc x T w plan k ((d + 1 : Nat) : Int)) hk
 have hpp := piF_pi (f := Ycn x.chain.turns d) (n := x.chain.secs.length) (k := k) hk
 rw [e1,e2,head_next hfe,place_pi _ _ _ _ hk,hw _ hpp.2]
theorem old_row {x : FBook} {T : Nat → Int} {w : W4} {ws : List Int} (hw : ∀ p,p < x.chain.secs.length → ws.getD p 0 = w.at p) (d : Nat) : Yfb x.chain.secs.length (Ycn x.chain.turns d) ws (rowF x.chain T w d) x.chain.secs.length = rowF x.chain T w (d + 1) := by
 have hl := rowF_len x.chain T w d
 refine ext_getD (by rw [Yeh,hl,rowF_len]) fun k hk => ?_
 rw [Yeh,hl] at hk
 rw [wearT_get _ (by omega) k (by omega),if_pos hk,rowF_get hk,rowF_get hk]
 have hpp := piF_pi (f := Ycn x.chain.turns d) (n := x.chain.secs.length) (k := k) hk
 have := wornX_next x.chain x.chain.turns w k d
 rw [show (((d + 1 : Nat)) : Int) = (d : Int) + 1 by omega,this,place_pi _ _ _ _ hk,hw _ hpp.2]
 omega
def rgtB (old : List Int) (d : Int) (y : Sv) : Bool := !(y.d == d) || Yd6 (y.r - old.getD (y.s.toNat * 1) 0) (0 - y.e) y.e
def rgtTo (svs : List Sv) (old : List Int) (d : Int) (r : Bool) : Nat → Bool
 | 0 => r
 | k + 1 => rgtTo svs old d r k && rgtB old d (svs.getD k sv0)
def Yb2 (x : FBook) (T : Nat → Int) (w : W4) : Nat → Bool
 | 0 => true
 | d + 1 => rgtTo x.chain.svs (rowF x.chain T w d) d (Yb2 x T w d) x.chain.svs.length
theorem rgtTo_iff {svs : List Sv} {old : List Int} {d : Int} {r : Bool} : ∀ k,k ≤ svs.length → (rgtTo svs old d r k = true ↔ r = true ∧ ∀ j,j < k → rgtB old d (svs.getD j sv0) = true)
 | 0,_ => by simp [rgtTo]
 | k + 1,hk => by
  simp only [rgtTo,Bool.and_eq_true]
  rw [rgtTo_iff k (by omega)]
  constructor
  ·rintro ⟨⟨h1,h2⟩,h3⟩
   refine ⟨h1,fun j hj => ?_⟩
   by_cases e : j = k
   ·subst e; exact h3
   ·exact h2 j (by omega)
  ·rintro ⟨h1,h2⟩
   exact ⟨⟨h1,fun j hj => h2 j (by omega)⟩,h2 k (by omega)⟩
theorem rgtDays_iff {x : FBook} {T : Nat → Int} {w : W4} : ∀ D,Yb2 x T w D = true ↔ ∀ d,d < D → ∀ y ∈ x.chain.svs,rgtB (rowF x.chain T w d) d y = true
 | 0 => by simp [Yb2]
 | D + 1 => by
  simp only [Yb2]
  rw [rgtTo_iff _ (Nat.le_refl _),rgtDays_iff D]
  constructor
  ·rintro ⟨h1,h2⟩ d hd y hy
   by_cases e : d = D
   ·subst e
    obtain ⟨j,hj,rfl⟩ := mem_getD_ex sv0 hy
    exact h2 j hj
   ·exact h1 d (by omega) y hy
  ·intro h
   exact ⟨fun d hd y hy => h d (by omega) y hy,fun j hj => h D (by omega) _ (mem_getD sv0 hj)⟩
theorem Yhd {x : FBook} (hV : FValid x) {T : Nat → Int} {w : W4} (h0 : Feas0 x.chain T w) (h : Yb2 x T w (x.chain.days + 1).toNat = true) : Feas x.chain [] T w := by
 rw [feas_nil]
 refine ⟨h0,fun y hy k hk hs => ?_⟩
 obtain ⟨h1,h2,h3,h4⟩ := Ygf.1 (hV.chain.sv y hy)
 have hr := (rgtDays_iff _).1 h y.d.toNat (by omega) y hy
 unfold rgtB at hr
 rw [Int.toNat_of_nonneg h2.1,beq_self_eq_true,Bool.not_true,Bool.false_or] at hr
 unfold Yd6 at hr
 rw [Bool.and_eq_true,decide_eq_true_eq,decide_eq_true_eq,Nat.mul_one,show y.s.toNat = k by omega,rowF_get hk] at hr
 have e : wornX x.chain x.chain.turns w k (y.d.toNat : Int) = Ydz x.chain.secs.length w.a w.b w.c w.d x.chain.turns k y.d.toNat := by unfold wornX; rw [Int.toNat_natCast]
 omega
theorem frX_ge {x : FBook} (hV : FValid x) {T : Nat → Int} {w : W4} (hf : Feas x.chain [] T w) {s : Int} (hs : 0 ≤ s ∧ s < x.feet.length) (c : Int) : ∀ k,Ygp x (Yaw x) s c k ≤ frX x w s c k
 | 0 => Int.le_refl _
 | k + 1 => by
  have ih := frX_ge hV hf hs c k
  have hp := fplace_in (c + k) hs
  have hw := (wear_in hV.chain.base hf (Yfk x s (c + k)).toNat).2
  rw [Int.toNat_of_nonneg hp.1] at hw
  simp only [Ygp,frX]
  rw [knowWr_at hp]
  omega
theorem least_true {x : FBook} (hV : FValid x) {T : Nat → Int} {w : W4} (hf : Feas x.chain [] T w) (plan : List Work) {s : Nat} (hs : s < x.feet.length) {d : Int} (hd : 0 ≤ d ∧ d ≤ x.chain.days) : leastV x plan s d ≤ thkV x T w plan s d := by
 have hfe := hV.feet
 unfold leastV Ybk thkV
 split
 ·rw [knowTh_at (by omega) hd]
  exact (thick_in hV.chain.base hf x.chain.turns s (by omega) d).1
 ·exact frX_ge hV hf (by omega) _ _
theorem at_in {x : FBook} (hV : FValid x) {T : Nat → Int} {w : W4} (h0 : Feas0 x.chain T w) (p : Nat) : 0 ≤ w.at p ∧ w.at p ≤ 1000 := by
 by_cases hp : p < x.chain.secs.length
 ·have h := h0.wear p hp
  have hs := (hV.chain.sec _ (Yby x.chain.secs p sec0 hp)).w
  omega
 ·have := h0.zero p (by omega)
  omega
theorem head_in {x : FBook} (hV : FValid x) {T : Nat → Int} {w : W4} (h0 : Feas0 x.chain T w) {plan : List Work} (hp : IsPlan x plan) {k : Nat} (hk : k < x.chain.secs.length) : ∀ d : Nat,(-1000 * (d : Int) ≤ Ygc x T w plan k d ∧ Ygc x T w plan k d ≤ 1000) ∧ (-1000 * (d : Int) ≤ thkV x T w plan k d ∧ thkV x T w plan k d ≤ 1000) := by
 have hnew := hV.new
 have step : ∀ d : Nat,(-1000 * (d : Int) ≤ Ygc x T w plan k d ∧ Ygc x T w plan k d ≤ 1000) → (-1000 * (d : Int) ≤ thkV x T w plan k d ∧ thkV x T w plan k d ≤ 1000) := fun d h => by
  by_cases he : ∃ v ∈ plan,v.s = (k : Int) ∧ v.d = (d : Int)
  ·rw [thk_on hp.2 he]
   omega
  ·rw [thk_off fun v hv hc => he ⟨v,hv,hc⟩]
   exact h
 intro d
 induction d with
 | zero =>
  have e : Ygc x T w plan k ((0 : Nat) : Int) = T k := head_zero (fun v hv => (hV.opn.1 _ (hp.1 v hv).1).1) k
  have ht := h0.thick k hk
  have hs := (hV.chain.sec _ (Yby x.chain.secs k sec0 hk)).t
  have h : -1000 * ((0 : Nat) : Int) ≤ Ygc x T w plan k ((0 : Nat) : Int) ∧ Ygc x T w plan k ((0 : Nat) : Int) ≤ 1000 := by rw [e]; omega
  exact ⟨h,step 0 h⟩
 | succ d ih =>
  have e := head_next hV.feet (T := T) (w := w) (plan := plan) (s := k) d
  have hw := at_in hV h0 (Ybp x.chain.secs.length x.chain.turns d k).toNat
  have h : -1000 * ((d + 1 : Nat) : Int) ≤ Ygc x T w plan k ((d + 1 : Nat) : Int) ∧ Ygc x T w plan k ((d + 1 : Nat) : Int) ≤ 1000 := by
   rw [show ((d + 1 : Nat) : Int) = (d : Int) + 1 by omega,e]
   omega
  exact ⟨h,step (d + 1) h⟩
theorem old_in {x : FBook} (hV : FValid x) {T : Nat → Int} {w : W4} (h0 : Feas0 x.chain T w) {k : Nat} (hk : k < x.chain.secs.length) : ∀ d : Nat,-1000 * (d : Int) ≤ T k - wornX x.chain x.chain.turns w k d ∧ T k - wornX x.chain x.chain.turns w k d ≤ 1000 := by
 intro d
 induction d with
 | zero =>
  have e : wornX x.chain x.chain.turns w k ((0 : Nat) : Int) = 0 := rfl
  have ht := h0.thick k hk
  have hs := (hV.chain.sec _ (Yby x.chain.secs k sec0 hk)).t
  omega
 | succ d ih =>
  have e := wornX_next x.chain x.chain.turns w k d
  have hw := at_in hV h0 (Ybp x.chain.secs.length x.chain.turns d k).toNat
  rw [show ((d + 1 : Nat) : Int) = (d : Int) + 1 by omega,e]
  omega
def Ycq (x : FBook) (T : Nat → Int) (w : W4) (plan : List Work) (D : Nat) : List (List Int) := (List.range D).map (Ybl x T w plan)
theorem daysL_next (x : FBook) (T : Nat → Int) (w : W4) (plan : List Work) (D : Nat) : Ycq x T w plan (D + 1) = Ycq x T w plan D ++ [Ybl x T w plan D] := by unfold Ycq; rw [List.range_succ,List.map_append]; rfl
theorem daysL_len (x : FBook) (T : Nat → Int) (w : W4) (plan : List Work) (D : Nat) : (Ycq x T w plan D).length = D := by simp [Ycq]
theorem head_row0 {x : FBook} {T : Nat → Int} {w : W4} {plan : List Work} (hp : ∀ v ∈ plan,0 ≤ v.d) : Yb3 x T w plan 0 = rowF x.chain T w 0 := by
 unfold Yb3 rowF
 refine List.map_congr_left fun k _ => ?_
 have e : Ygc x T w plan k ((0 : Nat) : Int) = T k := head_zero hp k
 have e2 : wornX x.chain x.chain.turns w k ((0 : Nat) : Int) = 0 := rfl
 rw [e,e2]
 omega
end Go.Di

namespace Go.Di
open Proofs
noncomputable abbrev k_80 (p : List Nat) : Code := Code.at p (body Proofs.Tryd.f80)
theorem chooseX_fn : FnOk PRG (MF 15) 75 (body Tryd.f75) [.tmp 4] := by refine ⟨Tryd.f75,?_,?_,?_,?_,?_⟩ <;> kernel_rfl
theorem withinX_fn : FnOk PRG (MF 16) 74 (body Tryd.f74) [.tmp 4] := by refine ⟨Tryd.f74,?_,?_,?_,?_,?_⟩ <;> kernel_rfl
theorem trA_fn : FnOk PRG (MF 141) 80 (body Tryd.f80) [.tmp 8,.tmp 9] := by refine ⟨Tryd.f80,?_,?_,?_,?_,?_⟩ <;> kernel_rfl
def Yge (x : FBook) (th ws : List Int) (plan : List Work) (d : Nat) (tn rt : Bool) (zs os : List Int) (rs : List (List Int)) (i : Nat) : List (Key × Val) :=
 [(.tmp 2,.d (D.sl false E.int ws)),
  (.tmp 3,.d (D.sl false E.work plan)),
  (.tmp 4,.d (D.ptr 4 0)),
  (.tmp 10,.d (D.row 23 (List.length th))),
  (.tmp 11,.d (D.row 26 (List.length th))),
  (.tmp 12,.d (.bool tn)),
  (.tmp 13,.d (.own 101 rs.length)),
  (.tmp 14,.d (.bool rt)),
  (.tmp 15,.d (.I d)),
  (.tmp 16,.d (.I i)),
  (.box 4,.bx (some (Box.mk false (cellsOf (Yab x))))),
  (.box 23,.rw zs),
  (.box 26,.rw os),
  (.obj 101,.ob (some ⟨.list .int,rs⟩))]
def trB_K2 : List Key := [.tmp 2,.tmp 3,.tmp 4,.tmp 10,.tmp 11,.tmp 12,.tmp 13,.tmp 14,.tmp 15,.tmp 16,.box 4,.box 23,.box 26,.obj 101]
def Yfe (x : FBook) (th ws : List Int) (plan : List Work) (d : Nat) (tn rt : Bool) (zs os : List Int) (rs : List (List Int)) : List (Key × Val) :=
 [(.tmp 2,.d (D.sl false E.int ws)),
  (.tmp 3,.d (D.sl false E.work plan)),
  (.tmp 4,.d (D.ptr 4 0)),
  (.tmp 10,.d (D.row 23 (List.length th))),
  (.tmp 11,.d (D.row 26 (List.length th))),
  (.tmp 12,.d (.bool tn)),
  (.tmp 13,.d (.own 101 rs.length)),
  (.tmp 14,.d (.bool rt)),
  (.tmp 15,.d (.I d)),
  (.box 4,.bx (some (Box.mk false (cellsOf (Yab x))))),
  (.box 23,.rw zs),
  (.box 26,.rw os),
  (.obj 101,.ob (some ⟨.list .int,rs⟩))]
def trB_K0 : List Key := [.tmp 2,.tmp 3,.tmp 4,.tmp 10,.tmp 11,.tmp 12,.tmp 13,.tmp 14,.tmp 15,.box 4,.box 23,.box 26,.obj 101]
def Yfs (x : FBook) (th ws : List Int) (plan : List Work) (d : Nat) (tn rt : Bool) (zs os : List Int) (i : Nat) : List (Key × Val) :=
 [(.tmp 2,.d (D.sl false E.int ws)),
  (.tmp 3,.d (D.sl false E.work plan)),
  (.tmp 4,.d (D.ptr 4 0)),
  (.tmp 10,.d (D.row 23 (List.length th))),
  (.tmp 11,.d (D.row 26 (List.length th))),
  (.tmp 12,.d (.bool tn)),
  (.tmp 13,.d (.sl true (.list .int) [])),
  (.tmp 14,.d (.bool rt)),
  (.tmp 15,.d (.I d)),
  (.tmp 16,.d (.I i)),
  (.box 4,.bx (some (Box.mk false (cellsOf (Yab x))))),
  (.box 23,.rw zs),
  (.box 26,.rw os),
  (.obj 101,.ob none)]
def trA_K2 : List Key := [.tmp 2,.tmp 3,.tmp 4,.tmp 10,.tmp 11,.tmp 12,.tmp 13,.tmp 14,.tmp 15,.tmp 16,.box 4,.box 23,.box 26,.obj 101]
def trA_S0 (x : FBook) (th ws : List Int) (plan : List Work) (d : Nat) (tn rt : Bool) (zs os : List Int) : List (Key × Val) :=
 [(.tmp 2,.d (D.sl false E.int ws)),
  (.tmp 3,.d (D.sl false E.work plan)),
  (.tmp 4,.d (D.ptr 4 0)),
  (.tmp 10,.d (D.row 23 (List.length th))),
  (.tmp 11,.d (D.row 26 (List.length th))),
  (.tmp 12,.d (.bool tn)),
  (.tmp 13,.d (.sl true (.list .int) [])),
  (.tmp 14,.d (.bool rt)),
  (.tmp 15,.d (.I d)),
  (.box 4,.bx (some (Box.mk false (cellsOf (Yab x))))),
  (.box 23,.rw zs),
  (.box 26,.rw os),
  (.obj 101,.ob none)]
def trA_K0 : List Key := [.tmp 2,.tmp 3,.tmp 4,.tmp 10,.tmp 11,.tmp 12,.tmp 13,.tmp 14,.tmp 15,.box 4,.box 23,.box 26,.obj 101]
def Yfd (x : FBook) (th ws : List Int) (plan : List Work) (d : Nat) (tn rt : Bool) (zs os : List Int) (rs : List (List Int)) (k : Nat) : List (Key × Val) :=
 [(.tmp 2,.d (D.sl false E.int ws)),
  (.tmp 3,.d (D.sl false E.work plan)),
  (.tmp 4,.d (D.ptr 4 0)),
  (.tmp 10,.d (D.row 23 (List.length th))),
  (.tmp 11,.d (D.row 26 (List.length th))),
  (.tmp 12,.d (.bool tn)),
  (.tmp 13,.d (.own 101 rs.length)),
  (.tmp 14,.d (.bool rt)),
  (.tmp 15,.d (.I d)),
  (.tmp 17,.d (.I k)),
  (.box 4,.bx (some (Box.mk false (cellsOf (Yab x))))),
  (.box 23,.rw zs),
  (.box 26,.rw os),
  (.obj 101,.ob (some ⟨.list .int,rs⟩))]
def trB_K4 : List Key := [.tmp 2,.tmp 3,.tmp 4,.tmp 10,.tmp 11,.tmp 12,.tmp 13,.tmp 14,.tmp 15,.tmp 17,.box 4,.box 23,.box 26,.obj 101]
def Yej (x : FBook) (th ws : List Int) (plan : List Work) (d : Nat) (tn rt : Bool) (zs os : List Int) (rs : List (List Int)) (j : Nat) : List (Key × Val) :=
 [(.tmp 2,.d (D.sl false E.int ws)),
  (.tmp 3,.d (D.sl false E.work plan)),
  (.tmp 4,.d (D.ptr 4 0)),
  (.tmp 10,.d (D.row 23 (List.length th))),
  (.tmp 11,.d (D.row 26 (List.length th))),
  (.tmp 12,.d (.bool tn)),
  (.tmp 13,.d (.own 101 rs.length)),
  (.tmp 14,.d (.bool rt)),
  (.tmp 15,.d (.I d)),
  (.tmp 19,.d (.I j)),
  (.box 4,.bx (some (Box.mk false (cellsOf (Yab x))))),
  (.box 23,.rw zs),
  (.box 26,.rw os),
  (.obj 101,.ob (some ⟨.list .int,rs⟩))]
def trB_K6 : List Key := [.tmp 2,.tmp 3,.tmp 4,.tmp 10,.tmp 11,.tmp 12,.tmp 13,.tmp 14,.tmp 15,.tmp 19,.box 4,.box 23,.box 26,.obj 101]
def Yex (x : FBook) (th ws : List Int) (plan : List Work) (d : Nat) (tn rt : Bool) (zs os : List Int) (k : Nat) : List (Key × Val) :=
 [(.tmp 2,.d (D.sl false E.int ws)),
  (.tmp 3,.d (D.sl false E.work plan)),
  (.tmp 4,.d (D.ptr 4 0)),
  (.tmp 10,.d (D.row 23 (List.length th))),
  (.tmp 11,.d (D.row 26 (List.length th))),
  (.tmp 12,.d (.bool tn)),
  (.tmp 13,.d (.sl true (.list .int) [])),
  (.tmp 14,.d (.bool rt)),
  (.tmp 15,.d (.I d)),
  (.tmp 17,.d (.I k)),
  (.box 4,.bx (some (Box.mk false (cellsOf (Yab x))))),
  (.box 23,.rw zs),
  (.box 26,.rw os),
  (.obj 101,.ob none)]
def trA_K4 : List Key := [.tmp 2,.tmp 3,.tmp 4,.tmp 10,.tmp 11,.tmp 12,.tmp 13,.tmp 14,.tmp 15,.tmp 17,.box 4,.box 23,.box 26,.obj 101]
theorem trB_2_on (x : FBook) (th ws : List Int) (plan : List Work) (d : Nat) (tn rt : Bool) (zs os : List Int) (rs : List (List Int)) (i : Nat) (l : List Int) (z : Int) :
  runK (MF 141) [(45,true),(53,true)] [(50,.sl false .int l),(52,.I z)] [] (k_80 [1,1,1,1,0,1,0,0,1,0,0,1,0,1,0,0]) (Yge x th ws plan d tn rt zs os rs i) trB_K2 =
   some ([decide ((i : Int) < (th.length : Int)) = true,CF 82 [D.sl false E.work plan,D.I (i : Int)] (D.sl false E.int l),CF 46 [D.sl false E.int l,D.I (d : Int)] (D.I z),decide (z ≥ (0 : Int)) = true,(0 : Int) ≤ (i : Int) ∧ (i : Int) < (th.length : Int),i * 1 < zs.length,Yac ((i : Int) + (1 : Int))],Ex.normal,Yge x th ws plan d tn rt (zs.set (i * 1) x.new) os rs (i + 1)) := by kernel_rfl
theorem trB_2_off (x : FBook) (th ws : List Int) (plan : List Work) (d : Nat) (tn rt : Bool) (zs os : List Int) (rs : List (List Int)) (i : Nat) (l : List Int) (z : Int) :
  runK (MF 141) [(45,true),(53,false)] [(50,.sl false .int l),(52,.I z)] [] (k_80 [1,1,1,1,0,1,0,0,1,0,0,1,0,1,0,0]) (Yge x th ws plan d tn rt zs os rs i) trB_K2 =
   some ([decide ((i : Int) < (th.length : Int)) = true,CF 82 [D.sl false E.work plan,D.I (i : Int)] (D.sl false E.int l),CF 46 [D.sl false E.int l,D.I (d : Int)] (D.I z),decide (z ≥ (0 : Int)) = false,Yac ((i : Int) + (1 : Int))],Ex.normal,Yge x th ws plan d tn rt zs os rs (i + 1)) := by kernel_rfl
theorem trB_2_end (x : FBook) (th ws : List Int) (plan : List Work) (d : Nat) (tn rt : Bool) (zs os : List Int) (rs : List (List Int)) (i : Nat) :
  runK (MF 141) [(45,false)] [] [] (k_80 [1,1,1,1,0,1,0,0,1,0,0,1,0,1,0,0]) (Yge x th ws plan d tn rt zs os rs i) trB_K2 =
   some ([decide ((i : Int) < (th.length : Int)) = false],Ex.exit 2,Yge x th ws plan d tn rt zs os rs i) := by kernel_rfl
theorem trB_4_no (x : FBook) (th ws : List Int) (plan : List Work) (d : Nat) (tn rt : Bool) (zs os : List Int) (rs : List (List Int)) (k : Nat) :
  runK (MF 141) [(64,true),(74,false)] [] [] (k_80 [1,1,1,1,0,1,0,0,1,0,0,1,1,0,1,0,0]) (Yfd x th ws plan d tn rt zs os rs k) trB_K4 =
   some ([decide ((k : Int) < (x.chain.svs.length : Int)) = true,(0 : Int) ≤ (k : Int) ∧ (k : Int) < (x.chain.svs.length : Int),0 + 4 ≤ 4,rt = false,rt = false,rt = false,rt = false,rt = false,rt = false,rt = false,Yac ((k : Int) + (1 : Int))],Ex.normal,Yfd x th ws plan d tn false zs os rs (k + 1)) := by kernel_rfl
theorem trB_4_skip (x : FBook) (th ws : List Int) (plan : List Work) (d : Nat) (tn rt : Bool) (zs os : List Int) (rs : List (List Int)) (k : Nat) :
  runK (MF 141) [(64,true),(74,true),(79,true)] [] [] (k_80 [1,1,1,1,0,1,0,0,1,0,0,1,1,0,1,0,0]) (Yfd x th ws plan d tn rt zs os rs k) trB_K4 =
   let Z0 := Sv.d (List.getD x.chain.svs (k) (E.z E.sv)) != (d : Int); some ([decide ((k : Int) < (x.chain.svs.length : Int)) = true,(0 : Int) ≤ (k : Int) ∧ (k : Int) < (x.chain.svs.length : Int),0 + 4 ≤ 4,rt = true,rt = true,0 + 1 + 1 ≤ 4,rt = true,rt = true,rt = true,Z0 = true,Z0 = true,Z0 = true,Z0 = true,Z0 = true,Z0 = true,Z0 = true,Z0 = true,Z0 = true,Z0 = true,Z0 = true,Z0 = true,Z0 = true,Z0 = true,rt = true,Z0 = true,rt = true,Yac ((k : Int) + (1 : Int))],Ex.normal,Yfd x th ws plan d tn true zs os rs (k + 1)) := by kernel_rfl
theorem trB_4_look (x : FBook) (th ws : List Int) (plan : List Work) (d : Nat) (tn rt : Bool) (zs os : List Int) (rs : List (List Int)) (k : Nat) (g : Bool) :
  runK (MF 141) [(64,true),(74,true),(79,false)] [(93,.bool g)] [] (k_80 [1,1,1,1,0,1,0,0,1,0,0,1,1,0,1,0,0]) (Yfd x th ws plan d tn rt zs os rs k) trB_K4 =
   let Z0 := List.getD x.chain.svs (k) (E.z E.sv); let Z1 := Sv.d Z0 != (d : Int); let Z2 := Sv.r Z0 - List.getD os (Int.toNat (Sv.s Z0) * 1) (0 : Int); some ([decide ((k : Int) < (x.chain.svs.length : Int)) = true,(0 : Int) ≤ (k : Int) ∧ (k : Int) < (x.chain.svs.length : Int),0 + 4 ≤ 4,rt = true,rt = true,0 + 1 + 1 ≤ 4,rt = true,rt = true,rt = true,Z1 = false,Z1 = false,0 + 2 + 1 ≤ 4,Z1 = false,Z1 = false,Z1 = false,0 + 0 + 1 ≤ 4,Z1 = false,(0 : Int) ≤ Sv.s Z0 ∧ Sv.s Z0 < (th.length : Int),Z1 = false,Int.toNat (Sv.s Z0) * 1 + 1 ≤ os.length,Z1 = false,Yac Z2,Z1 = false,Z1 = false,0 + 3 + 1 ≤ 4,Z1 = false,Yac ((0 : Int) - Sv.e Z0),Z1 = false,Z1 = false,0 + 3 + 1 ≤ 4,Z1 = false,CF 50 [D.I Z2,D.I ((0 : Int) - Sv.e Z0),D.I (Sv.e Z0)] (D.bool g),rt = true,Z1 = false,rt = true,Yac ((k : Int) + (1 : Int))],Ex.normal,Yfd x th ws plan d tn g zs os rs (k + 1)) := by kernel_rfl
theorem trB_4_end (x : FBook) (th ws : List Int) (plan : List Work) (d : Nat) (tn rt : Bool) (zs os : List Int) (rs : List (List Int)) (k : Nat) :
  runK (MF 141) [(64,false)] [] [] (k_80 [1,1,1,1,0,1,0,0,1,0,0,1,1,0,1,0,0]) (Yfd x th ws plan d tn rt zs os rs k) trB_K4 =
   some ([decide ((k : Int) < (x.chain.svs.length : Int)) = false],Ex.exit 4,Yfd x th ws plan d tn rt zs os rs k) := by kernel_rfl
theorem trB_6_lie (x : FBook) (th ws : List Int) (plan : List Work) (d : Nat) (tn rt : Bool) (zs os : List Int) (rs : List (List Int)) (j : Nat) :
  runK (MF 141) [(105,true),(109,false)] [] [] (k_80 [1,1,1,1,0,1,0,0,1,0,0,1,1,1,1,1,0,0]) (Yej x th ws plan d tn rt zs os rs j) trB_K6 =
   some ([decide ((j : Int) < (th.length : Int)) = true,tn = false,(0 : Int) ≤ (j : Int) ∧ (j : Int) < (th.length : Int),j * 1 + 1 ≤ zs.length,(0 : Int) ≤ (j : Int) ∧ (j : Int) < (ws.length : Int),0 + 1 ≤ 1,Yac (List.getD zs (j * 1) (0 : Int) - List.getD ws (j) (0 : Int)),(0 : Int) ≤ (j : Int) ∧ (j : Int) < (th.length : Int),j * 1 + 1 ≤ os.length,(0 : Int) ≤ (j : Int) ∧ (j : Int) < (ws.length : Int),0 + 1 ≤ 1,Yac (List.getD os (j * 1) (0 : Int) - List.getD ws (j) (0 : Int)),(0 : Int) ≤ (j : Int) ∧ (j : Int) < (th.length : Int),j * 1 < zs.length,(0 : Int) ≤ (j : Int) ∧ (j : Int) < (th.length : Int),j * 1 < os.length,Yac ((j : Int) + (1 : Int))],Ex.normal,Yej x th ws plan d tn rt (zs.set (j * 1) (zs.getD (j * 1) 0 - ws.getD j 0)) (os.set (j * 1) (os.getD (j * 1) 0 - ws.getD j 0)) rs (j + 1)) := by kernel_rfl
theorem trB_6_turn (x : FBook) (th ws : List Int) (plan : List Work) (d : Nat) (tn rt : Bool) (zs os : List Int) (rs : List (List Int)) (j : Nat) :
  runK (MF 141) [(105,true),(109,true)] [] [] (k_80 [1,1,1,1,0,1,0,0,1,0,0,1,1,1,1,1,0,0]) (Yej x th ws plan d tn rt zs os rs j) trB_K6 =
   let Z0 := Int.toNat ((th.length : Int) - (1 : Int) - (j : Int)); let Z1 := Int.toNat ((th.length : Int) - 1 - j); some ([decide ((j : Int) < (th.length : Int)) = true,tn = true,Yac ((th.length : Int) - (1 : Int)),Yac ((th.length : Int) - (1 : Int) - (j : Int)),(0 : Int) ≤ (j : Int) ∧ (j : Int) < (th.length : Int),j * 1 + 1 ≤ zs.length,(0 : Int) ≤ (th.length : Int) - (1 : Int) - (j : Int) ∧ (th.length : Int) - (1 : Int) - (j : Int) < (ws.length : Int),0 + 1 ≤ 1,Yac (List.getD zs (j * 1) (0 : Int) - List.getD ws Z0 (0 : Int)),(0 : Int) ≤ (j : Int) ∧ (j : Int) < (th.length : Int),j * 1 + 1 ≤ os.length,(0 : Int) ≤ (th.length : Int) - (1 : Int) - (j : Int) ∧ (th.length : Int) - (1 : Int) - (j : Int) < (ws.length : Int),0 + 1 ≤ 1,Yac (List.getD os (j * 1) (0 : Int) - List.getD ws Z0 (0 : Int)),(0 : Int) ≤ (j : Int) ∧ (j : Int) < (th.length : Int),j * 1 < zs.length,(0 : Int) ≤ (j : Int) ∧ (j : Int) < (th.length : Int),j * 1 < os.length,Yac ((j : Int) + (1 : Int))],Ex.normal,Yej x th ws plan d tn rt (zs.set (j * 1) (zs.getD (j * 1) 0 - ws.getD Z1 0)) (os.set (j * 1) (os.getD (j * 1) 0 - ws.getD Z1 0)) rs (j + 1)) := by kernel_rfl
theorem trB_6_end (x : FBook) (th ws : List Int) (plan : List Work) (d : Nat) (tn rt : Bool) (zs os : List Int) (rs : List (List Int)) (j : Nat) :
  runK (MF 141) [(105,false)] [] [] (k_80 [1,1,1,1,0,1,0,0,1,0,0,1,1,1,1,1,0,0]) (Yej x th ws plan d tn rt zs os rs j) trB_K6 =
   some ([decide ((j : Int) < (th.length : Int)) = false],Ex.exit 6,Yej x th ws plan d tn rt zs os rs j) := by kernel_rfl
theorem trB_0_no (x : FBook) (th ws : List Int) (plan : List Work) (d : Nat) (tn rt : Bool) (zs os : List Int) (rs : List (List Int)) (z : Int) (i k j : Nat) (zs2 zs3 os3 : List Int) (rt2 : Bool) :
  runK (MF 141) [(31,true),(39,false)] [(38,.I z)] [(2,(trB_K2,(.normal,Yge x th ws plan d tn rt zs2 os rs i))),(4,(trB_K4,(.normal,Yfd x th ws plan d tn rt2 zs2 os rs k))),(6,(trB_K6,(.normal,Yej x th ws plan d tn rt2 zs3 os3 (rs ++ [zs2]) j)))] (k_80 [1,1,1,1,0,1,0,0]) (Yfe x th ws plan d tn rt zs os rs) trB_K0 =
   let Z0 := D.sl false E.work plan; let Z1 := D.sl false E.int ws; let Z2 := D.row 23 th.length; let Z3 := D.row 26 th.length; some ([decide ((d : Int) ≤ x.chain.days) = true,CF 46 [D.sl false E.int x.chain.turns,D.I (d : Int)] (D.I z),decide (z ≥ (0 : Int)) = false,LF 141 (k_80 [1,1,1,1,0,1,0,0,1,0,0,1,0,1]) [(.tmp 2,.d Z1),(.tmp 3,.d Z0),(.tmp 4,.d (D.ptr 4 0)),(.tmp 10,.d Z2),(.tmp 11,.d Z3),(.tmp 12,.d (D.bool tn)),(.tmp 13,.d (D.own 101 rs.length)),(.tmp 14,.d (D.bool rt)),(.tmp 15,.d (D.I (d : Int))),(.tmp 16,.d (D.I 0)),(.box 4,.bx (some (Box.mk false (cellsOf (Yab x))))),(.box 23,Val.rw zs),(.box 26,Val.rw os),(.obj 101,.ob (some (Ob.mk (E.list E.int) rs)))] Ex.normal (Yge x th ws plan d tn rt zs2 os rs i),LF 141 (k_80 [1,1,1,1,0,1,0,0,1,0,0,1,1,0,1]) [(.tmp 2,.d Z1),(.tmp 3,.d Z0),(.tmp 4,.d (D.ptr 4 0)),(.tmp 10,.d Z2),(.tmp 11,.d Z3),(.tmp 12,.d (D.bool tn)),(.tmp 13,.d (D.own 101 rs.length)),(.tmp 14,.d (D.bool rt)),(.tmp 15,.d (D.I (d : Int))),(.tmp 17,.d (D.I 0)),(.box 4,.bx (some (Box.mk false (cellsOf (Yab x))))),(.box 23,Val.rw zs2),(.box 26,Val.rw os),(.obj 101,.ob (some (Ob.mk (E.list E.int) rs)))] Ex.normal (Yfd x th ws plan d tn rt2 zs2 os rs k),th.length = zs2.length ∧ 0 < th.length ∧ th.length * (8 + 1) ≤ 140737488355328,zs2.length = List.length (zs2),rs.length = List.length (rs),List.length (rs ++ [zs2]) * (24 + 1) ≤ 140737488355328,LF 141 (k_80 [1,1,1,1,0,1,0,0,1,0,0,1,1,1,1,1]) [(.tmp 2,.d Z1),(.tmp 3,.d Z0),(.tmp 4,.d (D.ptr 4 0)),(.tmp 10,.d Z2),(.tmp 11,.d Z3),(.tmp 12,.d (D.bool tn)),(.tmp 13,.d (D.own 101 (List.length (rs ++ [zs2])))),(.tmp 14,.d (D.bool rt2)),(.tmp 15,.d (D.I (d : Int))),(.tmp 19,.d (D.I 0)),(.box 4,.bx (some (Box.mk false (cellsOf (Yab x))))),(.box 23,Val.rw zs2),(.box 26,Val.rw os),(.obj 101,.ob (some (Ob.mk (E.list E.int) (rs ++ [zs2]))))] Ex.normal (Yej x th ws plan d tn rt2 zs3 os3 (rs ++ [zs2]) j),Yac ((d : Int) + (1 : Int))],Ex.normal,Yfe x th ws plan (d + 1) tn rt2 zs3 os3 (rs ++ [zs2])) := by kernel_rfl
theorem trB_0_turn (x : FBook) (th ws : List Int) (plan : List Work) (d : Nat) (tn rt : Bool) (zs os : List Int) (rs : List (List Int)) (z : Int) (i k j : Nat) (zs2 zs3 os3 : List Int) (rt2 : Bool) :
  runK (MF 141) [(31,true),(39,true)] [(38,.I z)] [(2,(trB_K2,(.normal,Yge x th ws plan d (!tn) rt zs2 os rs i))),(4,(trB_K4,(.normal,Yfd x th ws plan d (!tn) rt2 zs2 os rs k))),(6,(trB_K6,(.normal,Yej x th ws plan d (!tn) rt2 zs3 os3 (rs ++ [zs2]) j)))] (k_80 [1,1,1,1,0,1,0,0]) (Yfe x th ws plan d tn rt zs os rs) trB_K0 =
   let Z0 := D.sl false E.work plan; let Z1 := D.sl false E.int ws; let Z2 := D.row 23 th.length; let Z3 := D.row 26 th.length; some ([decide ((d : Int) ≤ x.chain.days) = true,CF 46 [D.sl false E.int x.chain.turns,D.I (d : Int)] (D.I z),decide (z ≥ (0 : Int)) = true,LF 141 (k_80 [1,1,1,1,0,1,0,0,1,0,0,1,0,1]) [(.tmp 2,.d Z1),(.tmp 3,.d Z0),(.tmp 4,.d (D.ptr 4 0)),(.tmp 10,.d Z2),(.tmp 11,.d Z3),(.tmp 12,.d (D.bool !tn)),(.tmp 13,.d (D.own 101 rs.length)),(.tmp 14,.d (D.bool rt)),(.tmp 15,.d (D.I (d : Int))),(.tmp 16,.d (D.I 0)),(.box 4,.bx (some (Box.mk false (cellsOf (Yab x))))),(.box 23,Val.rw zs),(.box 26,Val.rw os),(.obj 101,.ob (some (Ob.mk (E.list E.int) rs)))] Ex.normal (Yge x th ws plan d (!tn) rt zs2 os rs i),LF 141 (k_80 [1,1,1,1,0,1,0,0,1,0,0,1,1,0,1]) [(.tmp 2,.d Z1),(.tmp 3,.d Z0),(.tmp 4,.d (D.ptr 4 0)),(.tmp 10,.d Z2),(.tmp 11,.d Z3),(.tmp 12,.d (D.bool !tn)),(.tmp 13,.d (D.own 101 rs.length)),(.tmp 14,.d (D.bool rt)),(.tmp 15,.d (D.I (d : Int))),(.tmp 17,.d (D.I 0)),(.box 4,.bx (some (Box.mk false (cellsOf (Yab x))))),(.box 23,Val.rw zs2),(.box 26,Val.rw os),(.obj 101,.ob (some (Ob.mk (E.list E.int) rs)))] Ex.normal (Yfd x th ws plan d (!tn) rt2 zs2 os rs k),th.length = zs2.length ∧ 0 < th.length ∧ th.length * (8 + 1) ≤ 140737488355328,zs2.length = List.length (zs2),rs.length = List.length (rs),List.length (rs ++ [zs2]) * (24 + 1) ≤ 140737488355328,LF 141 (k_80 [1,1,1,1,0,1,0,0,1,0,0,1,1,1,1,1]) [(.tmp 2,.d Z1),(.tmp 3,.d Z0),(.tmp 4,.d (D.ptr 4 0)),(.tmp 10,.d Z2),(.tmp 11,.d Z3),(.tmp 12,.d (D.bool !tn)),(.tmp 13,.d (D.own 101 (List.length (rs ++ [zs2])))),(.tmp 14,.d (D.bool rt2)),(.tmp 15,.d (D.I (d : Int))),(.tmp 19,.d (D.I 0)),(.box 4,.bx (some (Box.mk false (cellsOf (Yab x))))),(.box 23,Val.rw zs2),(.box 26,Val.rw os),(.obj 101,.ob (some (Ob.mk (E.list E.int) (rs ++ [zs2]))))] Ex.normal (Yej x th ws plan d (!tn) rt2 zs3 os3 (rs ++ [zs2]) j),Yac ((d : Int) + (1 : Int))],Ex.normal,Yfe x th ws plan (d + 1) (!tn) rt2 zs3 os3 (rs ++ [zs2])) := by kernel_rfl
theorem trB_0_end (x : FBook) (th ws : List Int) (plan : List Work) (d : Nat) (tn rt : Bool) (zs os : List Int) (rs : List (List Int)) :
  runK (MF 141) [(31,false)] [] [] (k_80 [1,1,1,1,0,1,0,0]) (Yfe x th ws plan d tn rt zs os rs) trB_K0 =
   some ([decide ((d : Int) ≤ x.chain.days) = false],Ex.exit 0,Yfe x th ws plan d tn rt zs os rs) := by kernel_rfl
theorem trA_2_on (x : FBook) (th ws : List Int) (plan : List Work) (d : Nat) (tn rt : Bool) (zs os : List Int) (i : Nat) (l : List Int) (z : Int) :
  runK (MF 141) [(45,true),(53,true)] [(50,.sl false .int l),(52,.I z)] [] (k_80 [1,1,1,1,0,1,0,0,1,0,0,1,0,1,0,0]) (Yfs x th ws plan d tn rt zs os i) trA_K2 =
   some ([decide ((i : Int) < (th.length : Int)) = true,CF 82 [D.sl false E.work plan,D.I (i : Int)] (D.sl false E.int l),CF 46 [D.sl false E.int l,D.I (d : Int)] (D.I z),decide (z ≥ (0 : Int)) = true,(0 : Int) ≤ (i : Int) ∧ (i : Int) < (th.length : Int),i * 1 < zs.length,Yac ((i : Int) + (1 : Int))],Ex.normal,Yfs x th ws plan d tn rt (zs.set (i * 1) x.new) os (i + 1)) := by kernel_rfl
theorem trA_2_off (x : FBook) (th ws : List Int) (plan : List Work) (d : Nat) (tn rt : Bool) (zs os : List Int) (i : Nat) (l : List Int) (z : Int) :
  runK (MF 141) [(45,true),(53,false)] [(50,.sl false .int l),(52,.I z)] [] (k_80 [1,1,1,1,0,1,0,0,1,0,0,1,0,1,0,0]) (Yfs x th ws plan d tn rt zs os i) trA_K2 =
   some ([decide ((i : Int) < (th.length : Int)) = true,CF 82 [D.sl false E.work plan,D.I (i : Int)] (D.sl false E.int l),CF 46 [D.sl false E.int l,D.I (d : Int)] (D.I z),decide (z ≥ (0 : Int)) = false,Yac ((i : Int) + (1 : Int))],Ex.normal,Yfs x th ws plan d tn rt zs os (i + 1)) := by kernel_rfl
theorem trA_2_end (x : FBook) (th ws : List Int) (plan : List Work) (d : Nat) (tn rt : Bool) (zs os : List Int) (i : Nat) :
  runK (MF 141) [(45,false)] [] [] (k_80 [1,1,1,1,0,1,0,0,1,0,0,1,0,1,0,0]) (Yfs x th ws plan d tn rt zs os i) trA_K2 =
   some ([decide ((i : Int) < (th.length : Int)) = false],Ex.exit 2,Yfs x th ws plan d tn rt zs os i) := by kernel_rfl
theorem trA_4_no (x : FBook) (th ws : List Int) (plan : List Work) (d : Nat) (tn rt : Bool) (zs os : List Int) (k : Nat) :
  runK (MF 141) [(64,true),(74,false)] [] [] (k_80 [1,1,1,1,0,1,0,0,1,0,0,1,1,0,1,0,0]) (Yex x th ws plan d tn rt zs os k) trA_K4 =
   some ([decide ((k : Int) < (x.chain.svs.length : Int)) = true,(0 : Int) ≤ (k : Int) ∧ (k : Int) < (x.chain.svs.length : Int),0 + 4 ≤ 4,rt = false,rt = false,rt = false,rt = false,rt = false,rt = false,rt = false,Yac ((k : Int) + (1 : Int))],Ex.normal,Yex x th ws plan d tn false zs os (k + 1)) := by kernel_rfl
theorem trA_4_skip (x : FBook) (th ws : List Int) (plan : List Work) (d : Nat) (tn rt : Bool) (zs os : List Int) (k : Nat) :
  runK (MF 141) [(64,true),(74,true),(79,true)] [] [] (k_80 [1,1,1,1,0,1,0,0,1,0,0,1,1,0,1,0,0]) (Yex x th ws plan d tn rt zs os k) trA_K4 =
   let Z0 := Sv.d (List.getD x.chain.svs (k) (E.z E.sv)) != (d : Int); some ([decide ((k : Int) < (x.chain.svs.length : Int)) = true,(0 : Int) ≤ (k : Int) ∧ (k : Int) < (x.chain.svs.length : Int),0 + 4 ≤ 4,rt = true,rt = true,0 + 1 + 1 ≤ 4,rt = true,rt = true,rt = true,Z0 = true,Z0 = true,Z0 = true,Z0 = true,Z0 = true,Z0 = true,Z0 = true,Z0 = true,Z0 = true,Z0 = true,Z0 = true,Z0 = true,Z0 = true,Z0 = true,rt = true,Z0 = true,rt = true,Yac ((k : Int) + (1 : Int))],Ex.normal,Yex x th ws plan d tn true zs os (k + 1)) := by kernel_rfl
theorem trA_4_look (x : FBook) (th ws : List Int) (plan : List Work) (d : Nat) (tn rt : Bool) (zs os : List Int) (k : Nat) (g : Bool) :
  runK (MF 141) [(64,true),(74,true),(79,false)] [(93,.bool g)] [] (k_80 [1,1,1,1,0,1,0,0,1,0,0,1,1,0,1,0,0]) (Yex x th ws plan d tn rt zs os k) trA_K4 =
   let Z0 := List.getD x.chain.svs (k) (E.z E.sv); let Z1 := Sv.d Z0 != (d : Int); let Z2 := Sv.r Z0 - List.getD os (Int.toNat (Sv.s Z0) * 1) (0 : Int); some ([decide ((k : Int) < (x.chain.svs.length : Int)) = true,(0 : Int) ≤ (k : Int) ∧ (k : Int) < (x.chain.svs.length : Int),0 + 4 ≤ 4,rt = true,rt = true,0 + 1 + 1 ≤ 4,rt = true,rt = true,rt = true,Z1 = false,Z1 = false,0 + 2 + 1 ≤ 4,Z1 = false,Z1 = false,Z1 = false,0 + 0 + 1 ≤ 4,Z1 = false,(0 : Int) ≤ Sv.s Z0 ∧ Sv.s Z0 < (th.length : Int),Z1 = false,Int.toNat (Sv.s Z0) * 1 + 1 ≤ os.length,Z1 = false,Yac Z2,Z1 = false,Z1 = false,0 + 3 + 1 ≤ 4,Z1 = false,Yac ((0 : Int) - Sv.e Z0),Z1 = false,Z1 = false,0 + 3 + 1 ≤ 4,Z1 = false,CF 50 [D.I Z2,D.I ((0 : Int) - Sv.e Z0),D.I (Sv.e Z0)] (D.bool g),rt = true,Z1 = false,rt = true,Yac ((k : Int) + (1 : Int))],Ex.normal,Yex x th ws plan d tn g zs os (k + 1)) := by kernel_rfl
theorem trA_4_end (x : FBook) (th ws : List Int) (plan : List Work) (d : Nat) (tn rt : Bool) (zs os : List Int) (k : Nat) :
  runK (MF 141) [(64,false)] [] [] (k_80 [1,1,1,1,0,1,0,0,1,0,0,1,1,0,1,0,0]) (Yex x th ws plan d tn rt zs os k) trA_K4 =
   some ([decide ((k : Int) < (x.chain.svs.length : Int)) = false],Ex.exit 4,Yex x th ws plan d tn rt zs os k) := by kernel_rfl
theorem trA_0_no (x : FBook) (th ws : List Int) (plan : List Work) (d : Nat) (tn rt : Bool) (zs os : List Int) (z : Int) (i k j : Nat) (zs2 zs3 os3 : List Int) (rt2 : Bool) :
  runK (MF 141) [(31,true),(39,false)] [(38,.I z)] [(2,(trA_K2,(.normal,Yfs x th ws plan d tn rt zs2 os i))),(4,(trA_K4,(.normal,Yex x th ws plan d tn rt2 zs2 os k))),(6,(trB_K6,(.normal,Yej x th ws plan d tn rt2 zs3 os3 [zs2] j)))] (k_80 [1,1,1,1,0,1,0,0]) (trA_S0 x th ws plan d tn rt zs os) trB_K0 =
   some ([decide ((d : Int) ≤ x.chain.days) = true,CF 46 [D.sl false E.int x.chain.turns,D.I (d : Int)] (D.I z),decide (z ≥ (0 : Int)) = false,LF 141 (k_80 [1,1,1,1,0,1,0,0,1,0,0,1,0,1]) (Yfs x th ws plan d tn rt zs os 0) Ex.normal (Yfs x th ws plan d tn rt zs2 os i),LF 141 (k_80 [1,1,1,1,0,1,0,0,1,0,0,1,1,0,1]) (Yex x th ws plan d tn rt zs2 os 0) Ex.normal (Yex x th ws plan d tn rt2 zs2 os k),th.length = zs2.length ∧ 0 < th.length ∧ th.length * (8 + 1) ≤ 140737488355328,zs2.length = List.length (zs2),1 * (24 + 1) ≤ 140737488355328,LF 141 (k_80 [1,1,1,1,0,1,0,0,1,0,0,1,1,1,1,1]) [(.tmp 2,.d (D.sl false E.int ws)),(.tmp 3,.d (D.sl false E.work plan)),(.tmp 4,.d (D.ptr 4 0)),(.tmp 10,.d (D.row 23 th.length)),(.tmp 11,.d (D.row 26 th.length)),(.tmp 12,.d (D.bool tn)),(.tmp 13,.d (D.own 101 1)),(.tmp 14,.d (D.bool rt2)),(.tmp 15,.d (D.I (d : Int))),(.tmp 19,.d (D.I 0)),(.box 4,.bx (some (Box.mk false (cellsOf (Yab x))))),(.box 23,Val.rw zs2),(.box 26,Val.rw os),(.obj 101,.ob (some (Ob.mk (E.list E.int) ([] ++ [zs2]))))] Ex.normal (Yej x th ws plan d tn rt2 zs3 os3 [zs2] j),Yac ((d : Int) + (1 : Int))],Ex.normal,Yfe x th ws plan (d + 1) tn rt2 zs3 os3 [zs2]) := by kernel_rfl
theorem trA_0_turn (x : FBook) (th ws : List Int) (plan : List Work) (d : Nat) (tn rt : Bool) (zs os : List Int) (z : Int) (i k j : Nat) (zs2 zs3 os3 : List Int) (rt2 : Bool) :
  runK (MF 141) [(31,true),(39,true)] [(38,.I z)] [(2,(trA_K2,(.normal,Yfs x th ws plan d (!tn) rt zs2 os i))),(4,(trA_K4,(.normal,Yex x th ws plan d (!tn) rt2 zs2 os k))),(6,(trB_K6,(.normal,Yej x th ws plan d (!tn) rt2 zs3 os3 [zs2] j)))] (k_80 [1,1,1,1,0,1,0,0]) (trA_S0 x th ws plan d tn rt zs os) trB_K0 =
   let Z0 := D.sl false E.work plan; let Z1 := D.sl false E.int ws; let Z2 := D.row 23 th.length; let Z3 := D.row 26 th.length; let Z4 := D.sl true (E.list E.int) []; some ([decide ((d : Int) ≤ x.chain.days) = true,CF 46 [D.sl false E.int x.chain.turns,D.I (d : Int)] (D.I z),decide (z ≥ (0 : Int)) = true,LF 141 (k_80 [1,1,1,1,0,1,0,0,1,0,0,1,0,1]) [(.tmp 2,.d Z1),(.tmp 3,.d Z0),(.tmp 4,.d (D.ptr 4 0)),(.tmp 10,.d Z2),(.tmp 11,.d Z3),(.tmp 12,.d (D.bool !tn)),(.tmp 13,.d Z4),(.tmp 14,.d (D.bool rt)),(.tmp 15,.d (D.I (d : Int))),(.tmp 16,.d (D.I 0)),(.box 4,.bx (some (Box.mk false (cellsOf (Yab x))))),(.box 23,Val.rw zs),(.box 26,Val.rw os),(.obj 101,.ob Option.none)] Ex.normal (Yfs x th ws plan d (!tn) rt zs2 os i),LF 141 (k_80 [1,1,1,1,0,1,0,0,1,0,0,1,1,0,1]) [(.tmp 2,.d Z1),(.tmp 3,.d Z0),(.tmp 4,.d (D.ptr 4 0)),(.tmp 10,.d Z2),(.tmp 11,.d Z3),(.tmp 12,.d (D.bool !tn)),(.tmp 13,.d Z4),(.tmp 14,.d (D.bool rt)),(.tmp 15,.d (D.I (d : Int))),(.tmp 17,.d (D.I 0)),(.box 4,.bx (some (Box.mk false (cellsOf (Yab x))))),(.box 23,Val.rw zs2),(.box 26,Val.rw os),(.obj 101,.ob Option.none)] Ex.normal (Yex x th ws plan d (!tn) rt2 zs2 os k),th.length = zs2.length ∧ 0 < th.length ∧ th.length * (8 + 1) ≤ 140737488355328,zs2.length = List.length (zs2),1 * (24 + 1) ≤ 140737488355328,LF 141 (k_80 [1,1,1,1,0,1,0,0,1,0,0,1,1,1,1,1]) [(.tmp 2,.d Z1),(.tmp 3,.d Z0),(.tmp 4,.d (D.ptr 4 0)),(.tmp 10,.d Z2),(.tmp 11,.d Z3),(.tmp 12,.d (D.bool !tn)),(.tmp 13,.d (D.own 101 1)),(.tmp 14,.d (D.bool rt2)),(.tmp 15,.d (D.I (d : Int))),(.tmp 19,.d (D.I 0)),(.box 4,.bx (some (Box.mk false (cellsOf (Yab x))))),(.box 23,Val.rw zs2),(.box 26,Val.rw os),(.obj 101,.ob (some (Ob.mk (E.list E.int) ([] ++ [zs2]))))] Ex.normal (Yej x th ws plan d (!tn) rt2 zs3 os3 [zs2] j),Yac ((d : Int) + (1 : Int))],Ex.normal,Yfe x th ws plan (d + 1) (!tn) rt2 zs3 os3 [zs2]) := by kernel_rfl
theorem chooseX_nil (xs : List Int) (n : Int) :
  Yag (MF 15) [(7,true)] [] [] (body Tryd.f75) [.tmp 4] [.sl false .int xs,.I n] =
   some ([((xs.length : Int) == (0 : Int)) = true],D.I 0) := by kernel_rfl
theorem chooseX_some (xs : List Int) (n : Int) (k : Int) :
  Yag (MF 15) [(7,false)] [(12,.I k)] [] (body Tryd.f75) [.tmp 4] [.sl false .int xs,.I n] =
   some ([((xs.length : Int) == (0 : Int)) = false,CF 39 [D.I n,D.I ((xs.length : Int))] (D.I k),(0 : Int) ≤ k ∧ k < (xs.length : Int),0 + 1 ≤ 1],D.I (List.getD xs (Int.toNat k) (0 : Int))) := by kernel_rfl
theorem withinX_all (s : Span) (n : Int) (k : Int) :
  Yag (MF 16) [] [(14,.I k)] [] (body Tryd.f74) [.tmp 4] [spD s,.I n] =
   some ([0 + 0 + 1 ≤ 2,0 + 1 + 1 ≤ 2,0 + 0 + 1 ≤ 2,Yac (s.hi - s.lo),Yac (s.hi - s.lo + (1 : Int)),CF 39 [D.I n,D.I (s.hi - s.lo + (1 : Int))] (D.I k),Yac (s.lo + k)],D.I (s.lo + k)) := by kernel_rfl
theorem trA_all (x : FBook) (th ws : List Int) (plan : List Work) (d : Nat) (tn rt : Bool) (zs os : List Int) (rs : List (List Int)) :
  Yag (MF 141) [] [(23,.row 23 0),(26,.row 26 0)] [(0,(trA_K0,(.normal,Yfe x th ws plan d tn rt zs os rs)))] (body Tryd.f80) [.tmp 8,.tmp 9] [Yab x,.sl false .int th,.sl false .int ws,.sl false .work plan] =
   let Z0 : Prop := 0 < th.length ∧ th.length * (8 + 1) ≤ 140737488355328; some ([Z0,Z0,LF 141 (k_80 [1,1,1,1,0,1]) [(.tmp 2,.d (D.sl false E.int ws)),(.tmp 3,.d (D.sl false E.work plan)),(.tmp 4,.d (D.ptr 4 0)),(.tmp 10,.d (D.row 23 th.length)),(.tmp 11,.d (D.row 26 th.length)),(.tmp 12,.d (D.bool false)),(.tmp 13,.d (D.sl true (E.list E.int) [])),(.tmp 14,.d (D.bool true)),(.tmp 15,.d (D.I 0)),(.box 4,.bx (some (Box.mk false (cellsOf (Yab x))))),(.box 23,Val.rw th),(.box 26,Val.rw th),(.obj 101,.ob Option.none)] Ex.normal (Yfe x th ws plan d tn rt zs os rs),rs.length = List.length (rs)],D.tup [D.bool rt,D.sl false (E.list E.int) (rs)]) := by kernel_rfl
end Go.Di

namespace Go.Di
open Proofs
end Go.Di

namespace Go.Di
open Proofs
section
variable {x : FBook} (hV : FValid x) (hc : canF x.chain = true)
include hV hc
end
end Go.Di

