/- Part 17: contracts are proved. No condition. -/
import Derived.Test.YtfkmodcjddfeiaaDoorDi16
set_option linter.unusedVariables false
set_option linter.unusedSimpArgs false
namespace Go.Di
open Proofs
def SatE (b : Book) (x : W4) (k t : Int) (e : Ent) : Prop := eqI [e.1.1,e.1.2] [-1,-1] = false → (e.1.1 == k) = true → e.2.lo + Ydz b.secs.length x.a x.b x.c x.d b.turns k e.1.2.toNat ≤ t ∧ t ≤ e.2.hi + Ydz b.secs.length x.a x.b x.c x.d b.turns k e.1.2.toNat
theorem both_in {s u : Span} {t : Int} : ((bothF s u).lo ≤ t ∧ t ≤ (bothF s u).hi) ↔ (s.lo ≤ t ∧ t ≤ s.hi) ∧ (u.lo ≤ t ∧ t ≤ u.hi) := by
 simp only [bothF,mx,mn]
 constructor
 ·intro h
  split at h <;> split at h <;> omega
 ·intro h
  split <;> split <;> omega
theorem right_fold (b : Book) (x : W4) (k t : Int) : ∀ (l : List Ent) (s : Span),((l.foldl (Ya2 b x.a x.b x.c x.d k) s).lo ≤ t ∧ t ≤ (l.foldl (Ya2 b x.a x.b x.c x.d k) s).hi) ↔ (s.lo ≤ t ∧ t ≤ s.hi) ∧ ∀ e ∈ l,SatE b x k t e
 | [],s => by simp
 | e :: l,s => by
  simp only [List.foldl_cons]
  rw [right_fold b x k t l]
  have : ((Ya2 b x.a x.b x.c x.d k s e).lo ≤ t ∧ t ≤ (Ya2 b x.a x.b x.c x.d k s e).hi) ↔ (s.lo ≤ t ∧ t ≤ s.hi) ∧ SatE b x k t e := by
   unfold Ya2 SatE
   by_cases h : eqI [e.1.1,e.1.2] [-1,-1] = false ∧ (e.1.1 == k) = true
   ·rw [if_pos h,both_in]
    exact and_congr_right fun _ => ⟨fun h' _ _ => h',fun h' => h' h.1 h.2⟩
   ·rw [if_neg h]
    constructor
    ·exact fun h' => ⟨h',fun h1 h2 => absurd ⟨h1,h2⟩ h⟩
    ·exact fun h' => h'.1
  rw [this]
  simp only [List.mem_cons,forall_eq_or_imp]
  exact and_assoc
def SatY (b : Book) (x : W4) (k t : Int) (y : Sv) : Prop := y.s = k → y.r - y.e + Ydz b.secs.length x.a x.b x.c x.d b.turns k y.d.toNat ≤ t ∧ t ≤ y.r + y.e + Ydz b.secs.length x.a x.b x.c x.d b.turns k y.d.toNat
theorem eqI_key {a c : Int} (h : 0 ≤ a) : eqI [a,c] [-1,-1] = false := by
 cases hq : eqI [a,c] [-1,-1] with
 | false => rfl
 | true =>
  have := (eqI_iff _ _).1 hq
  simp only [List.cons.injEq,and_true] at this
  omega
theorem satE_key {b : Book} {x : W4} {k t : Int} {ks kd : Int} (h : 0 ≤ ks) (s u : Span) : SatE b x k t ((ks,kd),bothF s u) ↔ SatE b x k t ((ks,kd),s) ∧ SatE b x k t ((ks,kd),u) := by
 unfold SatE
 simp only [eqI_key h,true_implies]
 have e : ∀ z : Span,(z.lo + Ydz b.secs.length x.a x.b x.c x.d b.turns k kd.toNat ≤ t ∧ t ≤ z.hi + Ydz b.secs.length x.a x.b x.c x.d b.turns k kd.toNat) ↔ (z.lo ≤ t - Ydz b.secs.length x.a x.b x.c x.d b.turns k kd.toNat ∧ t - Ydz b.secs.length x.a x.b x.c x.d b.turns k kd.toNat ≤ z.hi) := fun z => by omega
 rw [e,e,e,both_in]
 constructor
 ·exact fun h => ⟨fun hk => (h hk).1,fun hk => (h hk).2⟩
 ·exact fun h hk => ⟨h.1 hk,h.2 hk⟩
theorem upd_sat {b : Book} {x : W4} {k t : Int} {ks kd : Int} (h : 0 ≤ ks) (s : Span) : ∀ l : List Ent,(∀ e ∈ updK l (ks,kd) (match Ybe l (ks,kd) with | some old => bothF old s | none => s),SatE b x k t e) ↔ (∀ e ∈ l,SatE b x k t e) ∧ SatE b x k t ((ks,kd),s)
 | [] => by simp [updK,Ybe]
 | (k',v) :: l => by
  simp only [updK,Ybe]
  by_cases hk : (ks,kd) = k'
  ·subst hk
   rw [if_pos rfl,if_pos rfl]
   simp only [List.mem_cons,forall_eq_or_imp]
   rw [satE_key h]
   exact ⟨fun ⟨⟨h1,h2⟩,h3⟩ => ⟨⟨h1,h3⟩,h2⟩,fun ⟨⟨h1,h3⟩,h2⟩ => ⟨⟨h1,h2⟩,h3⟩⟩
  ·rw [if_neg hk,if_neg hk]
   simp only [List.mem_cons,forall_eq_or_imp]
   rw [upd_sat h s l]
   exact and_assoc.symm
theorem open_sat {b : Book} (but : List Int) {x : W4} {k t : Int} (hs : ∀ y ∈ b.svs,0 ≤ y.s) : ∀ m,m ≤ b.svs.length → ((∀ e ∈ Yey b but m,SatE b x k t e) ↔ ∀ i < m,(i : Int) ∉ but → SatY b x k t (svZ b i))
 | 0,_ => by
  simp only [Yey,List.mem_singleton,forall_eq,Nat.not_lt_zero,false_implies,implies_true,iff_true]
  intro h
  cases h
 | m + 1,hm => by
  have ih := open_sat but (x := x) (k := k) (t := t) hs m (by omega)
  simp only [Yey,openStep]
  have hin : svZ b m ∈ b.svs := Yby b.svs m sv0 (by omega)
  have hY : SatE b x k t (((svZ b m).s,(svZ b m).d),⟨(svZ b m).r - (svZ b m).e,(svZ b m).r + (svZ b m).e⟩) ↔ SatY b x k t (svZ b m) := by
   unfold SatE SatY
   simp only [eqI_key (hs _ hin),true_implies,beq_iff_eq]
  by_cases hb : (m : Int) ∈ but
  ·rw [if_pos hb,ih]
   constructor
   ·intro h i hi hn
    by_cases e : i = m
    ·subst e; exact absurd hb hn
    ·exact h i (by omega) hn
   ·exact fun h i hi hn => h i (by omega) hn
  ·rw [if_neg hb]
   have := upd_sat (b := b) (x := x) (k := k) (t := t) (kd := (svZ b m).d) (hs _ hin) ⟨(svZ b m).r - (svZ b m).e,(svZ b m).r + (svZ b m).e⟩ (Yey b but m)
   refine this.trans ?_
   rw [ih,hY]
   constructor
   ·rintro ⟨h1,h2⟩ i hi hn
    by_cases e : i = m
    ·subst e; exact h2
    ·exact h1 i (by omega) hn
   ·exact fun h => ⟨fun i hi hn => h i (by omega) hn,h m (by omega) hb⟩
def W4.at (x : W4) (p : Nat) : Int := [x.a,x.b,x.c,x.d].getD p 0
structure Feas (b : Book) (but : List Int) (T : Nat → Int) (x : W4) : Prop where
 wear : ∀ p < b.secs.length,(b.secs.getD p sec0).w.lo ≤ x.at p ∧ x.at p ≤ (b.secs.getD p sec0).w.hi
 zero : ∀ p,b.secs.length ≤ p → x.at p = 0
 thick : ∀ k < b.secs.length,(b.secs.getD k sec0).t.lo ≤ T k ∧ T k ≤ (b.secs.getD k sec0).t.hi
 right : ∀ i < b.svs.length,(i : Int) ∉ but → ∀ k : Nat,k < b.secs.length → SatY b x k (T k) (svZ b i)
theorem right_mem {b : Book} (but : List Int) {x : W4} (hs : ∀ y ∈ b.svs,0 ≤ y.s) (k : Nat) (t : Int) : ((Ybo b (Ycb b but) x.a x.b x.c x.d k).lo ≤ t ∧ t ≤ (Ybo b (Ycb b but) x.a x.b x.c x.d k).hi) ↔ ((b.secs.getD k sec0).t.lo ≤ t ∧ t ≤ (b.secs.getD k sec0).t.hi) ∧ ∀ i < b.svs.length,(i : Int) ∉ but → SatY b x k t (svZ b i) := by
 unfold Ybo
 rw [right_fold,Int.toNat_natCast]
 unfold Ycb
 rw [open_sat but hs _ (Nat.le_refl _)]
def Ydo (b : Book) (l : List Ent) (x : W4) : Nat → Nat → TrC → TrC
 | 0,_,t => t
 | f + 1,i,t => Ydo b l x f (i + 1) (setF t i (Ybo b l x.a x.b x.c x.d i))
theorem leafGo_mem (b : Book) (l : List Ent) (x : W4) (u : TrC) : ∀ (f i : Nat) (t : TrC),u ∈ Yd2 b l x f i t ↔ (∀ k,i ≤ k → k < i + f → (Ybo b l x.a x.b x.c x.d k).lo ≤ (Ybo b l x.a x.b x.c x.d k).hi) ∧ u = Ydo b l x f i t
 | 0,i,t => by
  simp only [Yd2,Ydo,List.mem_singleton]
  exact ⟨fun h => ⟨fun k h1 h2 => by omega,h⟩,fun h => h.2⟩
 | f + 1,i,t => by
  simp only [Yd2,Ydo]
  by_cases h : (Ybo b l x.a x.b x.c x.d i).lo ≤ (Ybo b l x.a x.b x.c x.d i).hi
  ·rw [if_pos h,leafGo_mem b l x u f (i + 1)]
   refine and_congr_left fun _ => ⟨fun h' k h1 h2 => ?_,fun h' k h1 h2 => h' k (by omega) (by omega)⟩
   by_cases e : k = i
   ·subst e; exact h
   ·exact h' k (by omega) (by omega)
  ·rw [if_neg h]
   simp only [List.not_mem_nil,false_iff,not_and]
   exact fun h' => absurd (h' i (Nat.le_refl _) (by omega)) h
theorem firstF_set (t : TrC) (i : Nat) (s : Span) (hi : i < 4) (k : Nat) (hk : k < 4) : Ycf (setF t i s) k = if k = i then s else Ycf t k := by
 unfold Ycf
 rw [Int.toNat_natCast]
 match i,hi,k,hk with
 | 0,_,0,_ => rfl | 0,_,1,_ => rfl | 0,_,2,_ => rfl | 0,_,3,_ => rfl
 | 1,_,0,_ => rfl | 1,_,1,_ => rfl | 1,_,2,_ => rfl | 1,_,3,_ => rfl
 | 2,_,0,_ => rfl | 2,_,1,_ => rfl | 2,_,2,_ => rfl | 2,_,3,_ => rfl
 | 3,_,0,_ => rfl | 3,_,1,_ => rfl | 3,_,2,_ => rfl | 3,_,3,_ => rfl
theorem Yez (b : Book) (l : List Ent) (x : W4) : ∀ (f i : Nat) (t : TrC),i + f ≤ 4 → ∀ k : Nat,k < 4 → Ycf (Ydo b l x f i t) k = if i ≤ k ∧ k < i + f then Ybo b l x.a x.b x.c x.d k else Ycf t k
 | 0,i,t,_,k,_ => by
  rw [if_neg (by omega)]
  rfl
 | f + 1,i,t,h,k,hk => by
  simp only [Ydo]
  rw [Yez b l x f (i + 1) _ (by omega) k hk]
  by_cases h1 : i + 1 ≤ k ∧ k < i + 1 + f
  ·rw [if_pos h1,if_pos (by omega)]
  ·rw [if_neg h1,firstF_set t i _ (by omega) k hk]
   by_cases e : k = i
   ·subst e
    rw [if_pos rfl,if_pos (by omega)]
   ·rw [if_neg e,if_neg (by omega)]
theorem leafSet_w (b : Book) (l : List Ent) (x : W4) : ∀ (f i : Nat) (t : TrC),(Ydo b l x f i t).w0 = t.w0 ∧ (Ydo b l x f i t).w1 = t.w1 ∧ (Ydo b l x f i t).w2 = t.w2 ∧ (Ydo b l x f i t).w3 = t.w3
 | 0,_,_ => ⟨rfl,rfl,rfl,rfl⟩
 | f + 1,i,t => by
  simp only [Ydo]
  obtain ⟨h1,h2,h3,h4⟩ := leafSet_w b l x f (i + 1) (setF t i (Ybo b l x.a x.b x.c x.d i))
  obtain ⟨g1,g2,g3,g4⟩ := setF_w t i (Ybo b l x.a x.b x.c x.d i)
  exact ⟨h1.trans g1,h2.trans g2,h3.trans g3,h4.trans g4⟩
theorem set_at (x : W4) (p : Nat) (n : Int) (hp : p < 4) (q : Nat) : (x.set p n).at q = if q = p then n else x.at q := by
 match p,hp,q with
 | 0,_,0 => rfl | 0,_,1 => rfl | 0,_,2 => rfl | 0,_,3 => rfl
 | 1,_,0 => rfl | 1,_,1 => rfl | 1,_,2 => rfl | 1,_,3 => rfl
 | 2,_,0 => rfl | 2,_,1 => rfl | 2,_,2 => rfl | 2,_,3 => rfl
 | 3,_,0 => rfl | 3,_,1 => rfl | 3,_,2 => rfl | 3,_,3 => rfl
 | 0,_,q + 4 => simp [W4.at]
 | 1,_,q + 4 => simp [W4.at]
 | 2,_,q + 4 => simp [W4.at]
 | 3,_,q + 4 => simp [W4.at]
theorem W4.ext_at {x y : W4} (h : ∀ q,q < 4 → x.at q = y.at q) : x = y := by
 obtain ⟨a,b,c,d⟩ := x
 obtain ⟨a',b',c',d'⟩ := y
 have h0 : a = a' := h 0 (by omega)
 have h1 : b = b' := h 1 (by omega)
 have h2 : c = c' := h 2 (by omega)
 have h3 : d = d' := h 3 (by omega)
 rw [h0,h1,h2,h3]
theorem rates_mem' {s : Span} {n : Int} (h0 : 0 ≤ s.lo) : n ∈ ratesF s ↔ s.lo ≤ n ∧ n ≤ s.hi := by
 rw [rates_mem]
 omega
theorem whole_mem {b : Book} (l : List Ent) (u : TrC) (hw : ∀ p,0 ≤ (b.secs.getD p sec0).w.lo) : ∀ (f p : Nat) (x : W4),p + f ≤ 4 → (u ∈ Ya4 b l f p x ↔ ∃ y : W4,(∀ q,¬ (p ≤ q ∧ q < p + f) → y.at q = x.at q) ∧ (∀ q,p ≤ q → q < p + f → (b.secs.getD q sec0).w.lo ≤ y.at q ∧ y.at q ≤ (b.secs.getD q sec0).w.hi) ∧ u ∈ leafF b l y)
 | 0,p,x,_ => by
  simp only [Ya4]
  constructor
  ·exact fun h => ⟨x,fun _ _ => rfl,fun q h1 h2 => by omega,h⟩
  ·rintro ⟨y,h1,_,h3⟩
   have : y = x := W4.ext_at fun q _ => h1 q (by omega)
   rwa [this] at h3
 | f + 1,p,x,hp => by
  simp only [Ya4,List.mem_flatMap]
  constructor
  ·rintro ⟨n,hn,h⟩
   obtain ⟨y,h1,h2,h3⟩ := (whole_mem l u hw f (p + 1) (x.set p n) (by omega)).1 h
   have hn' := (rates_mem' (hw p)).1 hn
   refine ⟨y,fun q hq => ?_,fun q q1 q2 => ?_,h3⟩
   ·rw [h1 q (by omega),set_at x p n (by omega),if_neg (by omega)]
   ·by_cases e : q = p
    ·subst e
     rw [h1 q (by omega),set_at x q n (by omega),if_pos rfl]
     exact hn'
    ·exact h2 q (by omega) (by omega)
  ·rintro ⟨y,h1,h2,h3⟩
   refine ⟨y.at p,(rates_mem' (hw p)).2 (h2 p (Nat.le_refl _) (by omega)),(whole_mem l u hw f (p + 1) (x.set p (y.at p)) (by omega)).2 ⟨y,fun q hq => ?_,fun q q1 q2 => h2 q (by omega) (by omega),h3⟩⟩
   rw [set_at x p _ (by omega)]
   by_cases e : q = p
   ·rw [if_pos e,e]
   ·rw [if_neg e]
    exact h1 q (by omega)
end Go.Di

namespace Go.Di
open Proofs
def wOf (u : TrC) : W4 := ⟨u.w0,u.w1,u.w2,u.w3⟩
theorem Valid.wlo {b : Book} (hV : Valid b) (p : Nat) : 0 ≤ (b.secs.getD p sec0).w.lo := by
 by_cases h : p < b.secs.length
 ·exact (hV.sec _ (Yby b.secs p sec0 h)).w.1
 ·rw [List.getD_eq_getElem?_getD,List.getElem?_eq_none (by omega)]
  decide
theorem Valid.svs0 {b : Book} (hV : Valid b) : ∀ y ∈ b.svs,0 ≤ y.s := fun y hy => (Ygf.1 (hV.sv y hy)).1.1
structure Base (b : Book) : Prop where
 n4 : b.secs.length ≤ 4
 wlo : ∀ p : Nat,0 ≤ (b.secs.getD p sec0).w.lo
 svs0 : ∀ y ∈ b.svs,0 ≤ y.s
theorem Valid.base {b : Book} (hV : Valid b) : Base b := ⟨hV.secs.2,hV.wlo,hV.svs0⟩
theorem Base.more {b : Book} (hB : Base b) {y : Sv} (hy : 0 ≤ y.s) : Base (more b y) := ⟨hB.n4,hB.wlo,fun z hz => by
 rcases List.mem_append.1 hz with hz | hz
 ·exact hB.svs0 z hz
 ·simp only [List.mem_singleton] at hz
  subst hz
  exact hy⟩
theorem truth_mem {b : Book} (hV : Base b) (but : List Int) (u : TrC) : u ∈ Yam b but ↔ ∃ x : W4,(∀ p < b.secs.length,(b.secs.getD p sec0).w.lo ≤ x.at p ∧ x.at p ≤ (b.secs.getD p sec0).w.hi) ∧ (∀ p,b.secs.length ≤ p → x.at p = 0) ∧
  (∀ k,k < b.secs.length → (Ybo b (Ycb b but) x.a x.b x.c x.d k).lo ≤ (Ybo b (Ycb b but) x.a x.b x.c x.d k).hi) ∧ u = Ydo b (Ycb b but) x b.secs.length 0 (trOf x) := by
 have h4 := hV.n4
 have h0 : ∀ q : Nat,(⟨0,0,0,0⟩ : W4).at q = 0 := fun q => by
  match q with
  | 0 => rfl
  | 1 => rfl
  | 2 => rfl
  | 3 => rfl
  | q + 4 => simp [W4.at]
 unfold Yam
 rw [whole_mem (Ycb b but) u hV.wlo b.secs.length 0 ⟨0,0,0,0⟩ (by omega)]
 unfold leafF
 constructor
 ·rintro ⟨y,h1,h2,h3⟩
  obtain ⟨h5,h6⟩ := (leafGo_mem b _ y u _ _ _).1 h3
  exact ⟨y,fun p hp => h2 p (Nat.zero_le _) (by omega),fun p hp => (h1 p (by omega)).trans (h0 p),fun k hk => h5 k (Nat.zero_le _) (by omega),h6⟩
 ·rintro ⟨x,h1,h2,h3,h5⟩
  exact ⟨x,fun q hq => (h2 q (by omega)).trans (h0 q).symm,fun q _ hq => h1 q (by omega),(leafGo_mem b _ x u _ _ _).2 ⟨fun k _ hk => h3 k (by omega),h5⟩⟩
theorem leaf_wOf (b : Book) (l : List Ent) (x : W4) (f : Nat) : wOf (Ydo b l x f 0 (trOf x)) = x := by
 obtain ⟨h1,h2,h3,h4⟩ := leafSet_w b l x f 0 (trOf x)
 unfold wOf
 rw [h1,h2,h3,h4]
 rfl
theorem feas_of_truth {b : Book} (hV : Base b) {but : List Int} {u : TrC} (hu : u ∈ Yam b but) {T : Nat → Int} (hT : ∀ k : Nat,k < b.secs.length → (Ycf u k).lo ≤ T k ∧ T k ≤ (Ycf u k).hi) : Feas b but T (wOf u) := by
 have h4 := hV.n4
 obtain ⟨x,h1,h2,h3,rfl⟩ := (truth_mem hV but u).1 hu
 rw [leaf_wOf]
 have hf : ∀ k : Nat,k < b.secs.length → Ycf (Ydo b (Ycb b but) x b.secs.length 0 (trOf x)) k = Ybo b (Ycb b but) x.a x.b x.c x.d k := fun k hk => by
  rw [Yez b _ x _ 0 _ (by omega) k (by omega),if_pos (by omega)]
 have hr : ∀ k : Nat,k < b.secs.length → ((b.secs.getD k sec0).t.lo ≤ T k ∧ T k ≤ (b.secs.getD k sec0).t.hi) ∧ ∀ i < b.svs.length,(i : Int) ∉ but → SatY b x k (T k) (svZ b i) := fun k hk => by
  have := hT k hk
  rw [hf k hk] at this
  exact (right_mem but hV.svs0 k (T k)).1 this
 exact ⟨h1,h2,fun k hk => (hr k hk).1,fun i hi hn k hk => (hr k hk).2 i hi hn⟩
theorem Ygv {b : Book} (hV : Base b) {but : List Int} {T : Nat → Int} {x : W4} (h : Feas b but T x) : ∃ u ∈ Yam b but,wOf u = x ∧ ∀ k : Nat,k < b.secs.length → (Ycf u k).lo ≤ T k ∧ T k ≤ (Ycf u k).hi := by
 have h4 := hV.n4
 have hr : ∀ k : Nat,k < b.secs.length → (Ybo b (Ycb b but) x.a x.b x.c x.d k).lo ≤ T k ∧ T k ≤ (Ybo b (Ycb b but) x.a x.b x.c x.d k).hi := fun k hk =>
  (right_mem but hV.svs0 k (T k)).2 ⟨h.thick k hk,fun i hi hn => h.right i hi hn k hk⟩
 refine ⟨Ydo b (Ycb b but) x b.secs.length 0 (trOf x),(truth_mem hV but _).2 ⟨x,h.wear,h.zero,fun k hk => by have := hr k hk; omega,rfl⟩,leaf_wOf _ _ _ _,fun k hk => ?_⟩
 rw [Yez b _ x _ 0 _ (by omega) k (by omega),if_pos (by omega)]
 exact hr k hk
theorem truth_full {b : Book} (hV : Base b) {but : List Int} {u : TrC} (hu : u ∈ Yam b but) (k : Nat) (hk : k < b.secs.length) : (Ycf u k).lo ≤ (Ycf u k).hi := by
 have h4 := hV.n4
 obtain ⟨x,h1,h2,h3,rfl⟩ := (truth_mem hV but u).1 hu
 rw [Yez b _ x _ 0 _ (by omega) k (by omega),if_pos (by omega)]
 exact h3 k hk
theorem can_iff {b : Book} (hV : Base b) (but : List Int) : Yam b but ≠ [] ↔ ∃ T x,Feas b but T x := by
 constructor
 ·intro h
  obtain ⟨u,hu⟩ := List.exists_mem_of_ne_nil _ h
  exact ⟨fun k => (Ycf u k).lo,wOf u,feas_of_truth hV hu fun k hk => ⟨Int.le_refl _,truth_full hV hu k hk⟩⟩
 ·rintro ⟨T,x,h⟩ h0
  obtain ⟨u,hu,_⟩ := Ygv hV h
  rw [h0] at hu
  cases hu
theorem told_fold (g : TrC → Span) : ∀ (ts : List TrC) (s : Span),((ts.foldl (fun o t => Yd7 o (g t)) s).lo = s.lo ∨ ∃ t ∈ ts,(ts.foldl (fun o t => Yd7 o (g t)) s).lo = (g t).lo) ∧ ((ts.foldl (fun o t => Yd7 o (g t)) s).hi = s.hi ∨ ∃ t ∈ ts,(ts.foldl (fun o t => Yd7 o (g t)) s).hi = (g t).hi) ∧
  (ts.foldl (fun o t => Yd7 o (g t)) s).lo ≤ s.lo ∧ s.hi ≤ (ts.foldl (fun o t => Yd7 o (g t)) s).hi ∧ ∀ t ∈ ts,(ts.foldl (fun o t => Yd7 o (g t)) s).lo ≤ (g t).lo ∧ (g t).hi ≤ (ts.foldl (fun o t => Yd7 o (g t)) s).hi
 | [],s => ⟨.inl rfl,.inl rfl,Int.le_refl _,Int.le_refl _,fun t ht => by cases ht⟩
 | t :: ts,s => by
  obtain ⟨h1,h2,h3,h4,h5⟩ := told_fold g ts (Yd7 s (g t))
  have e1 : (Yd7 s (g t)).lo = s.lo ∨ (Yd7 s (g t)).lo = (g t).lo := by simp only [Yd7,mn]; split <;> simp
  have e2 : (Yd7 s (g t)).hi = s.hi ∨ (Yd7 s (g t)).hi = (g t).hi := by simp only [Yd7,mx]; split <;> simp
  have e3 : (Yd7 s (g t)).lo ≤ s.lo ∧ (Yd7 s (g t)).lo ≤ (g t).lo := by simp only [Yd7,mn]; split <;> omega
  have e4 : s.hi ≤ (Yd7 s (g t)).hi ∧ (g t).hi ≤ (Yd7 s (g t)).hi := by simp only [Yd7,mx]; split <;> omega
  simp only [List.foldl_cons]
  refine ⟨?_,?_,by omega,by omega,fun u hu => ?_⟩
  ·rcases h1 with h1 | ⟨u,hu,h1⟩
   ·rcases e1 with e1 | e1
    ·exact .inl (h1.trans e1)
    ·exact .inr ⟨t,by simp,h1.trans e1⟩
   ·exact .inr ⟨u,by simp [hu],h1⟩
  ·rcases h2 with h2 | ⟨u,hu,h2⟩
   ·rcases e2 with e2 | e2
    ·exact .inl (h2.trans e2)
    ·exact .inr ⟨t,by simp,h2.trans e2⟩
   ·exact .inr ⟨u,by simp [hu],h2⟩
  ·rcases List.mem_cons.1 hu with rfl | hu
   ·omega
   ·exact h5 u hu
theorem told_spec (g : TrC → Span) {ts : List TrC} (hne : ts ≠ []) : (∃ t ∈ ts,(Yff g ts).lo = (g t).lo) ∧ (∃ t ∈ ts,(Yff g ts).hi = (g t).hi) ∧ ∀ t ∈ ts,(Yff g ts).lo ≤ (g t).lo ∧ (g t).hi ≤ (Yff g ts).hi := by
 obtain ⟨h1,h2,_,_,h5⟩ := told_fold g ts (g (ts.getD 0 trc0))
 have h0 : ts.getD 0 trc0 ∈ ts := Yby ts 0 trc0 (List.length_pos_iff.2 hne)
 refine ⟨?_,?_,h5⟩
 ·rcases h1 with h1 | h1
  ·exact ⟨_,h0,h1⟩
  ·exact h1
 ·rcases h2 with h2 | h2
  ·exact ⟨_,h0,h2⟩
  ·exact h2
def wornX (b : Book) (turns : List Int) (x : W4) (k : Nat) (d : Int) : Int := Ydz b.secs.length x.a x.b x.c x.d turns k d.toNat
theorem wornT_eq (b : Book) (turns : List Int) (k : Nat) (d : Int) (u : TrC) : wornT b turns k d u = wornX b turns (wOf u) k d := rfl
theorem thick_in {b : Book} (hV : Base b) {but : List Int} {T : Nat → Int} {x : W4} (h : Feas b but T x) (turns : List Int) (k : Nat) (hk : k < b.secs.length) (d : Int) :
  (Ydq b (Yam b but) turns k d).lo ≤ T k - wornX b turns x k d ∧ T k - wornX b turns x k d ≤ (Ydq b (Yam b but) turns k d).hi := by
 obtain ⟨u,hu,rfl,hf⟩ := Ygv hV h
 have hne : Yam b but ≠ [] := fun e => by rw [e] at hu; cases hu
 have := (told_spec (thick1F b turns k d) hne).2.2 u hu
 have hk' := hf k hk
 simp only [thick1F,wornT_eq] at this
 unfold Ydq
 omega
theorem wearAt_eq (p : Nat) (u : TrC) : Ycr p u = ⟨(wOf u).at p,(wOf u).at p⟩ := by
 unfold Ycr
 rw [Int.toNat_natCast]
 rfl
theorem wear_in {b : Book} (hV : Base b) {but : List Int} {T : Nat → Int} {x : W4} (h : Feas b but T x) (p : Nat) : (Yff (Ycr p) (Yam b but)).lo ≤ x.at p ∧ x.at p ≤ (Yff (Ycr p) (Yam b but)).hi := by
 obtain ⟨u,hu,rfl,_⟩ := Ygv hV h
 have hne : Yam b but ≠ [] := fun e => by rw [e] at hu; cases hu
 have := (told_spec (Ycr p) hne).2.2 u hu
 rw [wearAt_eq] at this
 exact this
end Go.Di

namespace Go.Di
open Proofs
theorem err_zero {b : Book} (hV : Valid b) (hc : canF b = true) : errF b true = 0 := by
 unfold errF
 rw [Yei.2 hV,hc]
 rfl
theorem small_of {b : Book} (hV : Valid b) : Small b := ⟨by have := hV.secs; omega,by have := hV.turns; omega,by have := hV.svs; omega⟩
theorem thickU_con {b : Book} (hV : Valid b) (hc : canF b = true) {s d : Int} (hs : 0 ≤ s ∧ s < b.secs.length) (hd : 0 ≤ d ∧ d ≤ b.days) : CF 41 [Ybc b,.int .i64 s,.int .i64 d] (.tup [spD (Ydq b (Yam b []) b.turns s d),.int .i64 0]) := by
 have h := thickA_con (small_of hV) s d
 have h1 : Yaf b s = true := by unfold Yaf; rw [Ya0]; omega
 have h2 : Ybz b d = true := by unfold Ybz; rw [Ya0]; omega
 unfold askE at h
 rw [h1,h2,Bool.and_self,err_zero hV hc,show spanOr 0 (Ydq b (Yam b []) b.turns s d) = Ydq b (Yam b []) b.turns s d from if_pos rfl] at h
 exact h.up
theorem wearU_con {b : Book} (hV : Valid b) (hc : canF b = true) {s : Int} (hs : 0 ≤ s ∧ s < b.secs.length) : CF 42 [Ybc b,.int .i64 s] (.tup [spD (Yff (Ycr s) (Yam b [])),.int .i64 0]) := by
 have h := wearA_con (small_of hV) s
 have h1 : Yaf b s = true := by unfold Yaf; rw [Ya0]; omega
 rw [h1,err_zero hV hc,show spanOr 0 (Yff (Ycr s) (Yam b [])) = Yff (Ycr s) (Yam b []) from if_pos rfl] at h
 exact h.up
def thRow (x : FBook) (s k : Nat) : List Int := (List.range k).map fun d => Ygx x.chain (s : Nat) (d : Nat)
def thTo (x : FBook) (i : Nat) : List (List Int) := (List.range i).map fun s => thRow x s (x.chain.days + 1).toNat
def wrTo (x : FBook) (i : Nat) : List Int := (List.range i).map fun s => wearHi x.chain (s : Nat)
theorem range_snoc {α : Type} (f : Nat → α) (i : Nat) : (List.range (i + 1)).map f = (List.range i).map f ++ [f i] := by rw [List.range_succ,List.map_append]; rfl
def knIn (x : FBook) (m : List (K2 × Bool)) (i j : Nat) (y : Int) (r : List Int) : List (List Int) → List Int → List (Key × Val)
 | [],[] => knowAn_S2 x m i j y r
 | [],z :: l => Yeo x m i j y r z l
 | t :: q,[] => knowBn_S2 x m i j y r t q
 | t :: q,z :: l => Yen x m i j y r t q z l
def knS (x : FBook) (m : List (K2 × Bool)) (i : Nat) : List Int → List (List Int) → List (Key × Val)
 | y :: r,t :: q => Ye0 x m i y r t q
 | _,_ => knowA_S0 x m i
theorem know_in {x : FBook} (hV : Valid x.chain) (hc : canF x.chain = true) (m : List (K2 × Bool)) (i : Nat) (hi : i < x.chain.secs.length) (y : Int) (r : List Int) (th : List (List Int)) :
  LF 63 (k_174 [1,0,1,0,0,1,1,0,0,1,1,1,1,0,1]) (knIn x m i 0 y r th []) .normal (knIn x m i (x.chain.days + 1).toNat y r th (thRow x i (x.chain.days + 1).toNat)) := by
 have hd := hV.days
 refine LF.each (id := 2) (c := k_174 [1,0,1,0,0,1,1,0,0,1,1,1,1,0,1,0,0]) (by kernel_rfl) (x.chain.days + 1).toNat (fun j => knIn x m i j y r th (thRow x i j)) (fun j hj => ?_) ?_
 ·have hth := thickU_con hV hc (s := (i : Int)) (d := (j : Int)) (by omega) (by omega)
  have hn : thRow x i (j + 1) = thRow x i j ++ [(Ydq x.chain (Yam x.chain []) x.chain.turns i j).lo] := range_snoc _ j
  have hlen : (thRow x i j).length ≤ 31 := by unfold thRow; rw [List.length_map,List.length_range]; omega
  simp only [hn]
  cases th with
  | nil =>
   cases hl : thRow x i j with
   | nil => exact ⟨_,_,_,_,_,_,knowAn_2_on x m i j y r (Ydq x.chain (Yam x.chain []) x.chain.turns i j) 0,⟨decide_eq_true (by omega),hth,by omega,by omega,Yah (by omega) (by omega),trivial⟩,rfl⟩
   | cons z l =>
    rw [hl] at hlen
    exact ⟨_,_,_,_,_,_,knowAo_2_on x m i j y r z l (Ydq x.chain (Yam x.chain []) x.chain.turns i j) 0,⟨decide_eq_true (by omega),hth,by omega,rfl,by rw [List.length_append]; simp only [List.length_cons,List.length_nil] at hlen ⊢; omega,Yah (by omega) (by omega),trivial⟩,rfl⟩
  | cons t q =>
   cases hl : thRow x i j with
   | nil => exact ⟨_,_,_,_,_,_,knowBn_2_on x m i j y r t q (Ydq x.chain (Yam x.chain []) x.chain.turns i j) 0,⟨decide_eq_true (by omega),hth,by omega,by omega,Yah (by omega) (by omega),trivial⟩,rfl⟩
   | cons z l =>
    rw [hl] at hlen
    exact ⟨_,_,_,_,_,_,knowBo_2_on x m i j y r t q z l (Ydq x.chain (Yam x.chain []) x.chain.turns i j) 0,⟨decide_eq_true (by omega),hth,by omega,rfl,by rw [List.length_append]; simp only [List.length_cons,List.length_nil] at hlen ⊢; omega,Yah (by omega) (by omega),trivial⟩,rfl⟩
 ·have hf : decide ((((x.chain.days + 1).toNat : Nat) : Int) < x.chain.days + 1) = false := decide_eq_false (by omega)
  cases th with
  | nil => cases thRow x i (x.chain.days + 1).toNat with
   | nil => exact ⟨_,_,_,_,_,_,_,knowAn_2_end x m i _ y r,⟨hf,trivial⟩,.inl ⟨rfl,rfl⟩,rfl⟩
   | cons z l => exact ⟨_,_,_,_,_,_,_,knowAo_2_end x m i _ y r z l,⟨hf,trivial⟩,.inl ⟨rfl,rfl⟩,rfl⟩
  | cons t q => cases thRow x i (x.chain.days + 1).toNat with
   | nil => exact ⟨_,_,_,_,_,_,_,knowBn_2_end x m i _ y r t q,⟨hf,trivial⟩,.inl ⟨rfl,rfl⟩,rfl⟩
   | cons z l => exact ⟨_,_,_,_,_,_,_,knowBo_2_end x m i _ y r t q z l,⟨hf,trivial⟩,.inl ⟨rfl,rfl⟩,rfl⟩
theorem know_con {x : FBook} (hV : FValid x) (hc : canF x.chain = true) (m : List (K2 × Bool)) : CF 174 [fopD x m] (fbkD x (.work m) (Yax x) (Yaw x)) := by
 have hC := hV.chain
 have hd := hC.days
 have hn := hC.secs
 have hfe := hV.feet
 have hloop : LF 63 (k_174 [1,0,1]) (knS x m 0 (wrTo x 0) (thTo x 0)) .normal (knS x m x.feet.length (wrTo x x.feet.length) (thTo x x.feet.length)) := by
  refine LF.each (id := 0) (c := k_174 [1,0,1,0,0]) (by kernel_rfl) x.feet.length (fun i => knS x m i (wrTo x i) (thTo x i)) (fun i hi => ?_) ?_
  ·have hw := wearU_con hC hc (s := (i : Int)) (by omega)
   have e1 : wrTo x (i + 1) = wrTo x i ++ [(Yff (Ycr (i : Int)) (Yam x.chain [])).hi] := range_snoc _ i
   have e2 : thTo x (i + 1) = thTo x i ++ [thRow x i (x.chain.days + 1).toNat] := range_snoc _ i
   have hrow : ∃ z l,thRow x i (x.chain.days + 1).toNat = z :: l := by
    cases h : thRow x i (x.chain.days + 1).toNat with
    | nil =>
     have := congrArg List.length h
     unfold thRow at this
     rw [List.length_map,List.length_range] at this
     simp at this
     omega
    | cons z l => exact ⟨z,l,rfl⟩
   obtain ⟨z,l,hrow⟩ := hrow
   simp only [e1,e2]
   have hin := know_in hC hc m i (by omega)
   rw [hrow] at hin ⊢
   cases i with
   | zero => exact ⟨_,_,_,_,_,_,knowA_0_on x m 0 (Yff (Ycr ((0 : Nat) : Int)) (Yam x.chain [])) 0 (x.chain.days + 1).toNat z l,⟨Yak hi,hw,by omega,by omega,rfl,Yah (by omega) (by omega),hin (Yff (Ycr ((0 : Nat) : Int)) (Yam x.chain [])).hi [] [],rfl,by omega,rfl,Yah (by omega) (by omega),trivial⟩,rfl⟩
   | succ i =>
    have hwl : (wrTo x (i + 1)).length = i + 1 := by unfold wrTo; rw [List.length_map,List.length_range]
    have htl : (thTo x (i + 1)).length = i + 1 := by unfold thTo; rw [List.length_map,List.length_range]
    obtain ⟨y,r,hy⟩ := List.exists_cons_of_length_eq_add_one hwl
    obtain ⟨t,q,ht⟩ := List.exists_cons_of_length_eq_add_one htl
    rw [hy] at hwl
    rw [ht] at htl
    rw [hy,ht]
    exact ⟨_,_,_,_,_,_,knowB_0_on x m (i + 1) y r t q (Yff (Ycr ((i + 1 : Nat) : Int)) (Yam x.chain [])) 0 (x.chain.days + 1).toNat z l,⟨Yak hi,hw,by omega,rfl,by rw [List.length_append,hwl,List.length_singleton]; omega,rfl,Yah (by omega) (by omega),hin y _ (t :: q),rfl,rfl,by rw [List.length_append,htl,List.length_singleton]; omega,rfl,Yah (by omega) (by omega),trivial⟩,rfl⟩
  ·have hwl : (wrTo x x.feet.length).length = (x.feet.length - 1) + 1 := by unfold wrTo; rw [List.length_map,List.length_range]; omega
   have htl : (thTo x x.feet.length).length = (x.feet.length - 1) + 1 := by unfold thTo; rw [List.length_map,List.length_range]; omega
   obtain ⟨y,r,hy⟩ := List.exists_cons_of_length_eq_add_one hwl
   obtain ⟨t,q,ht⟩ := List.exists_cons_of_length_eq_add_one htl
   rw [hy,ht]
   exact ⟨_,_,_,_,_,_,_,knowB_0_end x m _ y r t q,⟨Yas,trivial⟩,.inl ⟨rfl,rfl⟩,rfl⟩
 have hwl : (wrTo x x.feet.length).length = (x.feet.length - 1) + 1 := by unfold wrTo; rw [List.length_map,List.length_range]; omega
 have htl : (thTo x x.feet.length).length = (x.feet.length - 1) + 1 := by unfold thTo; rw [List.length_map,List.length_range]; omega
 obtain ⟨y,r,hy⟩ := List.exists_cons_of_length_eq_add_one hwl
 obtain ⟨t,q,ht⟩ := List.exists_cons_of_length_eq_add_one htl
 have e1 : Yaw x = y :: r := hy
 have e2 : Yax x = t :: q := ht
 rw [show knS x m 0 (wrTo x 0) (thTo x 0) = knowA_S0 x m 0 from rfl,hy,ht,show knS x m x.feet.length (y :: r) (t :: q) = Ye0 x m x.feet.length y r t q from rfl] at hloop
 rw [e1,e2]
 exact Yaa (GF 63) knowB_fn (knowB_all x m x.feet.length y r t q) ⟨hloop,rfl,rfl,rfl,rfl,trivial⟩
theorem wearHi_in {b : Book} (hV : Valid b) (hc : canF b = true) {p : Nat} (hp : p < 4) : 0 ≤ wearHi b p ∧ wearHi b p ≤ 1000 := by
 obtain ⟨_,⟨t,ht,he⟩,_⟩ := told_spec (Ycr p) (ne_of_can hc)
 have ho := truths_ok hV [] t ht
 unfold wearHi
 rw [he]
 simp only [Ycr,Int.toNat_natCast]
 clear he ht
 have h4 : p = 0 ∨ p = 1 ∨ p = 2 ∨ p = 3 := by omega
 rcases h4 with rfl | rfl | rfl | rfl
 ·exact ho.w0
 ·exact ho.w1
 ·exact ho.w2
 ·exact ho.w3
theorem thickLo_in {b : Book} (hV : Valid b) (hc : canF b = true) {s d : Nat} (hs : s < b.secs.length) (hd : (d : Int) ≤ b.days) : -1000000 ≤ Ygx b s d ∧ Ygx b s d ≤ 1000000 := by
 obtain ⟨⟨t,ht,he⟩,_⟩ := told_spec (thick1F b b.turns s d) (ne_of_can hc)
 have ho := truths_ok hV [] t ht
 have hdd := hV.days
 have hn := hV.secs
 have hw := wornF_in (n := b.secs.length) (s := (s : Int)) (turns := b.turns) ho.w0 ho.w1 ho.w2 ho.w3 d
 have h200 : 0 ≤ (Ycf t s).lo ∧ (Ycf t s).lo ≤ 200 := by
  have h2 := (wholeGo_ok hV.sec (Ycb b []) b.secs.length 0 ⟨0,0,0,0⟩ (by omega) zero4 t ht).1
  have hs4 : s < 4 := by omega
  obtain ⟨q0,q1,q2,q3⟩ := h2
  simp only [Ycf,Int.toNat_natCast]
  clear he hw hs hd
  have h4 : s = 0 ∨ s = 1 ∨ s = 2 ∨ s = 3 := by omega
  rcases h4 with rfl | rfl | rfl | rfl
  ·exact ⟨q0.1,Int.le_trans q0.2.1 q0.2.2⟩
  ·exact ⟨q1.1,Int.le_trans q1.2.1 q1.2.2⟩
  ·exact ⟨q2.1,Int.le_trans q2.2.1 q2.2.2⟩
  ·exact ⟨q3.1,Int.le_trans q3.2.1 q3.2.2⟩
 unfold Ygx Ydq
 rw [he]
 simp only [thick1F,wornT,Int.toNat_natCast]
 show -1000000 ≤ (Ycf t s).lo - Ydz b.secs.length t.w0 t.w1 t.w2 t.w3 b.turns s d ∧ (Ycf t s).lo - Ydz b.secs.length t.w0 t.w1 t.w2 t.w3 b.turns s d ≤ 1000000
 omega
theorem know_ok {x : FBook} (hV : FValid x) (hc : canF x.chain = true) : KnOk x (Yax x) (Yaw x) := by
 have hfe := hV.feet
 have hn := hV.chain.secs
 refine ⟨by unfold Yaw; rw [List.length_map,List.length_range],fun n hn' => ?_,by unfold Yax; rw [List.length_map,List.length_range],fun l hl => ?_,fun l hl n hn' => ?_⟩
 ·obtain ⟨s,hs,rfl⟩ := List.mem_map.1 hn'
  rw [List.mem_range] at hs
  exact wearHi_in hV.chain hc (by omega)
 ·obtain ⟨s,hs,rfl⟩ := List.mem_map.1 hl
  rw [List.length_map,List.length_range]
 ·obtain ⟨s,hs,rfl⟩ := List.mem_map.1 hl
  obtain ⟨d,hd,rfl⟩ := List.mem_map.1 hn'
  rw [List.mem_range] at hs hd
  exact thickLo_in hV.chain hc (by omega) (by omega)
end Go.Di

namespace Go.Di
open Proofs
theorem look_upd {α : Type} : ∀ (l : List (K2 × α)) (k k' : K2) (v : α),Ybe (updK l k v) k' = if k' = k then some v else Ybe l k'
 | [],k,k',v => by simp only [updK,Ybe]
 | (k0,u) :: l,k,k',v => by
  simp only [updK]
  by_cases h : k = k0
  ·subst h
   rw [if_pos rfl]
   simp only [Ybe]
   by_cases h2 : k' = k
   ·rw [if_pos h2,if_pos h2]
   ·rw [if_neg h2,if_neg h2,if_neg h2]
  ·rw [if_neg h]
   simp only [Ybe,look_upd l k k' v]
   by_cases h2 : k' = k0
   ·rw [if_pos h2,if_pos h2]
    by_cases h3 : k' = k
    ·exact absurd (h3.symm.trans h2) h
    ·rw [if_neg h3]
   ·rw [if_neg h2,if_neg h2]
theorem worksS_look (m : List (K2 × Bool)) (d : Int) : ∀ (n : Nat) (k : K2),(Ybe (worksS m d n) k).getD false = ((decide (k.1 = d ∧ 0 ≤ k.2 ∧ k.2 < n)) || (Ybe m k).getD false)
 | 0,k => by
  have : decide (k.1 = d ∧ 0 ≤ k.2 ∧ k.2 < ((0 : Nat) : Int)) = false := decide_eq_false (by omega)
  rw [this]
  rfl
 | n + 1,k => by
  simp only [worksS,look_upd]
  by_cases h : k = (d,(n : Int))
  ·subst h
   rw [if_pos rfl]
   have : decide ((d = d) ∧ 0 ≤ (n : Int) ∧ (n : Int) < ((n + 1 : Nat) : Int)) = true := decide_eq_true ⟨rfl,by omega,by omega⟩
   show true = (decide ((d = d) ∧ 0 ≤ (n : Int) ∧ (n : Int) < ((n + 1 : Nat) : Int)) || _)
   rw [this]
   rfl
  ·rw [if_neg h,worksS_look m d n k]
   refine congrArg (· || _) ?_
   rw [decide_eq_decide]
   have : ¬ (k.1 = d ∧ k.2 = n) := fun hh => h (Prod.ext hh.1 hh.2)
   omega
theorem worksO_look (x : FBook) : ∀ (i : Nat),i ≤ x.opn.length → ∀ k : K2,((Ybe (worksO x i) k).getD false = true ↔ (∃ j,j < i ∧ x.opn.getD j 0 = k.1) ∧ 0 ≤ k.2 ∧ k.2 < x.feet.length)
 | 0,_,k => by
  constructor
  ·intro h
   simp only [worksO,Ybe] at h
   split at h <;> cases h
  ·rintro ⟨⟨j,hj,_⟩,_⟩
   omega
 | i + 1,h,k => by
  simp only [worksO,worksS_look]
  rw [Bool.or_eq_true,worksO_look x i (by omega) k,decide_eq_true_eq]
  constructor
  ·rintro (⟨h1,h2,h3⟩ | ⟨⟨j,hj,h1⟩,h2,h3⟩)
   ·exact ⟨⟨i,by omega,h1.symm⟩,h2,h3⟩
   ·exact ⟨⟨j,by omega,h1⟩,h2,h3⟩
  ·rintro ⟨⟨j,hj,h1⟩,h2,h3⟩
   by_cases hji : j = i
   ·subst hji
    exact .inl ⟨h1.symm,h2,h3⟩
   ·exact .inr ⟨⟨j,by omega,h1⟩,h2,h3⟩
def WorkIn (x : FBook) (w : Work) : Prop := w.d ∈ x.opn ∧ 0 ≤ w.s ∧ w.s < x.feet.length
theorem mem_iff_getD {l : List Int} {v : Int} : v ∈ l ↔ ∃ j,j < l.length ∧ l.getD j 0 = v := by
 constructor
 ·intro h
  obtain ⟨j,hj,he⟩ := List.getElem_of_mem h
  exact ⟨j,hj,by rw [List.getD_eq_getElem?_getD,List.getElem?_eq_getElem hj]; exact he⟩
 ·rintro ⟨j,hj,rfl⟩
  exact mem_getD 0 hj
theorem isWork_iff {x : FBook} {w : Work} : isWorkF (Ya6 x) w = true ↔ WorkIn x w := by
 unfold isWorkF Ya6 WorkIn
 rw [worksO_look x _ (Nat.le_refl _),mem_iff_getD]
def wlt (a b : Work) : Prop := a.d < b.d ∨ a.d = b.d ∧ a.s < b.s
theorem wlt_trans {a b c : Work} (h1 : wlt a b) (h2 : wlt b c) : wlt a c := by unfold wlt at *; omega
theorem compare_wlt {a b : Work} : ¬ Ybd a b ≥ 0 ↔ wlt a b := by
 unfold Ybd wlt
 split <;> omega
def IsPlan (x : FBook) (plan : List Work) : Prop := (∀ w ∈ plan,WorkIn x w) ∧ plan.Pairwise wlt
theorem isPlanGo_iff {x : FBook} (ho : ∀ d ∈ x.opn,0 ≤ d) : ∀ (l : List Work) (la : Work),(la = ⟨-1,0⟩ ∨ 0 ≤ la.d) → (Yhc (Ya6 x) la l = true ↔ IsPlan x l ∧ (la = ⟨-1,0⟩ ∨ ∀ w ∈ l,wlt la w))
 | [],la,_ => by
  simp only [Yhc,true_iff]
  exact ⟨⟨fun w hw => (by cases hw),List.Pairwise.nil⟩,.inr fun w hw => (by cases hw)⟩
 | w :: r,la,hla => by
  have hb : badF (Ya6 x) la w = false ↔ WorkIn x w ∧ (la = ⟨-1,0⟩ ∨ wlt la w) := by
   unfold badF
   rw [Bool.or_eq_false_iff,Bool.and_eq_false_iff,Bool.not_eq_false',isWork_iff,Bool.not_eq_false',decide_eq_true_eq,decide_eq_false_iff_not,compare_wlt]
   refine and_congr_right fun _ => or_congr_left ?_
   constructor
   ·rintro ⟨h1,h2⟩
    cases la
    simp only at h1 h2
    rw [h1,h2]
   ·rintro rfl
    exact ⟨rfl,rfl⟩
  simp only [Yhc]
  constructor
  ·intro h
   cases hbad : badF (Ya6 x) la w with
   | true => rw [hbad] at h; simp at h
   | false =>
    rw [hbad] at h
    obtain ⟨h1,h2⟩ := hb.1 hbad
    have hwd := ho _ h1.1
    obtain ⟨⟨h3,h4⟩,h5⟩ := (isPlanGo_iff ho r w (.inr hwd)).1 (by simpa using h)
    have h6 : ∀ v ∈ r,wlt w v := by
     rcases h5 with h5 | h5
     ·rw [h5] at hwd; exact absurd hwd (by decide)
     ·exact h5
    refine ⟨⟨fun v hv => ?_,List.pairwise_cons.2 ⟨h6,h4⟩⟩,h2.imp id fun h v hv => ?_⟩
    ·rcases List.mem_cons.1 hv with rfl | hv
     ·exact h1
     ·exact h3 v hv
    ·rcases List.mem_cons.1 hv with rfl | hv
     ·exact h
     ·exact wlt_trans h (h6 v hv)
  ·rintro ⟨⟨h1,h2⟩,h3⟩
   have hw := h1 w (by simp)
   have hbad : badF (Ya6 x) la w = false := hb.2 ⟨hw,h3.imp id fun h => h w (by simp)⟩
   rw [hbad]
   obtain ⟨h4,h5⟩ := List.pairwise_cons.1 h2
   simpa using (isPlanGo_iff ho r w (.inr (ho _ hw.1))).2 ⟨⟨fun v hv => h1 v (by simp [hv]),h5⟩,.inr h4⟩
theorem Yc4 {x : FBook} (hV : FValid x) {plan : List Work} : isPlanF (Ya6 x) plan = true ↔ IsPlan x plan := by
 unfold isPlanF
 rw [isPlanGo_iff (fun d hd => (hV.opn.1 d hd).1) plan ⟨-1,0⟩ (.inl rfl)]
 exact ⟨fun h => h.1,fun h => ⟨h,.inl rfl⟩⟩
theorem climb_len : ∀ (l : List Int) (a c : Int),l.Pairwise (· < ·) → (∀ z ∈ l,a ≤ z ∧ z < c) → (l.length : Int) ≤ c - a ∨ l = []
 | [],_,_,_,_ => .inr rfl
 | z :: l,a,c,hp,hb => by
  obtain ⟨h1,h2⟩ := List.pairwise_cons.1 hp
  have hz := hb z (by simp)
  refine .inl ?_
  rcases climb_len l (z + 1) c h2 (fun v hv => ⟨by have := h1 v hv; omega,(hb v (by simp [hv])).2⟩) with h | h
  ·simp only [List.length_cons]
   omega
  ·rw [h]
   simp only [List.length_cons,List.length_nil]
   omega
theorem IsPlan.ok {x : FBook} (hx : FIn x) {plan : List Work} (h : IsPlan x plan) : PlanOk x plan := by
 have hw : ∀ w ∈ plan,WorkOk x w := fun w hw => ⟨(h.1 w hw).2,hx.opn _ (h.1 w hw).1⟩
 refine ⟨?_,hw⟩
 have hn := hx.n
 have hnd : plan.length ≤ 20 * 1 ∨ True := .inr trivial
 have hcode : (plan.map fun w => (x.opn.filter fun d => decide (d < w.d)).length * (4 : Int) + w.s).Pairwise (· < ·) := by
  rw [List.pairwise_map]
  refine h.2.imp_of_mem fun {a b} ha hb hab => ?_
  have h1 := (hw a ha).s
  have h2 := (hw b hb).s
  rcases hab with hlt | ⟨heq,hs⟩
  ·have hmono : (x.opn.filter fun d => decide (d < a.d)).length < (x.opn.filter fun d => decide (d < b.d)).length := by
    have hsub : ∀ (l : List Int),a.d ∈ l → (l.filter fun d => decide (d < a.d)).length < (l.filter fun d => decide (d < b.d)).length := by
     intro l
     induction l with
     | nil => intro hm; cases hm
     | cons e l ih =>
      intro hm
      have hle : ∀ l : List Int,(l.filter fun d => decide (d < a.d)).length ≤ (l.filter fun d => decide (d < b.d)).length := by
       intro l
       induction l with
       | nil => exact Nat.le_refl _
       | cons e l ih =>
        by_cases h1 : e < a.d
        ·rw [List.filter_cons_of_pos (by simpa using h1),List.filter_cons_of_pos (by simp; omega)]
         simp only [List.length_cons]; omega
        ·rw [List.filter_cons_of_neg (by simpa using h1)]
         by_cases h2 : e < b.d
         ·rw [List.filter_cons_of_pos (by simpa using h2)]
          simp only [List.length_cons]; omega
         ·rw [List.filter_cons_of_neg (by simpa using h2)]
          exact ih
      by_cases he : e = a.d
      ·subst he
       rw [List.filter_cons_of_neg (by simp),List.filter_cons_of_pos (by simp; omega)]
       have := hle l
       simp only [List.length_cons]
       omega
      ·have hm' : a.d ∈ l := by
        rcases List.mem_cons.1 hm with h | h
        ·exact absurd h.symm he
        ·exact h
       have := ih hm'
       by_cases h1 : e < a.d
       ·rw [List.filter_cons_of_pos (by simpa using h1),List.filter_cons_of_pos (by simp; omega)]
        simp only [List.length_cons]; omega
       ·rw [List.filter_cons_of_neg (by simpa using h1)]
        by_cases h2 : e < b.d
        ·rw [List.filter_cons_of_pos (by simpa using h2)]
         simp only [List.length_cons]; omega
        ·rw [List.filter_cons_of_neg (by simpa using h2)]
         exact this
    exact hsub x.opn (h.1 a ha).1
   omega
  ·rw [heq]
   omega
 have hb : ∀ z ∈ plan.map fun w => (x.opn.filter fun d => decide (d < w.d)).length * (4 : Int) + w.s,0 ≤ z ∧ z < 24 := by
  intro z hz
  obtain ⟨w,hwm,rfl⟩ := List.mem_map.1 hz
  have h1 := (hw w hwm).s
  have h2 := List.length_filter_le (fun d => decide (d < w.d)) x.opn
  have h3 := hx.opnl
  omega
 rcases climb_len _ 0 24 hcode hb with h1 | h1
 ·rw [List.length_map] at h1
  omega
 ·have := congrArg List.length h1
  rw [List.length_map] at this
  simp only [List.length_nil] at this
  omega
theorem isPlanW_con {x : FBook} (hV : FValid x) (th : List (List Int)) (wr : List Int) {plan : List Work} (hl : plan.length ≤ 9223372036854775807) : CF 141 [fbkD x (.work (Ya6 x)) th wr,.sl false .work plan] (.bool (isPlanF (Ya6 x) plan)) :=
 isPlan_con x (Ya6 x) th wr hl fun w hw => by
  have h := isWork_iff.1 hw
  have h1 := hV.opn.1 _ h.1
  have h2 := hV.chain.days
  have h3 := hV.inn.n
  have h4 := h.2
  omega
theorem ferr_cases {x : FBook} (is : Bool) : (Ydy x = false ∧ Yc7 x is = 70) ∨ (FValid x ∧ is = false ∧ Yc7 x is = 71) ∨ (FValid x ∧ is = true ∧ canF x.chain = false ∧ Yc7 x is = 72) ∨ (FValid x ∧ is = true ∧ canF x.chain = true ∧ Yc7 x is = 0) := by
 unfold Yc7
 cases hv : Ydy x with
 | false => exact .inl ⟨rfl,rfl⟩
 | true =>
  have hV := Yd9.1 hv
  cases is with
  | false => exact .inr (.inl ⟨hV,rfl,rfl⟩)
  | true => cases hc : canF x.chain with
   | false => exact .inr (.inr (.inl ⟨hV,rfl,rfl,rfl⟩))
   | true => exact .inr (.inr (.inr ⟨hV,rfl,rfl,rfl⟩))
def faskD (x : FBook) (is : Bool) : D := if Yc7 x is = 70 then zfbkD else if Yc7 x is = 0 then fbkD x (.work (Ya6 x)) (Yax x) (Yaw x) else fopD x (Ya6 x)
theorem Ygr {x : FBook} (hs : FSmall x) (g : FuncId) (fs : List D) (cs : List (List D)) (is : Bool) (hg : FValid x → CF g (fs ++ [fopD x (Ya6 x)] ++ cs.map fun cs => .ref cs 0) (.bool is)) :
  CF 137 [Yab x,.fn g fs cs] (.tup [faskD x is,.int .i64 (Yc7 x is)]) := by
 have hch := fcheck_con hs
 unfold fcheckF at hch
 unfold faskD
 rcases ferr_cases (x := x) is with ⟨h1,h2⟩ | ⟨hV,h1,h2⟩ | ⟨hV,h1,h3,h2⟩ | ⟨hV,h1,h3,h2⟩
 ·rw [h1] at hch
  rw [h2]
  exact Yaa (GF 34) fasked_fn (fasked_bad x g fs cs 70) ⟨hch,rfl,trivial⟩
 all_goals
  rw [Yd9.2 hV] at hch
  have ho := opened_con' (x := x) (by have := hV.inn.n; omega) (by have := hV.inn.opnl; omega)
  have hg' := hg hV
  have hr := (right_con' hs.chain).up
  rw [Yei.2 hV.chain,Bool.true_and] at hr
  rw [h2]
 ·rw [h1] at hg'
  exact Yaa (GF 34) fasked_fn (fasked_ask x g fs cs _) ⟨hch,ho,hg',trivial⟩
 ·rw [h1] at hg'
  rw [h3] at hr
  exact Yaa (GF 34) fasked_fn (fasked_no x g fs cs _ _) ⟨hch,ho,hg',hr,trivial⟩
 ·rw [h1] at hg'
  rw [h3] at hr
  exact Yaa (GF 34) fasked_fn (fasked_ok x g fs cs _ _ _ _) ⟨hch,ho,hg',hr,know_con hV h3 _,trivial⟩
def Ygj (x : FBook) (plan : List Work) : Bool := isPlanF (Ya6 x) plan
def leastB (x : FBook) (plan : List Work) (s d : Int) : Bool := Ygj x plan && Yae s 0 (x.feet.length - 1) && Yae d 0 x.chain.days
theorem fleast1_con {x : FBook} (hV : FValid x) {plan : List Work} (hl : plan.length ≤ 9223372036854775807) (s d : Int) :
  CF 140 ([] ++ [fopD x (Ya6 x)] ++ [[.sl false .work plan],[.int .i64 s],cellsOf (Yab x),[.int .i64 d]].map fun cs => .ref cs 0) (.bool (leastB x plan s d)) := by
 refine Contract.ofOp ?_
 have c1 := isPlanW_con hV [] [] hl
 have c2 := Ydp s 0 (x.feet.length - 1)
 have c3 := Ydp d 0 x.chain.days
 have hn := hV.inn.n
 have hi : Yac ((x.feet.length : Int) - 1) := Yah (by omega) (by omega)
 unfold leastB Ygj
 cases h1 : isPlanF (Ya6 x) plan with
 | false =>
  rw [h1] at c1
  refine Yaa (GF 25) fleast1_fn (fleast1_a x _ [] [] x plan s d false false false) ?_
  repeat (first | exact trivial | refine ⟨by first | exact c1 | exact c2 | exact c3 | exact hi | rfl | omega,?_⟩)
 | true =>
  rw [h1] at c1
  cases h2 : Yae s 0 (x.feet.length - 1) with
  | false =>
   rw [h2] at c2
   refine Yaa (GF 25) fleast1_fn (fleast1_b x _ [] [] x plan s d true false false) ?_
   repeat (first | exact trivial | refine ⟨by first | exact c1 | exact c2 | exact c3 | exact hi | rfl | omega,?_⟩)
  | true =>
   rw [h2] at c2
   refine Yaa (GF 25) fleast1_fn (fleast1_c x _ [] [] x plan s d true true (Yae d 0 x.chain.days)) ?_
   repeat (first | exact trivial | refine ⟨by first | exact c1 | exact c2 | exact c3 | exact hi | rfl | omega,?_⟩)
theorem ffirst1_con {x : FBook} (hV : FValid x) {plan : List Work} (hl : plan.length ≤ 9223372036854775807) : CF 144 ([] ++ [fopD x (Ya6 x)] ++ [[.sl false .work plan]].map fun cs => .ref cs 0) (.bool (Ygj x plan)) :=
 Contract.ofOp (Yaa (GF 7) ffirst1_fn (ffirst1_all x _ [] [] plan _) ⟨isPlanW_con hV [] [] hl,trivial⟩)
theorem falways_con (x : FBook) : CF 138 ([] ++ [fopD x (Ya6 x)] ++ ([] : List (List D)).map fun cs => .ref cs 0) (.bool true) :=
 Contract.ofOp (Yaa (GF 3) falways_fn (falways_all x _ [] []) trivial)
end Go.Di

namespace Go.Di
open Proofs
def fLeastF (x : FBook) (plan : List Work) (s d : Int) : Int × Int := if Yc7 x (leastB x plan s d) = 0 then (Ybk x (Yax x) (Yaw x) plan s d,0) else (0,Yc7 x (leastB x plan s d))
theorem least_of {x : FBook} {plan : List Work} {s d : Int} (h : leastB x plan s d = true) : Ygj x plan = true ∧ (0 ≤ s ∧ s < x.feet.length) ∧ 0 ≤ d ∧ d ≤ x.chain.days := by
 unfold leastB at h
 rw [Bool.and_eq_true,Bool.and_eq_true,Ya0,Ya0] at h
 exact ⟨h.1.1,by omega,h.2⟩
theorem ferr_bad {x : FBook} {is : Bool} (h : Yc7 x is ≠ 0) : (faskD x is = zfbkD ∨ faskD x is = fopD x (Ya6 x)) ∧ (Yc7 x is != 0) = true := by
 refine ⟨?_,by simpa using h⟩
 unfold faskD
 by_cases h1 : Yc7 x is = 70
 ·rw [if_pos h1]; exact .inl rfl
 ·rw [if_neg h1,if_neg h]; exact .inr rfl
theorem ferr_ok {x : FBook} {is : Bool} (h : Yc7 x is = 0) : FValid x ∧ is = true ∧ canF x.chain = true ∧ faskD x is = fbkD x (.work (Ya6 x)) (Yax x) (Yaw x) := by
 rcases ferr_cases (x := x) is with ⟨_,h2⟩ | ⟨_,_,h2⟩ | ⟨_,_,_,h2⟩ | ⟨hV,h1,h3,h2⟩
 ·rw [h] at h2; exact absurd h2 (by decide)
 ·rw [h] at h2; exact absurd h2 (by decide)
 ·rw [h] at h2; exact absurd h2 (by decide)
 ·refine ⟨hV,h1,h3,?_⟩
  unfold faskD
  rw [h]
  rfl
theorem fLeast_con {x : FBook} (hs : FSmall x) {plan : List Work} (hl : plan.length ≤ 9223372036854775807) (s d : Int) :
  CF 81 [Yab x,.sl false .work plan,.int .i64 s,.int .i64 d] (.tup [.int .i64 (fLeastF x plan s d).1,.int .i64 (fLeastF x plan s d).2]) := by
 have ha := Ygr hs 140 [] [[.sl false .work plan],[.int .i64 s],cellsOf (Yab x),[.int .i64 d]] (leastB x plan s d) (fun hV => fleast1_con hV hl s d)
 unfold fLeastF
 by_cases he : Yc7 x (leastB x plan s d) = 0
 ·obtain ⟨hV,h1,h2,h3⟩ := ferr_ok he
  obtain ⟨h4,h5,h6⟩ := least_of h1
  rw [if_pos he]
  rw [h3,he] at ha
  exact Yaa (GF 26) fLeast_fn (fLeast_ok x plan s d _ _ _ _) ⟨ha,by omega,by omega,fleast_con hV.inn (know_ok hV h2) _ (((Yc4 hV).1 h4).ok hV.inn) s d h5 h6,trivial⟩
 ·obtain ⟨h1,h2⟩ := ferr_bad he
  rw [if_neg he]
  rcases h1 with h1 | h1
  ·rw [h1] at ha
   exact Yaa (GF 26) fLeast_fn (fLeast_errz x plan s d _) ⟨ha,h2,trivial⟩
  ·rw [h1] at ha
   exact Yaa (GF 26) fLeast_fn (fLeast_erro x plan s d _ _) ⟨ha,h2,trivial⟩
def Yc8 (x : FBook) (plan : List Work) : Int × Int × Int := if Yc7 x (Ygj x plan) = 0 then (match Ycc x (Yax x) (Yaw x) plan with
  | some (d,s) => ((d : Int),(s : Int),0)
  | none => (0,0,4)) else (0,0,Yc7 x (Ygj x plan))
theorem fFirst_con {x : FBook} (hs : FSmall x) {plan : List Work} (hl : plan.length ≤ 9223372036854775807) :
  CF 83 [Yab x,.sl false .work plan] (.tup [.int .i64 (Yc8 x plan).1,.int .i64 (Yc8 x plan).2.1,.int .i64 (Yc8 x plan).2.2]) := by
 have ha := Ygr hs 144 [] [[.sl false .work plan]] (Ygj x plan) (fun hV => ffirst1_con hV hl)
 unfold Yc8
 by_cases he : Yc7 x (Ygj x plan) = 0
 ·obtain ⟨hV,h1,h2,h3⟩ := ferr_ok he
  rw [if_pos he]
  rw [h3,he] at ha
  have ht := thin_con hV.inn (know_ok hV h2) (.work (Ya6 x)) (((Yc4 hV).1 h1).ok hV.inn)
  cases hf : Ycc x (Yax x) (Yaw x) plan with
  | none =>
   rw [hf] at ht
   exact Yaa (GF 29) fFirst_fn (fFirst_none x plan _ _ _ 0 0) ⟨ha,ht,trivial⟩
  | some p =>
   obtain ⟨d,s⟩ := p
   rw [hf] at ht
   exact Yaa (GF 29) fFirst_fn (fFirst_some x plan _ _ _ d s) ⟨ha,ht,trivial⟩
 ·obtain ⟨h1,h2⟩ := ferr_bad he
  rw [if_neg he]
  rcases h1 with h1 | h1
  ·rw [h1] at ha
   exact Yaa (GF 29) fFirst_fn (fFirst_errz x plan _) ⟨ha,h2,trivial⟩
  ·rw [h1] at ha
   exact Yaa (GF 29) fFirst_fn (fFirst_erro x plan _ _) ⟨ha,h2,trivial⟩
def fSafeF (x : FBook) (plan : List Work) : Bool × Int := if (Yc8 x plan).2.2 = 0 then (false,0) else if (Yc8 x plan).2.2 = 4 then (true,0) else (false,(Yc8 x plan).2.2)
theorem fSafe_con {x : FBook} (hs : FSmall x) {plan : List Work} (hl : plan.length ≤ 9223372036854775807) : CF 78 [Yab x,.sl false .work plan] (.tup [.bool (fSafeF x plan).1,.int .i64 (fSafeF x plan).2]) := by
 have ha := fFirst_con hs hl
 unfold fSafeF
 generalize Yc8 x plan = r at ha
 obtain ⟨a,b,e⟩ := r
 simp only at ha ⊢
 by_cases h0 : e = 0
 ·subst h0
  exact Yaa (GF 23) fSafe_fn (fSafe_ok x plan a b 0) ⟨ha,rfl,trivial⟩
 ·rw [if_neg h0]
  have h0' : (e == 0) = false := beq_eq_false_iff_ne.2 h0
  by_cases h4 : e = 4
  ·subst h4
   exact Yaa (GF 23) fSafe_fn (fSafe_none x plan a b 4) ⟨ha,rfl,rfl,trivial⟩
  ·rw [if_neg h4]
   have h4' : (e == 4) = false := beq_eq_false_iff_ne.2 h4
   exact Yaa (GF 23) fSafe_fn (fSafe_err x plan a b e) ⟨ha,h0',h4',trivial⟩
def fplanE (x : FBook) (plan : List Work) : Int := if Ydy x = false then 70 else if Ygj x plan = false then 71 else 0
def fFeetF (x : FBook) (plan : List Work) : Int × Int := if fplanE x plan = 0 then (Ycp x plan,0) else (0,fplanE x plan)
theorem fFeet_con {x : FBook} (hs : FSmall x) {plan : List Work} (hl : plan.length ≤ 9223372036854775807) : CF 84 [Yab x,.sl false .work plan] (.tup [.int .i64 (fFeetF x plan).1,.int .i64 (fFeetF x plan).2]) := by
 have hch := fcheck_con hs
 unfold fcheckF at hch
 unfold fFeetF fplanE
 cases hv : Ydy x with
 | false =>
  rw [hv] at hch
  exact Yaa (GF 22) fFeet_fn (fFeet_bad x plan 70) ⟨hch,rfl,trivial⟩
 | true =>
  rw [hv] at hch
  have hV := Yd9.1 hv
  have ho := opened_con' (x := x) (by have := hV.inn.n; omega) (by have := hV.inn.opnl; omega)
  have hp := Contract.ofOp (isPlanW_con hV [] [] hl)
  cases h1 : Ygj x plan with
  | false =>
   rw [show isPlanF (Ya6 x) plan = false from h1] at hp
   exact Yaa (GF 22) fFeet_fn (fFeet_ask x plan _) ⟨hch,ho,hp,trivial⟩
  | true =>
   rw [show isPlanF (Ya6 x) plan = true from h1] at hp
   have hf := Contract.ofOp (feet_con hV.inn (.work (Ya6 x)) [] [] (((Yc4 hV).1 h1).ok hV.inn))
   exact Yaa (GF 22) fFeet_fn (fFeet_ok x plan _ _) ⟨hch,ho,hp,hf,trivial⟩
def fShortF (x : FBook) (plan : List Work) : Int × Int := if fplanE x plan = 0 then (match shortF x plan with
  | some k => ((k : Int),0)
  | none => (0,4)) else (0,fplanE x plan)
theorem short_cases (x : FBook) (plan : List Work) : (shortF x plan = none ∧ ∀ k < plan.length,¬ Yfy x (plan.take (k + 1)) > x.stock) ∨ ∃ k,shortF x plan = some k ∧ k < plan.length ∧ Yfy x (plan.take (k + 1)) > x.stock ∧ ∀ j < k,¬ Yfy x (plan.take (j + 1)) > x.stock := by
 unfold shortF
 cases h : (List.range plan.length).find? fun k => decide (Yfy x (plan.take (k + 1)) > x.stock) with
 | none =>
  rw [List.find?_range_eq_none] at h
  exact .inl ⟨rfl,fun k hk => by simpa using h k hk⟩
 | some k =>
  rw [List.find?_range_eq_some] at h
  exact .inr ⟨k,rfl,List.mem_range.1 h.2.1,of_decide_eq_true h.1,fun j hj => by simpa using h.2.2 j hj⟩
theorem fShort_con {x : FBook} (hs : FSmall x) {plan : List Work} (hl : plan.length ≤ 9223372036854775807) : CF 85 [Yab x,.sl false .work plan] (.tup [.int .i64 (fShortF x plan).1,.int .i64 (fShortF x plan).2]) := by
 have hf := fFeet_con hs hl
 unfold fFeetF at hf
 unfold fShortF
 by_cases he : fplanE x plan = 0
 ·rw [if_pos he] at hf ⊢
  have hv : FValid x ∧ Ygj x plan = true := by
   unfold fplanE at he
   split at he
   ·cases he
   ·rename_i h1
    split at he
    ·cases he
    ·rename_i h2
     exact ⟨Yd9.1 (by simpa using h1),by simpa using h2⟩
  obtain ⟨hV,h1⟩ := hv
  have hp := ((Yc4 hV).1 h1).ok hV.inn
  have hpl := hp.1
  have ho := opened_con' (x := x) (by have := hV.inn.n; omega) (by have := hV.inn.opnl; omega)
  have hn : ∀ k,CF 148 [fopD x (Ya6 x),.sl false .work (plan.take (k + 1))] (.int .i64 (Yfy x (plan.take (k + 1)))) := fun k => Contract.ofOp (needs_con hV.inn (.work (Ya6 x)) [] [] (hp.take (k + 1)))
  have hcode : k_85 [1,1,1,0,1] = .block 0 (.loop (k_85 [1,1,1,0,1,0,0])) := by kernel_rfl
  have hon : ∀ k,k < plan.length → ¬ Yfy x (plan.take (k + 1)) > x.stock → ∃ dec orc lorc ks ps L1,runK (MF 37) dec orc lorc (k_85 [1,1,1,0,1,0,0]) (Ycm x plan (Ya6 x) k) ks = some (ps,.normal,L1) ∧ allP ps ∧ L1 = Ycm x plan (Ya6 x) (k + 1) := fun k hk h =>
   ⟨_,_,_,_,_,_,fShort_0_on x plan (Ya6 x) k (Yfy x (plan.take (k + 1))),⟨Yak hk,Yah (by omega) (by omega),⟨by omega,by omega,by omega⟩,hn k,decide_eq_false h,Yah (by omega) (by omega),trivial⟩,rfl⟩
  rcases short_cases x plan with ⟨h2,h3⟩ | ⟨k,h2,h3,h4,h5⟩
  ·rw [h2]
   refine Yaa (GF 37) fShort_fn (fShort_none x plan (Ya6 x) _ plan.length) ⟨hf,ho,?_,trivial⟩
   exact LF.each (id := 0) hcode plan.length (fun i => Ycm x plan (Ya6 x) i) (fun i hi => hon i hi (h3 i hi)) ⟨_,_,_,_,_,_,_,fShort_0_end x plan _ _,⟨Yas,trivial⟩,.inl ⟨rfl,rfl⟩,rfl⟩
  ·rw [h2]
   refine Yaa (GF 37) fShort_fn (fShort_hit x plan (Ya6 x) _ (Yfy x (plan.take (k + 1))) k) ⟨hf,ho,?_,trivial⟩
   exact LF.each (id := 0) hcode k (fun i => Ycm x plan (Ya6 x) i) (fun i hi => hon i (by omega) (h5 i hi)) ⟨_,_,_,_,_,_,_,fShort_0_hit x plan _ k _,⟨Yak h3,Yah (by omega) (by omega),⟨by omega,by omega,by omega⟩,hn k,decide_eq_true h4,trivial⟩,.inr ⟨rfl,rfl⟩,rfl⟩
 ·rw [if_neg he] at hf ⊢
  exact Yaa (GF 37) fShort_fn (fShort_bad x plan 0 _) ⟨hf,by simpa using he,trivial⟩
end Go.Di

