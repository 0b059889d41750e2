/- Part 26: contracts are proved. No condition. -/
import Derived.Test.YtfkmodcjddfeiaaDoorDi25
set_option linter.unusedVariables false
set_option linter.unusedSimpArgs false
namespace Go.Di
open Proofs
theorem chooseX_con (xs : List Int) (n : Int) (hl : xs.length ≤ 9223372036854775807) : CF 75 [.sl false .int xs,.int .i64 n] (.int .i64 (Ygd xs n)) := by
 unfold Ygd
 by_cases h : xs.length = 0
 ·rw [if_pos h]
  have d : ((xs.length : Int) == 0) = true := by rw [h]; rfl
  exact Yaa (GF 15) chooseX_fn (chooseX_nil xs n) (by repeat (first | exact trivial | refine ⟨by first | exact d | rfl,?_⟩))
 ·rw [if_neg h]
  have d : ((xs.length : Int) == 0) = false := by rw [beq_eq_false_iff_ne]; omega
  have hm := (modB_con n xs.length (by omega)).up
  have hin := modF_in (n := n) (m := xs.length) (by omega)
  exact Yaa (GF 15) chooseX_fn (chooseX_some xs n (modF n xs.length)) (by repeat (first | exact trivial | refine ⟨by first | exact d | exact hm | exact hin | rfl | omega,?_⟩))
theorem withinX_con (s : Span) (n : Int) (h : s.lo ≤ s.hi) (h0 : 0 ≤ s.lo) (h1 : s.hi ≤ 1000) : CF 74 [spD s,.int .i64 n] (.int .i64 (withinSF s n)) := by
 have hm := (modB_con n (s.hi - s.lo + 1) (by omega)).up
 have hin := modF_in (n := n) (m := s.hi - s.lo + 1) (by omega)
 have i1 : Yac (s.hi - s.lo) := Yah (by omega) (by omega)
 have i2 : Yac (s.hi - s.lo + 1) := Yah (by omega) (by omega)
 have i3 : Yac (s.lo + modF n (s.hi - s.lo + 1)) := Yah (by omega) (by omega)
 exact Yaa (GF 16) withinX_fn (withinX_all s n (modF n (s.hi - s.lo + 1))) (by repeat (first | exact trivial | refine ⟨by first | exact hm | exact i1 | exact i2 | exact i3 | rfl | omega,?_⟩))
section
variable {x : FBook} {th ws : List Int} {plan : List Work}
theorem trA_chg (hn : th.length = x.chain.secs.length) (hn4 : x.chain.secs.length ≤ 4) (hpl : plan.length ≤ 1000) (d : Nat) (tn rt : Bool) {zs : List Int} (hz : zs.length = x.chain.secs.length) (os : List Int) :
  LF 141 (k_80 [1,1,1,1,0,1,0,0,1,0,0,1,0,1]) (Yfs x th ws plan d tn rt zs os 0) .normal (Yfs x th ws plan d tn rt (chgTo x plan d zs th.length) os th.length) := by
 refine LF.each (id := 2) (c := k_80 [1,1,1,1,0,1,0,0,1,0,0,1,0,1,0,0]) (by kernel_rfl) th.length (fun i => Yfs x th ws plan d tn rt (chgTo x plan d zs i) os i) (fun i hi => ?_) ⟨_,_,_,_,_,_,_,trA_2_end x th ws plan d tn rt _ os _,⟨Yas,trivial⟩,.inl ⟨rfl,rfl⟩,rfl⟩
 have hW := wrk_con hpl (i : Int)
 have hwl := wrkTo_len plan (i : Int) plan.length
 have hA := (atB_con (wrkF plan i) (d : Int) (by unfold wrkF; omega)).up
 have hge := indexF_ge (d : Int) (wrkF plan i) 0
 have hcl := Yfn x plan d zs i
 have e : chgTo x plan d zs (i + 1) = if (d : Int) ∈ wrkF plan i then (chgTo x plan d zs i).set (i * 1) x.new else chgTo x plan d zs i := rfl
 simp only [e]
 by_cases hm : (d : Int) ∈ wrkF plan i
 ·rw [if_pos hm]
  exact ⟨_,_,_,_,_,_,trA_2_on x th ws plan d tn rt _ os i _ _,⟨Yak hi,hW,hA,decide_eq_true (hge.2 hm),⟨by omega,by omega⟩,by omega,Yah (by omega) (by omega),trivial⟩,rfl⟩
 ·rw [if_neg hm]
  exact ⟨_,_,_,_,_,_,trA_2_off x th ws plan d tn rt _ os i _ _,⟨Yak hi,hW,hA,decide_eq_false (fun h => hm (hge.1 h)),Yah (by omega) (by omega),trivial⟩,rfl⟩
theorem trA_svs (hV : FValid x) (hn : th.length = x.chain.secs.length) (d : Nat) (tn rt : Bool) (zs : List Int) {os : List Int} (ho : os.length = x.chain.secs.length) (hob : ∀ k,k < x.chain.secs.length → -1000000 ≤ os.getD k 0 ∧ os.getD k 0 ≤ 1000000) :
  LF 141 (k_80 [1,1,1,1,0,1,0,0,1,0,0,1,1,0,1]) (Yex x th ws plan d tn rt zs os 0) .normal (Yex x th ws plan d tn (rgtTo x.chain.svs os d rt x.chain.svs.length) zs os x.chain.svs.length) := by
 refine LF.each (id := 4) (c := k_80 [1,1,1,1,0,1,0,0,1,0,0,1,1,0,1,0,0]) (by kernel_rfl) x.chain.svs.length (fun k => Yex x th ws plan d tn (rgtTo x.chain.svs os d rt k) zs os k) (fun k hk => ?_) ⟨_,_,_,_,_,_,_,trA_4_end x th ws plan d tn _ zs os _,⟨Yas,trivial⟩,.inl ⟨rfl,rfl⟩,rfl⟩
 have h8 := hV.chain.svs
 have hy := Ygf.1 (hV.chain.sv _ (Yby x.chain.svs k sv0 hk))
 obtain ⟨y1,y2,y3,y4⟩ := hy
 have hoy := hob (x.chain.svs.getD k sv0).s.toNat (by omega)
 have e : rgtTo x.chain.svs os d rt (k + 1) = (rgtTo x.chain.svs os d rt k && rgtB os d (x.chain.svs.getD k sv0)) := rfl
 have i1 : Yac ((k : Int) + 1) := Yah (by omega) (by omega)
 simp only [e]
 cases hr : rgtTo x.chain.svs os d rt k with
 | false => exact ⟨_,_,_,_,_,_,trA_4_no x th ws plan d tn false zs os k,(by repeat (first | exact trivial | refine ⟨by first | exact Yak hk | exact rfl | exact i1 | omega,?_⟩)),rfl⟩
 | true =>
  by_cases hd : (x.chain.svs.getD k sv0).d = d
  ·have d1 : ((x.chain.svs.getD k sv0).d != (d : Int)) = false := by simp only [bne_eq_false_iff_eq]; exact hd
   have hin := (Ygo ((x.chain.svs.getD k sv0).r - os.getD ((x.chain.svs.getD k sv0).s.toNat * 1) 0) (0 - (x.chain.svs.getD k sv0).e) (x.chain.svs.getD k sv0).e).up
   have e2 : rgtB os d (x.chain.svs.getD k sv0) = Yd6 ((x.chain.svs.getD k sv0).r - os.getD ((x.chain.svs.getD k sv0).s.toNat * 1) 0) (0 - (x.chain.svs.getD k sv0).e) (x.chain.svs.getD k sv0).e := by
    unfold rgtB
    rw [show ((x.chain.svs.getD k sv0).d == (d : Int)) = true by simpa using hd]
    rfl
   have i2 : Yac ((x.chain.svs.getD k sv0).r - os.getD ((x.chain.svs.getD k sv0).s.toNat * 1) 0) := by rw [Nat.mul_one]; exact Yah (by omega) (by omega)
   have i3 : Yac (0 - (x.chain.svs.getD k sv0).e) := Yah (by omega) (by omega)
   have j1 : 0 ≤ (x.chain.svs.getD k sv0).s ∧ (x.chain.svs.getD k sv0).s < (th.length : Int) := by omega
   have j2 : (x.chain.svs.getD k sv0).s.toNat * 1 + 1 ≤ os.length := by omega
   rw [e2]
   exact ⟨_,_,_,_,_,_,trA_4_look x th ws plan d tn true zs os k _,(by repeat (first | exact trivial | refine ⟨by first | exact Yak hk | exact rfl | exact d1 | exact hin | exact i1 | exact i2 | exact i3 | exact j1 | exact j2 | (constructor <;> omega) | omega,?_⟩)),rfl⟩
  ·have d1 : ((x.chain.svs.getD k sv0).d != (d : Int)) = true := by simp only [bne_iff_ne,ne_eq]; exact hd
   have e2 : rgtB os d (x.chain.svs.getD k sv0) = true := by
    unfold rgtB
    rw [show ((x.chain.svs.getD k sv0).d == (d : Int)) = false by simpa using hd]
    rfl
   rw [e2]
   exact ⟨_,_,_,_,_,_,trA_4_skip x th ws plan d tn true zs os k,(by repeat (first | exact trivial | refine ⟨by first | exact Yak hk | exact rfl | exact d1 | exact i1 | (constructor <;> omega) | omega,?_⟩)),rfl⟩
theorem trB_chg (hn : th.length = x.chain.secs.length) (hn4 : x.chain.secs.length ≤ 4) (hpl : plan.length ≤ 1000) (d : Nat) (tn rt : Bool) {zs : List Int} (hz : zs.length = x.chain.secs.length) (os : List Int) (rs : List (List Int)) :
  LF 141 (k_80 [1,1,1,1,0,1,0,0,1,0,0,1,0,1]) (Yge x th ws plan d tn rt zs os rs 0) .normal (Yge x th ws plan d tn rt (chgTo x plan d zs th.length) os rs th.length) := by
 refine LF.each (id := 2) (c := k_80 [1,1,1,1,0,1,0,0,1,0,0,1,0,1,0,0]) (by kernel_rfl) th.length (fun i => Yge x th ws plan d tn rt (chgTo x plan d zs i) os rs i) (fun i hi => ?_) ⟨_,_,_,_,_,_,_,trB_2_end x th ws plan d tn rt _ os rs _,⟨Yas,trivial⟩,.inl ⟨rfl,rfl⟩,rfl⟩
 have hW := wrk_con hpl (i : Int)
 have hwl := wrkTo_len plan (i : Int) plan.length
 have hA := (atB_con (wrkF plan i) (d : Int) (by unfold wrkF; omega)).up
 have hge := indexF_ge (d : Int) (wrkF plan i) 0
 have hcl := Yfn x plan d zs i
 have e : chgTo x plan d zs (i + 1) = if (d : Int) ∈ wrkF plan i then (chgTo x plan d zs i).set (i * 1) x.new else chgTo x plan d zs i := rfl
 simp only [e]
 by_cases hm : (d : Int) ∈ wrkF plan i
 ·rw [if_pos hm]
  exact ⟨_,_,_,_,_,_,trB_2_on x th ws plan d tn rt _ os rs i _ _,⟨Yak hi,hW,hA,decide_eq_true (hge.2 hm),⟨by omega,by omega⟩,by omega,Yah (by omega) (by omega),trivial⟩,rfl⟩
 ·rw [if_neg hm]
  exact ⟨_,_,_,_,_,_,trB_2_off x th ws plan d tn rt _ os rs i _ _,⟨Yak hi,hW,hA,decide_eq_false (fun h => hm (hge.1 h)),Yah (by omega) (by omega),trivial⟩,rfl⟩
theorem trB_svs (hV : FValid x) (hn : th.length = x.chain.secs.length) (d : Nat) (tn rt : Bool) (zs : List Int) {os : List Int} (ho : os.length = x.chain.secs.length) (hob : ∀ k,k < x.chain.secs.length → -1000000 ≤ os.getD k 0 ∧ os.getD k 0 ≤ 1000000) (rs : List (List Int)) :
  LF 141 (k_80 [1,1,1,1,0,1,0,0,1,0,0,1,1,0,1]) (Yfd x th ws plan d tn rt zs os rs 0) .normal (Yfd x th ws plan d tn (rgtTo x.chain.svs os d rt x.chain.svs.length) zs os rs x.chain.svs.length) := by
 refine LF.each (id := 4) (c := k_80 [1,1,1,1,0,1,0,0,1,0,0,1,1,0,1,0,0]) (by kernel_rfl) x.chain.svs.length (fun k => Yfd x th ws plan d tn (rgtTo x.chain.svs os d rt k) zs os rs k) (fun k hk => ?_) ⟨_,_,_,_,_,_,_,trB_4_end x th ws plan d tn _ zs os rs _,⟨Yas,trivial⟩,.inl ⟨rfl,rfl⟩,rfl⟩
 have h8 := hV.chain.svs
 have hy := Ygf.1 (hV.chain.sv _ (Yby x.chain.svs k sv0 hk))
 obtain ⟨y1,y2,y3,y4⟩ := hy
 have hoy := hob (x.chain.svs.getD k sv0).s.toNat (by omega)
 have e : rgtTo x.chain.svs os d rt (k + 1) = (rgtTo x.chain.svs os d rt k && rgtB os d (x.chain.svs.getD k sv0)) := rfl
 have i1 : Yac ((k : Int) + 1) := Yah (by omega) (by omega)
 simp only [e]
 cases hr : rgtTo x.chain.svs os d rt k with
 | false => exact ⟨_,_,_,_,_,_,trB_4_no x th ws plan d tn false zs os rs k,(by repeat (first | exact trivial | refine ⟨by first | exact Yak hk | exact rfl | exact i1 | omega,?_⟩)),rfl⟩
 | true =>
  by_cases hd : (x.chain.svs.getD k sv0).d = d
  ·have d1 : ((x.chain.svs.getD k sv0).d != (d : Int)) = false := by simp only [bne_eq_false_iff_eq]; exact hd
   have hin := (Ygo ((x.chain.svs.getD k sv0).r - os.getD ((x.chain.svs.getD k sv0).s.toNat * 1) 0) (0 - (x.chain.svs.getD k sv0).e) (x.chain.svs.getD k sv0).e).up
   have e2 : rgtB os d (x.chain.svs.getD k sv0) = Yd6 ((x.chain.svs.getD k sv0).r - os.getD ((x.chain.svs.getD k sv0).s.toNat * 1) 0) (0 - (x.chain.svs.getD k sv0).e) (x.chain.svs.getD k sv0).e := by
    unfold rgtB
    rw [show ((x.chain.svs.getD k sv0).d == (d : Int)) = true by simpa using hd]
    rfl
   have i2 : Yac ((x.chain.svs.getD k sv0).r - os.getD ((x.chain.svs.getD k sv0).s.toNat * 1) 0) := by rw [Nat.mul_one]; exact Yah (by omega) (by omega)
   have i3 : Yac (0 - (x.chain.svs.getD k sv0).e) := Yah (by omega) (by omega)
   have j1 : 0 ≤ (x.chain.svs.getD k sv0).s ∧ (x.chain.svs.getD k sv0).s < (th.length : Int) := by omega
   have j2 : (x.chain.svs.getD k sv0).s.toNat * 1 + 1 ≤ os.length := by omega
   rw [e2]
   exact ⟨_,_,_,_,_,_,trB_4_look x th ws plan d tn true zs os rs k _,(by repeat (first | exact trivial | refine ⟨by first | exact Yak hk | exact rfl | exact d1 | exact hin | exact i1 | exact i2 | exact i3 | exact j1 | exact j2 | (constructor <;> omega) | omega,?_⟩)),rfl⟩
  ·have d1 : ((x.chain.svs.getD k sv0).d != (d : Int)) = true := by simp only [bne_iff_ne,ne_eq]; exact hd
   have e2 : rgtB os d (x.chain.svs.getD k sv0) = true := by
    unfold rgtB
    rw [show ((x.chain.svs.getD k sv0).d == (d : Int)) = false by simpa using hd]
    rfl
   rw [e2]
   exact ⟨_,_,_,_,_,_,trB_4_skip x th ws plan d tn true zs os rs k,(by repeat (first | exact trivial | refine ⟨by first | exact Yak hk | exact rfl | exact d1 | exact i1 | (constructor <;> omega) | omega,?_⟩)),rfl⟩
theorem trB_wear (hn : th.length = x.chain.secs.length) (hn4 : x.chain.secs.length ≤ 4) (hws : ws.length = x.chain.secs.length) (hwb : ∀ p,p < x.chain.secs.length → 0 ≤ ws.getD p 0 ∧ ws.getD p 0 ≤ 1000) (d : Nat) (tn rt : Bool) {zs os : List Int} (hz : zs.length = x.chain.secs.length) (ho : os.length = x.chain.secs.length)
  (hzb : ∀ k,k < x.chain.secs.length → -1000000 ≤ zs.getD k 0 ∧ zs.getD k 0 ≤ 1000000) (hob : ∀ k,k < x.chain.secs.length → -1000000 ≤ os.getD k 0 ∧ os.getD k 0 ≤ 1000000) (rs : List (List Int)) :
  LF 141 (k_80 [1,1,1,1,0,1,0,0,1,0,0,1,1,1,1,1]) (Yej x th ws plan d tn rt zs os rs 0) .normal (Yej x th ws plan d tn rt (Yfb x.chain.secs.length tn ws zs th.length) (Yfb x.chain.secs.length tn ws os th.length) rs th.length) := by
 refine LF.each (id := 6) (c := k_80 [1,1,1,1,0,1,0,0,1,0,0,1,1,1,1,1,0,0]) (by kernel_rfl) th.length (fun j => Yej x th ws plan d tn rt (Yfb x.chain.secs.length tn ws zs j) (Yfb x.chain.secs.length tn ws os j) rs j) (fun j hj => ?_) ⟨_,_,_,_,_,_,_,trB_6_end x th ws plan d tn rt _ _ rs _,⟨Yas,trivial⟩,.inl ⟨rfl,rfl⟩,rfl⟩
 have lz := Yeh x.chain.secs.length tn ws zs j
 have lo := Yeh x.chain.secs.length tn ws os j
 have gz := wearT_get (n := x.chain.secs.length) (f := tn) (ws := ws) (zs := zs) j (by omega) j (by omega)
 have go := wearT_get (n := x.chain.secs.length) (f := tn) (ws := ws) (zs := os) j (by omega) j (by omega)
 rw [if_neg (by omega)] at gz go
 have bz := hzb j (by omega)
 have bo := hob j (by omega)
 have hpi := piF_pi (f := tn) (n := x.chain.secs.length) (k := j) (by omega)
 have bw := hwb _ hpi.2
 have ez : Yfb x.chain.secs.length tn ws zs (j + 1) = (Yfb x.chain.secs.length tn ws zs j).set (j * 1) ((Yfb x.chain.secs.length tn ws zs j).getD (j * 1) 0 - ws.getD (piF x.chain.secs.length tn j) 0) := rfl
 have eo : Yfb x.chain.secs.length tn ws os (j + 1) = (Yfb x.chain.secs.length tn ws os j).set (j * 1) ((Yfb x.chain.secs.length tn ws os j).getD (j * 1) 0 - ws.getD (piF x.chain.secs.length tn j) 0) := rfl
 have i1 : Yac ((j : Int) + 1) := Yah (by omega) (by omega)
 have i2 : Yac ((Yfb x.chain.secs.length tn ws zs j).getD (j * 1) 0 - ws.getD (piF x.chain.secs.length tn j) 0) := by rw [Nat.mul_one,gz]; exact Yah (by omega) (by omega)
 have i3 : Yac ((Yfb x.chain.secs.length tn ws os j).getD (j * 1) 0 - ws.getD (piF x.chain.secs.length tn j) 0) := by rw [Nat.mul_one,go]; exact Yah (by omega) (by omega)
 simp only [ez,eo]
 cases tn with
 | false =>
  have ep : piF x.chain.secs.length false j = j := rfl
  rw [ep] at i2 i3 ⊢
  exact ⟨_,_,_,_,_,_,trB_6_lie x th ws plan d false rt _ _ rs j,(by repeat (first | exact trivial | refine ⟨by first | exact Yak hj | exact rfl | exact i1 | exact i2 | exact i3 | (constructor <;> omega) | omega,?_⟩)),rfl⟩
 | true =>
  have ep : Int.toNat ((th.length : Int) - 1 - (j : Int)) = piF x.chain.secs.length true j := by unfold piF; rw [if_pos rfl]; omega
  rw [← ep] at i2 i3 ⊢
  have i4 : Yac ((th.length : Int) - 1) := Yah (by omega) (by omega)
  have i5 : Yac ((th.length : Int) - 1 - (j : Int)) := Yah (by omega) (by omega)
  exact ⟨_,_,_,_,_,_,trB_6_turn x th ws plan d true rt _ _ rs j,(by repeat (first | exact trivial | refine ⟨by first | exact Yak hj | exact rfl | exact i1 | exact i2 | exact i3 | exact i4 | exact i5 | (constructor <;> omega) | omega,?_⟩)),rfl⟩
end
def trS (x : FBook) (T : Nat → Int) (w : W4) (ws : List Int) (plan : List Work) : Nat → List (Key × Val)
 | 0 => trA_S0 x (rowF x.chain T w 0) ws plan 0 false true (rowF x.chain T w 0) (rowF x.chain T w 0)
 | d + 1 => Yfe x (rowF x.chain T w 0) ws plan (d + 1) (liesP x.chain (d + 1)) (Yb2 x T w (d + 1)) (Yb3 x T w plan (d + 1)) (rowF x.chain T w (d + 1)) (Ycq x T w plan (d + 1))
theorem truths_con {x : FBook} (hV : FValid x) {T : Nat → Int} {w : W4} (h0 : Feas0 x.chain T w) {ws : List Int} (hws : ws.length = x.chain.secs.length) (hwg : ∀ p,p < x.chain.secs.length → ws.getD p 0 = w.at p) {plan : List Work} (hp : IsPlan x plan) :
  CF 80 [Yab x,.sl false .int (rowF x.chain T w 0),.sl false .int ws,.sl false .work plan] (.tup [.bool (Yb2 x T w (x.chain.days + 1).toNat),.sl false (.list .int) (Ycq x T w plan (x.chain.days + 1).toNat)]) := by
 have hC := hV.chain
 have hn4 := hC.secs
 have hdd := hC.days
 have htu := hC.turns
 have hth := rowF_len x.chain T w 0
 have hpl := plan_len hV hp
 have hwb : ∀ p,p < x.chain.secs.length → 0 ≤ ws.getD p 0 ∧ ws.getD p 0 ≤ 1000 := fun p hp' => by rw [hwg p hp']; exact at_in hV h0 p
 have hro : ∀ d,(rowF x.chain T w d).length = x.chain.secs.length := fun d => rowF_len x.chain T w d
 have hrh : ∀ d,(Yb3 x T w plan d).length = x.chain.secs.length := fun d => by simp [Yb3]
 have hrt : ∀ d,(Ybl x T w plan d).length = x.chain.secs.length := fun d => by simp [Ybl]
 have bo : ∀ d : Nat,(d : Int) ≤ x.chain.days → ∀ k,k < x.chain.secs.length → -1000000 ≤ (rowF x.chain T w d).getD k 0 ∧ (rowF x.chain T w d).getD k 0 ≤ 1000000 := fun d hd k hk => by
  rw [rowF_get hk]
  have := old_in hV h0 hk d
  omega
 have bt : ∀ d : Nat,(d : Int) ≤ x.chain.days → ∀ k,k < x.chain.secs.length → -1000000 ≤ (Ybl x T w plan d).getD k 0 ∧ (Ybl x T w plan d).getD k 0 ≤ 1000000 := fun d hd k hk => by
  have e : (Ybl x T w plan d).getD k 0 = thkV x T w plan k d := Yc2 (f := fun k => thkV x T w plan k d) hk
  rw [e]
  have := (head_in hV h0 hp hk d).2
  omega
 have z0 : 0 < (rowF x.chain T w 0).length ∧ (rowF x.chain T w 0).length * (8 + 1) ≤ 140737488355328 := by omega
 have hh0 : Yb3 x T w plan 0 = rowF x.chain T w 0 := head_row0 fun v hv => (hV.opn.1 _ (hp.1 v hv).1).1
 have hchg : ∀ d,chgTo x plan d (Yb3 x T w plan d) (rowF x.chain T w 0).length = Ybl x T w plan d := fun d => by rw [hth]; exact chg_row hp.2 d
 have hwear : ∀ d : Nat,Yfb x.chain.secs.length (Ycn x.chain.turns d) ws (Ybl x T w plan d) (rowF x.chain T w 0).length = Yb3 x T w plan (d + 1) := fun d => by rw [hth]; exact head_row hV.feet hwg d
 have hold : ∀ d : Nat,Yfb x.chain.secs.length (Ycn x.chain.turns d) ws (rowF x.chain T w d) (rowF x.chain T w 0).length = rowF x.chain T w (d + 1) := fun d => by rw [hth]; exact old_row hwg d
 have hloop : LF 141 (k_80 [1,1,1,1,0,1]) (trS x T w ws plan 0) .normal (trS x T w ws plan (x.chain.days + 1).toNat) := by
  refine LF.each (id := 0) (c := k_80 [1,1,1,1,0,1,0,0]) (by kernel_rfl) (x.chain.days + 1).toNat (fun d => trS x T w ws plan d) (fun d hd => ?_) ?_
  ·have hle : decide ((d : Int) ≤ x.chain.days) = true := decide_eq_true (by omega)
   have i1 : Yac ((d : Int) + 1) := Yah (by omega) (by omega)
   have hA := (atB_con x.chain.turns (d : Int) (by omega)).up
   have hge := indexF_ge (d : Int) x.chain.turns 0
   have hlie := lies_next hC d
   have hlp : liesP x.chain (d + 1) = Ycn x.chain.turns d := rfl
   have hdl := daysL_next x T w plan d
   have hdn := daysL_len x T w plan d
   have z2 : (rowF x.chain T w 0).length = (Ybl x T w plan d).length ∧ 0 < (rowF x.chain T w 0).length ∧ (rowF x.chain T w 0).length * (8 + 1) ≤ 140737488355328 := ⟨by rw [hrt]; exact hth,z0⟩
   have z3 : (Ycq x T w plan d ++ [Ybl x T w plan d]).length * (24 + 1) ≤ 140737488355328 := by rw [List.length_append,List.length_singleton,hdn]; omega
   have hr2 : Yb2 x T w (d + 1) = rgtTo x.chain.svs (rowF x.chain T w d) d (Yb2 x T w d) x.chain.svs.length := rfl
   have l6 := fun rs => trB_wear (x := x) (th := rowF x.chain T w 0) (ws := ws) (plan := plan) hth hn4.2 hws hwb d (Ycn x.chain.turns d) (Yb2 x T w (d + 1)) (hrt d) (hro d) (bt d (by omega)) (bo d (by omega)) rs
   rw [hwear,hold] at l6
   cases d with
   | zero =>
    have l2 := fun tn => trA_chg (x := x) (th := rowF x.chain T w 0) (ws := ws) (plan := plan) hth hn4.2 hpl 0 tn true (hrh 0) (rowF x.chain T w 0)
    rw [hchg,hh0] at l2
    have l4 := fun tn => trA_svs (x := x) (th := rowF x.chain T w 0) (ws := ws) (plan := plan) hV hth 0 tn true (Ybl x T w plan 0) (hro 0) (bo 0 (by omega))
    have hf0 : liesP x.chain 0 = false := rfl
    rw [hf0] at hlie
    have hd1 : Ycq x T w plan 1 = [Ybl x T w plan 0] := rfl
    by_cases hm : ((0 : Nat) : Int) ∈ x.chain.turns
    ·have d1 : decide (Ydx ((0 : Nat) : Int) x.chain.turns 0 ≥ 0) = true := decide_eq_true (hge.2 hm)
     have hfl : Ycn x.chain.turns ((0 : Nat) : Int) = true := by rw [hlie,decide_eq_true hm]; rfl
     rw [hfl] at l6
     exact ⟨_,_,_,_,_,_,trA_0_turn x (rowF x.chain T w 0) ws plan 0 false true (rowF x.chain T w 0) (rowF x.chain T w 0) _ _ _ _ (Ybl x T w plan 0) (Yb3 x T w plan 1) (rowF x.chain T w 1) (Yb2 x T w 1),(by repeat (first | exact trivial | refine ⟨by first | exact hle | exact hA | exact d1 | exact l2 true | exact l4 true | exact l6 [Ybl x T w plan 0] | exact z2 | exact i1 | exact rfl | decide,?_⟩)),by show _ = Yfe _ _ _ _ _ (liesP x.chain 1) _ _ _ _; rw [hlp,hfl,hd1]; rfl⟩
    ·have d1 : decide (Ydx ((0 : Nat) : Int) x.chain.turns 0 ≥ 0) = false := decide_eq_false fun h => hm (hge.1 h)
     have hfl : Ycn x.chain.turns ((0 : Nat) : Int) = false := by rw [hlie,decide_eq_false hm]; rfl
     rw [hfl] at l6
     exact ⟨_,_,_,_,_,_,trA_0_no x (rowF x.chain T w 0) ws plan 0 false true (rowF x.chain T w 0) (rowF x.chain T w 0) _ _ _ _ (Ybl x T w plan 0) (Yb3 x T w plan 1) (rowF x.chain T w 1) (Yb2 x T w 1),(by repeat (first | exact trivial | refine ⟨by first | exact hle | exact hA | exact d1 | exact l2 false | exact l4 false | exact l6 [Ybl x T w plan 0] | exact z2 | exact i1 | exact rfl | decide,?_⟩)),by show _ = Yfe _ _ _ _ _ (liesP x.chain 1) _ _ _ _; rw [hlp,hfl,hd1]⟩
   | succ d =>
    have l2 := fun tn => trB_chg (x := x) (th := rowF x.chain T w 0) (ws := ws) (plan := plan) hth hn4.2 hpl (d + 1) tn (Yb2 x T w (d + 1)) (hrh (d + 1)) (rowF x.chain T w (d + 1)) (Ycq x T w plan (d + 1))
    rw [hchg] at l2
    have l4 := fun tn => trB_svs (x := x) (th := rowF x.chain T w 0) (ws := ws) (plan := plan) hV hth (d + 1) tn (Yb2 x T w (d + 1)) (Ybl x T w plan (d + 1)) (hro (d + 1)) (bo (d + 1) (by omega)) (Ycq x T w plan (d + 1))
    have e0 : trS x T w ws plan (d + 1) = Yfe x (rowF x.chain T w 0) ws plan (d + 1) (liesP x.chain (d + 1)) (Yb2 x T w (d + 1)) (Yb3 x T w plan (d + 1)) (rowF x.chain T w (d + 1)) (Ycq x T w plan (d + 1)) := rfl
    simp only [e0]
    have e1 : trS x T w ws plan (d + 1 + 1) = Yfe x (rowF x.chain T w 0) ws plan (d + 1 + 1) (Ycn x.chain.turns ((d + 1 : Nat) : Int)) (Yb2 x T w (d + 1 + 1)) (Yb3 x T w plan (d + 1 + 1)) (rowF x.chain T w (d + 1 + 1)) (Ycq x T w plan (d + 1) ++ [Ybl x T w plan (d + 1)]) := by rw [← hdl]; rfl
    simp only [e1]
    generalize hlq : liesP x.chain (d + 1) = tn at *
    by_cases hm : ((d + 1 : Nat) : Int) ∈ x.chain.turns
    ·have d1 : decide (Ydx ((d + 1 : Nat) : Int) x.chain.turns 0 ≥ 0) = true := decide_eq_true (hge.2 hm)
     have hfl : Ycn x.chain.turns ((d + 1 : Nat) : Int) = !tn := by rw [hlie,decide_eq_true hm]; cases tn <;> rfl
     rw [hfl] at l6 ⊢
     exact ⟨_,_,_,_,_,_,trB_0_turn x (rowF x.chain T w 0) ws plan (d + 1) tn (Yb2 x T w (d + 1)) (Yb3 x T w plan (d + 1)) (rowF x.chain T w (d + 1)) (Ycq x T w plan (d + 1)) _ _ _ _ (Ybl x T w plan (d + 1)) (Yb3 x T w plan (d + 1 + 1)) (rowF x.chain T w (d + 1 + 1)) (Yb2 x T w (d + 1 + 1)),(by repeat (first | exact trivial | refine ⟨by first | exact hle | exact hA | exact d1 | exact l2 _ | exact l4 _ | exact l6 _ | exact z2 | exact z3 | exact i1 | exact rfl,?_⟩)),rfl⟩
    ·have d1 : decide (Ydx ((d + 1 : Nat) : Int) x.chain.turns 0 ≥ 0) = false := decide_eq_false fun h => hm (hge.1 h)
     have hfl : Ycn x.chain.turns ((d + 1 : Nat) : Int) = tn := by rw [hlie,decide_eq_false hm]; cases tn <;> rfl
     rw [hfl] at l6 ⊢
     exact ⟨_,_,_,_,_,_,trB_0_no x (rowF x.chain T w 0) ws plan (d + 1) tn (Yb2 x T w (d + 1)) (Yb3 x T w plan (d + 1)) (rowF x.chain T w (d + 1)) (Ycq x T w plan (d + 1)) _ _ _ _ (Ybl x T w plan (d + 1)) (Yb3 x T w plan (d + 1 + 1)) (rowF x.chain T w (d + 1 + 1)) (Yb2 x T w (d + 1 + 1)),(by repeat (first | exact trivial | refine ⟨by first | exact hle | exact hA | exact d1 | exact l2 _ | exact l4 _ | exact l6 _ | exact z2 | exact z3 | exact i1 | exact rfl,?_⟩)),rfl⟩
  ·obtain ⟨D,hD⟩ : ∃ D : Nat,(x.chain.days + 1).toNat = D + 1 := ⟨(x.chain.days + 1).toNat - 1,by omega⟩
   rw [hD]
   have hend : decide (((D + 1 : Nat) : Int) ≤ x.chain.days) = false := decide_eq_false (by omega)
   exact ⟨_,_,_,_,_,_,_,trB_0_end x (rowF x.chain T w 0) ws plan (D + 1) _ _ _ _ _,⟨hend,trivial⟩,.inl ⟨rfl,rfl⟩,rfl⟩
 obtain ⟨D,hD⟩ : ∃ D : Nat,(x.chain.days + 1).toNat = D + 1 := ⟨(x.chain.days + 1).toNat - 1,by omega⟩
 rw [hD] at hloop ⊢
 exact Yaa (GF 141) trA_fn (trA_all x (rowF x.chain T w 0) ws plan (D + 1) _ _ _ _ _) (by repeat (first | exact trivial | refine ⟨by first | exact z0 | exact hloop | exact rfl,?_⟩))
end Go.Di

namespace Go.Di
open Proofs
def typesG : List (Nat × TI) := (92,⟨.slice 90,1,24,[.nil],none,false⟩) :: Yba
theorem typesG_ok : Ybi PR (Yad typesG) := tabOk (by kernel_rfl)
noncomputable abbrev MG (n : Nat) : Cfg := mk PRG (Yad typesG) Ybx n
theorem GG (n : Nat) : Good PR (mk PR (Yad typesG) Ybx n) := good Yaj typesG_ok
theorem LG.each {n id : Nat} {b c : Code} (hb : b = .block id (.loop c)) (N : Nat) (S : Nat → List (Key × Val)) {e : Ex} {L' : List (Key × Val)}
  (on : ∀ i,i < N → ∃ dec orc lorc ks ps L1,runK (MG n) dec orc lorc c (S i) ks = some (ps,.normal,L1) ∧ allP ps ∧ L1 = S (i + 1))
  (fin : ∃ dec orc lorc ks ps e1 L1,runK (MG n) dec orc lorc c (S N) ks = some (ps,e1,L1) ∧ allP ps ∧ (e1 = .exit id ∧ e = .normal ∨ e1 = .ret ∧ e = .ret) ∧ L1 = L') : LF n b (S 0) e L' := by
 refine LoopT.count (tt := Yad typesG) hb N S (fun i hi => ?_) ?_
 ·obtain ⟨dec,orc,lorc,ks,ps,L1,h1,h2,h3⟩ := on i hi
  exact WpL.path (GG n) h1 h2 ⟨rfl,h3⟩
 ·obtain ⟨dec,orc,lorc,ks,ps,e1,L1,h1,h2,h3,h4⟩ := fin
  exact WpL.path (GG n) h1 h2 ⟨h3,h4⟩
end Go.Di

namespace Go.Di
open Proofs
noncomputable abbrev k_16 (p : List Nat) : Code := Code.at p (body Proofs.Tryd.f16)
theorem ltru_fn : FnOk PRG (MG 183) 16 (body Tryd.f16) [.tmp 6] := by refine ⟨Tryd.f16,?_,?_,?_,?_,?_⟩ <;> kernel_rfl
theorem lt1_fn : FnOk PRG (MG 183) 16 (body Tryd.f16) [.tmp 6] := by refine ⟨Tryd.f16,?_,?_,?_,?_,?_⟩ <;> kernel_rfl
theorem lt2_fn : FnOk PRG (MG 183) 16 (body Tryd.f16) [.tmp 6] := by refine ⟨Tryd.f16,?_,?_,?_,?_,?_⟩ <;> kernel_rfl
def Ygl (x : FBook) (bits : List Int) (n : Int) (i : Nat) (y : Int) (r : List Int) (z : Int) (q : List Int) : List (Key × Val) :=
 [(.tmp 1,.d (D.sl false E.int bits)),
  (.tmp 2,.d (D.I n)),
  (.tmp 3,.d (D.ptr 3 0)),
  (.tmp 7,.d (.own 50 (y :: r).length)),
  (.tmp 8,.d (.own 66 (z :: q).length)),
  (.tmp 9,.d (.I i)),
  (.box 3,.bx (some (Box.mk false (cellsOf (Yab x))))),
  (.obj 50,.ob (some ⟨.int,y :: r⟩)),
  (.obj 66,.ob (some ⟨.int,z :: q⟩))]
def ltB_K0 : List Key := [.tmp 1,.tmp 2,.tmp 3,.tmp 7,.tmp 8,.tmp 9,.box 3,.obj 50,.obj 66]
def ltA_S0 (x : FBook) (bits : List Int) (n : Int)  : List (Key × Val) :=
 [(.tmp 1,.d (D.sl false E.int bits)),
  (.tmp 2,.d (D.I n)),
  (.tmp 3,.d (D.ptr 3 0)),
  (.tmp 7,.d (D.sl true E.int [])),
  (.tmp 8,.d (D.sl true E.int [])),
  (.tmp 9,.d (D.I 0)),
  (.box 3,.bx (some (Box.mk false (cellsOf (Yab x))))),
  (.obj 50,.ob none),
  (.obj 66,.ob none)]
def lt1_S6 (x : FBook) (bits : List Int) (n : Int) (y : Int) (r : List Int) (z : Int) (q : List Int) (ps : List (List Work)) (p : Nat) (pl : List Work) (is : Bool) (ds : List (List Int)) (d s : Nat) : List (Key × Val) :=
 [(.tmp 3,.d (D.ptr 3 0)),
  (.tmp 7,.d (.own 50 (y :: r).length)),
  (.tmp 8,.d (.own 66 (z :: q).length)),
  (.tmp 10,.d (.sl true (.list .work) ps)),
  (.tmp 13,.d (.I p)),
  (.tmp 14,.d (.sl false .work pl)),
  (.tmp 15,.d (.bool is)),
  (.tmp 16,.d (.I 0)),
  (.tmp 18,.d (.sl false (.list .int) ds)),
  (.tmp 19,.d (.I d)),
  (.tmp 20,.d (.I s)),
  (.box 3,.bx (some (Box.mk false (cellsOf (Yab x))))),
  (.obj 50,.ob (some ⟨.int,y :: r⟩)),
  (.obj 66,.ob (some ⟨.int,z :: q⟩)),
  (.obj 81,.ob none)]
def lt1_K6 : List Key := [.tmp 3,.tmp 7,.tmp 8,.tmp 10,.tmp 13,.tmp 14,.tmp 15,.tmp 16,.tmp 18,.tmp 19,.tmp 20,.box 3,.obj 50,.obj 66,.obj 81]
def lt1_S4 (x : FBook) (bits : List Int) (n : Int) (y : Int) (r : List Int) (z : Int) (q : List Int) (ps : List (List Work)) (p : Nat) (pl : List Work) (is : Bool) (ds : List (List Int)) (d : Nat) : List (Key × Val) :=
 [(.tmp 3,.d (D.ptr 3 0)),
  (.tmp 7,.d (.own 50 (y :: r).length)),
  (.tmp 8,.d (.own 66 (z :: q).length)),
  (.tmp 10,.d (.sl true (.list .work) ps)),
  (.tmp 13,.d (.I p)),
  (.tmp 14,.d (.sl false .work pl)),
  (.tmp 15,.d (.bool is)),
  (.tmp 16,.d (.I 0)),
  (.tmp 18,.d (.sl false (.list .int) ds)),
  (.tmp 19,.d (.I d)),
  (.box 3,.bx (some (Box.mk false (cellsOf (Yab x))))),
  (.obj 50,.ob (some ⟨.int,y :: r⟩)),
  (.obj 66,.ob (some ⟨.int,z :: q⟩)),
  (.obj 81,.ob none)]
def lt1_K4 : List Key := [.tmp 3,.tmp 7,.tmp 8,.tmp 10,.tmp 13,.tmp 14,.tmp 15,.tmp 16,.tmp 18,.tmp 19,.box 3,.obj 50,.obj 66,.obj 81]
def Yem (x : FBook) (bits : List Int) (n : Int) (y : Int) (r : List Int) (z : Int) (q : List Int) (ps : List (List Work)) (p : Nat) : List (Key × Val) :=
 [(.tmp 3,.d (D.ptr 3 0)),
  (.tmp 7,.d (.own 50 (y :: r).length)),
  (.tmp 8,.d (.own 66 (z :: q).length)),
  (.tmp 10,.d (.sl true (.list .work) ps)),
  (.tmp 13,.d (.I p)),
  (.box 3,.bx (some (Box.mk false (cellsOf (Yab x))))),
  (.obj 50,.ob (some ⟨.int,y :: r⟩)),
  (.obj 66,.ob (some ⟨.int,z :: q⟩)),
  (.obj 81,.ob none)]
def lt1_K2 : List Key := [.tmp 3,.tmp 7,.tmp 8,.tmp 10,.tmp 13,.box 3,.obj 50,.obj 66,.obj 81]
def lt2_S6 (x : FBook) (bits : List Int) (n : Int) (y : Int) (r : List Int) (z : Int) (q : List Int) (ps : List (List Work)) (p : Nat) (pl : List Work) (is : Bool) (ds : List (List Int)) (d s : Nat) : List (Key × Val) :=
 [(.tmp 3,.d (D.ptr 3 0)),
  (.tmp 7,.d (.own 50 (y :: r).length)),
  (.tmp 8,.d (.own 66 (z :: q).length)),
  (.tmp 10,.d (.own 81 ps.length)),
  (.tmp 13,.d (.I p)),
  (.tmp 14,.d (.sl false .work pl)),
  (.tmp 15,.d (.bool is)),
  (.tmp 16,.d (.I 0)),
  (.tmp 18,.d (.sl false (.list .int) ds)),
  (.tmp 19,.d (.I d)),
  (.tmp 20,.d (.I s)),
  (.box 3,.bx (some (Box.mk false (cellsOf (Yab x))))),
  (.obj 50,.ob (some ⟨.int,y :: r⟩)),
  (.obj 66,.ob (some ⟨.int,z :: q⟩)),
  (.obj 81,.ob (some ⟨.list .work,ps⟩))]
def lt2_K6 : List Key := [.tmp 3,.tmp 7,.tmp 8,.tmp 10,.tmp 13,.tmp 14,.tmp 15,.tmp 16,.tmp 18,.tmp 19,.tmp 20,.box 3,.obj 50,.obj 66,.obj 81]
def lt2_S4 (x : FBook) (bits : List Int) (n : Int) (y : Int) (r : List Int) (z : Int) (q : List Int) (ps : List (List Work)) (p : Nat) (pl : List Work) (is : Bool) (ds : List (List Int)) (d : Nat) : List (Key × Val) :=
 [(.tmp 3,.d (D.ptr 3 0)),
  (.tmp 7,.d (.own 50 (y :: r).length)),
  (.tmp 8,.d (.own 66 (z :: q).length)),
  (.tmp 10,.d (.own 81 ps.length)),
  (.tmp 13,.d (.I p)),
  (.tmp 14,.d (.sl false .work pl)),
  (.tmp 15,.d (.bool is)),
  (.tmp 16,.d (.I 0)),
  (.tmp 18,.d (.sl false (.list .int) ds)),
  (.tmp 19,.d (.I d)),
  (.box 3,.bx (some (Box.mk false (cellsOf (Yab x))))),
  (.obj 50,.ob (some ⟨.int,y :: r⟩)),
  (.obj 66,.ob (some ⟨.int,z :: q⟩)),
  (.obj 81,.ob (some ⟨.list .work,ps⟩))]
def lt2_K4 : List Key := [.tmp 3,.tmp 7,.tmp 8,.tmp 10,.tmp 13,.tmp 14,.tmp 15,.tmp 16,.tmp 18,.tmp 19,.box 3,.obj 50,.obj 66,.obj 81]
def Yc9 (x : FBook) (bits : List Int) (n : Int) (y : Int) (r : List Int) (z : Int) (q : List Int) (ps : List (List Work)) (p : Nat) : List (Key × Val) :=
 [(.tmp 3,.d (D.ptr 3 0)),
  (.tmp 7,.d (.own 50 (y :: r).length)),
  (.tmp 8,.d (.own 66 (z :: q).length)),
  (.tmp 10,.d (.own 81 ps.length)),
  (.tmp 13,.d (.I p)),
  (.box 3,.bx (some (Box.mk false (cellsOf (Yab x))))),
  (.obj 50,.ob (some ⟨.int,y :: r⟩)),
  (.obj 66,.ob (some ⟨.int,z :: q⟩)),
  (.obj 81,.ob (some ⟨.list .work,ps⟩))]
def lt2_K2 : List Key := [.tmp 3,.tmp 7,.tmp 8,.tmp 10,.tmp 13,.box 3,.obj 50,.obj 66,.obj 81]
theorem ltB_0_on (x : FBook) (bits : List Int) (n : Int) (i : Nat) (y : Int) (r : List Int) (z : Int) (q : List Int) (c1 a1 c2 a2 : Int) :
  runK (MG 183) [(33,true)] [(24,.bool true),(47,.I c1),(48,.I a1),(63,.I c2),(64,.I a2)] [] (k_16 [1,1,1,0,1,0,0]) (Ygl x bits n i y r z q) ltB_K0 =
   let Z0 := List.getD x.chain.secs (i) (E.z E.sec); let Z1 : Prop := Yac ((2 : Int) * (i : Int)); some ([decide ((i : Int) < (x.feet.length : Int)) = true,(0 : Int) ≤ (i : Int) ∧ (i : Int) < (x.chain.secs.length : Int),0 + 0 + 2 ≤ 4,Z1,CF 75 [D.sl false E.int bits,D.I ((2 : Int) * (i : Int))] (D.I c1),CF 74 [D.agg [D.I (Span.lo (Sec.t Z0)),D.I (Span.hi (Sec.t Z0))],D.I c1] (D.I a1),(y :: r).length = List.length ((y :: r)),List.length ((y :: r) ++ [a1]) * (8 + 1) ≤ 140737488355328,(0 : Int) ≤ (i : Int) ∧ (i : Int) < (x.chain.secs.length : Int),0 + 2 + 2 ≤ 4,Z1,Yac ((2 : Int) * (i : Int) + (1 : Int)),CF 75 [D.sl false E.int bits,D.I ((2 : Int) * (i : Int) + (1 : Int))] (D.I c2),CF 74 [D.agg [D.I (Span.lo (Sec.w Z0)),D.I (Span.hi (Sec.w Z0))],D.I c2] (D.I a2),(z :: q).length = List.length ((z :: q)),List.length ((z :: q) ++ [a2]) * (8 + 1) ≤ 140737488355328,Yac ((i : Int) + (1 : Int))],Ex.normal,Ygl x bits n (i + 1) y (r ++ [a1]) z (q ++ [a2])) := by kernel_rfl
theorem ltB_0_end (x : FBook) (bits : List Int) (n : Int) (i : Nat) (y : Int) (r : List Int) (z : Int) (q : List Int) :
  runK (MG 183) [(33,false)] [] [] (k_16 [1,1,1,0,1,0,0]) (Ygl x bits n i y r z q) ltB_K0 =
   some ([decide ((i : Int) < (x.feet.length : Int)) = false],Ex.exit 0,Ygl x bits n i y r z q) := by kernel_rfl
theorem ltA_0_on (x : FBook) (bits : List Int) (n : Int) (c1 a1 c2 a2 : Int) :
  runK (MG 183) [(33,true)] [(24,.bool true),(47,.I c1),(48,.I a1),(63,.I c2),(64,.I a2)] [] (k_16 [1,1,1,0,1,0,0]) (ltA_S0 x bits n ) ltB_K0 =
   let Z0 := List.getD x.chain.secs 0 (E.z E.sec); let Z1 : Prop := Yac ((2 : Int) * (0 : Int)); let Z2 : Prop := 1 * (8 + 1) ≤ 140737488355328; some ([decide ((0 : Int) < (x.feet.length : Int)) = true,(0 : Int) ≤ (0 : Int) ∧ (0 : Int) < (x.chain.secs.length : Int),0 + 0 + 2 ≤ 4,Z1,CF 75 [D.sl false E.int bits,D.I ((2 : Int) * (0 : Int))] (D.I c1),CF 74 [D.agg [D.I (Span.lo (Sec.t Z0)),D.I (Span.hi (Sec.t Z0))],D.I c1] (D.I a1),Z2,(0 : Int) ≤ (0 : Int) ∧ (0 : Int) < (x.chain.secs.length : Int),0 + 2 + 2 ≤ 4,Z1,Yac ((2 : Int) * (0 : Int) + (1 : Int)),CF 75 [D.sl false E.int bits,D.I ((2 : Int) * (0 : Int) + (1 : Int))] (D.I c2),CF 74 [D.agg [D.I (Span.lo (Sec.w Z0)),D.I (Span.hi (Sec.w Z0))],D.I c2] (D.I a2),Z2,Yac ((0 : Int) + (1 : Int))],Ex.normal,Ygl x bits n 1 a1 [] a2 []) := by kernel_rfl
theorem lt1_6_safe (x : FBook) (bits : List Int) (n : Int) (y : Int) (r : List Int) (z : Int) (q : List Int) (ps : List (List Work)) (p : Nat) (pl : List Work) (is : Bool) (ds : List (List Int)) (d s : Nat) (u : Int) :
  runK (MG 183) [(138,true),(166,false),(168,true),(181,false)] [(146,.tup [.I u,.I 0])] [] (k_16 [1,1,1,1,1,1,0,1,0,0,1,0,0,1,1,1,1,1,1,0,0,1,0,0,1,0,0]) (lt1_S6 x bits n y r z q ps p pl is ds d s) lt1_K6 =
   let Z0 : Prop := decide (List.getD (List.getD ds (d) (E.z (E.list E.int))) (s) (0 : Int) < u) = false; let Z1 := List.getD ds (d) (E.z (E.list E.int)); some ([decide ((s : Int) < (x.feet.length : Int)) = true,CF 81 [Yab x,D.sl false E.work pl,D.I (s : Int),D.I (d : Int)] (D.tup [D.I u,D.I 0]),(0 : Int) ≤ (d : Int) ∧ (d : Int) < (ds.length : Int),(0 : Int) ≤ (s : Int) ∧ (s : Int) < (Nat.cast : Nat → Int) (List.length Z1),0 + 1 ≤ 1,Z0,Z0,is = true,is = true,is = true,(0 : Int) ≤ (d : Int) ∧ (d : Int) < (ds.length : Int),is = true,is = true,is = true,(0 : Int) ≤ (s : Int) ∧ (s : Int) < (Nat.cast : Nat → Int) (List.length Z1),is = true,0 + 1 ≤ 1,is = true,is = true,is = true,is = true,Z0,is = true,Z0,decide (List.getD Z1 (s) (0 : Int) < x.chain.rule) = false,Yac ((s : Int) + (1 : Int))],Ex.normal,lt1_S6 x bits n y r z q ps p pl is ds d (s + 1)) := by kernel_rfl
theorem lt1_6_un (x : FBook) (bits : List Int) (n : Int) (y : Int) (r : List Int) (z : Int) (q : List Int) (ps : List (List Work)) (p : Nat) (pl : List Work) (is : Bool) (ds : List (List Int)) (d s : Nat) (u : Int) :
  runK (MG 183) [(138,true),(166,false),(168,false)] [(146,.tup [.I u,.I 0])] [] (k_16 [1,1,1,1,1,1,0,1,0,0,1,0,0,1,1,1,1,1,1,0,0,1,0,0,1,0,0]) (lt1_S6 x bits n y r z q ps p pl is ds d s) lt1_K6 =
   let Z0 : Prop := decide (List.getD (List.getD ds (d) (E.z (E.list E.int))) (s) (0 : Int) < u) = false; some ([decide ((s : Int) < (x.feet.length : Int)) = true,CF 81 [Yab x,D.sl false E.work pl,D.I (s : Int),D.I (d : Int)] (D.tup [D.I u,D.I 0]),(0 : Int) ≤ (d : Int) ∧ (d : Int) < (ds.length : Int),(0 : Int) ≤ (s : Int) ∧ (s : Int) < (Nat.cast : Nat → Int) (List.length (List.getD ds (d) (E.z (E.list E.int)))),0 + 1 ≤ 1,Z0,Z0,is = false,is = false,is = false,is = false,is = false,is = false,is = false,is = false,is = false,is = false,is = false,Z0,is = false,Z0,Yac ((s : Int) + (1 : Int))],Ex.normal,lt1_S6 x bits n y r z q ps p pl is ds d (s + 1)) := by kernel_rfl
theorem lt1_6_end (x : FBook) (bits : List Int) (n : Int) (y : Int) (r : List Int) (z : Int) (q : List Int) (ps : List (List Work)) (p : Nat) (pl : List Work) (is : Bool) (ds : List (List Int)) (d s : Nat) :
  runK (MG 183) [(138,false)] [] [] (k_16 [1,1,1,1,1,1,0,1,0,0,1,0,0,1,1,1,1,1,1,0,0,1,0,0,1,0,0]) (lt1_S6 x bits n y r z q ps p pl is ds d s) lt1_K6 =
   some ([decide ((s : Int) < (x.feet.length : Int)) = false],Ex.exit 6,lt1_S6 x bits n y r z q ps p pl is ds d s) := by kernel_rfl
theorem lt1_4_on (x : FBook) (bits : List Int) (n : Int) (y : Int) (r : List Int) (z : Int) (q : List Int) (ps : List (List Work)) (p : Nat) (pl : List Work) (is : Bool) (ds : List (List Int)) (d : Nat) (s : Nat) :
  runK (MG 183) [(131,true)] [] [(6,(lt1_K6,(.normal,lt1_S6 x bits n y r z q ps p pl is ds d s)))] (k_16 [1,1,1,1,1,1,0,1,0,0,1,0,0,1,1,1,1,1,1,0,0]) (lt1_S4 x bits n y r z q ps p pl is ds d) lt1_K4 =
   some ([decide ((d : Int) < (ds.length : Int)) = true,LF 183 (k_16 [1,1,1,1,1,1,0,1,0,0,1,0,0,1,1,1,1,1,1,0,0,1,0,0,1]) [(.tmp 3,.d (D.ptr 3 0)),(.tmp 7,.d (D.own 50 ((y :: r).length))),(.tmp 8,.d (D.own 66 ((z :: q).length))),(.tmp 10,.d (D.sl true (E.list E.work) ps)),(.tmp 13,.d (D.I (p : Int))),(.tmp 14,.d (D.sl false E.work pl)),(.tmp 15,.d (D.bool is)),(.tmp 16,.d (D.I 0)),(.tmp 18,.d (D.sl false (E.list E.int) ds)),(.tmp 19,.d (D.I (d : Int))),(.tmp 20,.d (D.I 0)),(.box 3,.bx (some (Box.mk false (cellsOf (Yab x))))),(.obj 50,.ob (some (Ob.mk E.int (y :: r)))),(.obj 66,.ob (some (Ob.mk E.int (z :: q)))),(.obj 81,.ob Option.none)] Ex.normal (lt1_S6 x bits n y r z q ps p pl is ds d s),Yac ((d : Int) + (1 : Int))],Ex.normal,lt1_S4 x bits n y r z q ps p pl is ds (d + 1)) := by kernel_rfl
theorem lt1_4_end (x : FBook) (bits : List Int) (n : Int) (y : Int) (r : List Int) (z : Int) (q : List Int) (ps : List (List Work)) (p : Nat) (pl : List Work) (is : Bool) (ds : List (List Int)) (d : Nat) :
  runK (MG 183) [(131,false)] [] [] (k_16 [1,1,1,1,1,1,0,1,0,0,1,0,0,1,1,1,1,1,1,0,0]) (lt1_S4 x bits n y r z q ps p pl is ds d) lt1_K4 =
   some ([decide ((d : Int) < (ds.length : Int)) = false],Ex.exit 4,lt1_S4 x bits n y r z q ps p pl is ds d) := by kernel_rfl
theorem lt1_2_bad0 (x : FBook) (bits : List Int) (n : Int) (y : Int) (r : List Int) (z : Int) (q : List Int) (ps : List (List Work)) (p : Nat) (ds : List (List Int)) :
  runK (MG 183) [(85,true),(113,false)] [(95,.tup [.bool false,.I 72]),(100,.bool true),(123,.tup [.bool false,.sl false (.list .int) ds])] [] (k_16 [1,1,1,1,1,1,0,1,0,0]) (Yem x bits n y r z q ps p) lt1_K2 =
   let Z0 := List.getD ps (p) (E.z (E.list E.work)); some ([decide ((p : Int) < (ps.length : Int)) = true,(0 : Int) ≤ (p : Int) ∧ (p : Int) < (ps.length : Int),CF 78 [Yab x,D.sl false E.work Z0] (D.tup [D.bool false,D.I 72]),CF 79 [Yab x,D.sl false E.work Z0] (D.bool true),((p : Int) == (1 : Int)) = false,((p : Int) == (1 : Int)) = false,((p : Int) == (1 : Int)) = false,(y :: r).length = List.length ((y :: r)),(z :: q).length = List.length ((z :: q)),CF 80 [Yab x,D.sl false E.int ((y :: r)),D.sl false E.int ((z :: q)),D.sl false E.work Z0] (D.tup [D.bool false,D.sl false (E.list E.int) ds]),Yac ((p : Int) + (1 : Int))],Ex.normal,Yem x bits n y r z q ps (p + 1)) := by kernel_rfl
theorem lt1_2_no0 (x : FBook) (bits : List Int) (n : Int) (y : Int) (r : List Int) (z : Int) (q : List Int) (ps : List (List Work)) (p : Nat) (is : Bool) (ds : List (List Int)) :
  runK (MG 183) [(85,true),(113,false)] [(95,.tup [.bool is,.I 0]),(100,.bool true),(123,.tup [.bool false,.sl false (.list .int) ds])] [] (k_16 [1,1,1,1,1,1,0,1,0,0]) (Yem x bits n y r z q ps p) lt1_K2 =
   let Z0 := List.getD ps (p) (E.z (E.list E.work)); some ([decide ((p : Int) < (ps.length : Int)) = true,(0 : Int) ≤ (p : Int) ∧ (p : Int) < (ps.length : Int),CF 78 [Yab x,D.sl false E.work Z0] (D.tup [D.bool is,D.I 0]),CF 79 [Yab x,D.sl false E.work Z0] (D.bool true),((p : Int) == (1 : Int)) = false,((p : Int) == (1 : Int)) = false,((p : Int) == (1 : Int)) = false,(y :: r).length = List.length ((y :: r)),(z :: q).length = List.length ((z :: q)),CF 80 [Yab x,D.sl false E.int ((y :: r)),D.sl false E.int ((z :: q)),D.sl false E.work Z0] (D.tup [D.bool false,D.sl false (E.list E.int) ds]),Yac ((p : Int) + (1 : Int))],Ex.normal,Yem x bits n y r z q ps (p + 1)) := by kernel_rfl
theorem lt1_2_yes0 (x : FBook) (bits : List Int) (n : Int) (y : Int) (r : List Int) (z : Int) (q : List Int) (ps : List (List Work)) (p : Nat) (is : Bool) (ds : List (List Int)) (d : Nat) :
  runK (MG 183) [(85,true),(113,false)] [(95,.tup [.bool is,.I 0]),(100,.bool true),(123,.tup [.bool true,.sl false (.list .int) ds])] [(4,(lt1_K4,(.normal,lt1_S4 x bits n y r z q ps p (ps.getD p []) is ds d)))] (k_16 [1,1,1,1,1,1,0,1,0,0]) (Yem x bits n y r z q ps p) lt1_K2 =
   let Z0 := List.getD ps (p) (E.z (E.list E.work)); some ([decide ((p : Int) < (ps.length : Int)) = true,(0 : Int) ≤ (p : Int) ∧ (p : Int) < (ps.length : Int),CF 78 [Yab x,D.sl false E.work Z0] (D.tup [D.bool is,D.I 0]),CF 79 [Yab x,D.sl false E.work Z0] (D.bool true),((p : Int) == (1 : Int)) = false,((p : Int) == (1 : Int)) = false,((p : Int) == (1 : Int)) = false,(y :: r).length = List.length ((y :: r)),(z :: q).length = List.length ((z :: q)),CF 80 [Yab x,D.sl false E.int ((y :: r)),D.sl false E.int ((z :: q)),D.sl false E.work Z0] (D.tup [D.bool true,D.sl false (E.list E.int) ds]),LF 183 (k_16 [1,1,1,1,1,1,0,1,0,0,1,0,0,1,1,1,1,1,1]) [(.tmp 3,.d (D.ptr 3 0)),(.tmp 7,.d (D.own 50 ((y :: r).length))),(.tmp 8,.d (D.own 66 ((z :: q).length))),(.tmp 10,.d (D.sl true (E.list E.work) ps)),(.tmp 13,.d (D.I (p : Int))),(.tmp 14,.d (D.sl false E.work Z0)),(.tmp 15,.d (D.bool is)),(.tmp 16,.d (D.I 0)),(.tmp 18,.d (D.sl false (E.list E.int) ds)),(.tmp 19,.d (D.I 0)),(.box 3,.bx (some (Box.mk false (cellsOf (Yab x))))),(.obj 50,.ob (some (Ob.mk E.int (y :: r)))),(.obj 66,.ob (some (Ob.mk E.int (z :: q)))),(.obj 81,.ob Option.none)] Ex.normal (lt1_S4 x bits n y r z q ps p (List.getD ps p []) is ds d),Yac ((p : Int) + (1 : Int))],Ex.normal,Yem x bits n y r z q ps (p + 1)) := by kernel_rfl
theorem lt1_2_end (x : FBook) (bits : List Int) (n : Int) (y : Int) (r : List Int) (z : Int) (q : List Int) (ps : List (List Work)) (p : Nat) :
  runK (MG 183) [(85,false)] [] [] (k_16 [1,1,1,1,1,1,0,1,0,0]) (Yem x bits n y r z q ps p) lt1_K2 =
   some ([decide ((p : Int) < (ps.length : Int)) = false],Ex.exit 2,Yem x bits n y r z q ps p) := by kernel_rfl
theorem lt2_6_safe (x : FBook) (bits : List Int) (n : Int) (y : Int) (r : List Int) (z : Int) (q : List Int) (ps : List (List Work)) (p : Nat) (pl : List Work) (is : Bool) (ds : List (List Int)) (d s : Nat) (u : Int) :
  runK (MG 183) [(138,true),(166,false),(168,true),(181,false)] [(146,.tup [.I u,.I 0])] [] (k_16 [1,1,1,1,1,1,0,1,0,0,1,0,0,1,1,1,1,1,1,0,0,1,0,0,1,0,0]) (lt2_S6 x bits n y r z q ps p pl is ds d s) lt2_K6 =
   let Z0 : Prop := decide (List.getD (List.getD ds (d) (E.z (E.list E.int))) (s) (0 : Int) < u) = false; let Z1 := List.getD ds (d) (E.z (E.list E.int)); some ([decide ((s : Int) < (x.feet.length : Int)) = true,CF 81 [Yab x,D.sl false E.work pl,D.I (s : Int),D.I (d : Int)] (D.tup [D.I u,D.I 0]),(0 : Int) ≤ (d : Int) ∧ (d : Int) < (ds.length : Int),(0 : Int) ≤ (s : Int) ∧ (s : Int) < (Nat.cast : Nat → Int) (List.length Z1),0 + 1 ≤ 1,Z0,Z0,is = true,is = true,is = true,(0 : Int) ≤ (d : Int) ∧ (d : Int) < (ds.length : Int),is = true,is = true,is = true,(0 : Int) ≤ (s : Int) ∧ (s : Int) < (Nat.cast : Nat → Int) (List.length Z1),is = true,0 + 1 ≤ 1,is = true,is = true,is = true,is = true,Z0,is = true,Z0,decide (List.getD Z1 (s) (0 : Int) < x.chain.rule) = false,Yac ((s : Int) + (1 : Int))],Ex.normal,lt2_S6 x bits n y r z q ps p pl is ds d (s + 1)) := by kernel_rfl
theorem lt2_6_un (x : FBook) (bits : List Int) (n : Int) (y : Int) (r : List Int) (z : Int) (q : List Int) (ps : List (List Work)) (p : Nat) (pl : List Work) (is : Bool) (ds : List (List Int)) (d s : Nat) (u : Int) :
  runK (MG 183) [(138,true),(166,false),(168,false)] [(146,.tup [.I u,.I 0])] [] (k_16 [1,1,1,1,1,1,0,1,0,0,1,0,0,1,1,1,1,1,1,0,0,1,0,0,1,0,0]) (lt2_S6 x bits n y r z q ps p pl is ds d s) lt2_K6 =
   let Z0 : Prop := decide (List.getD (List.getD ds (d) (E.z (E.list E.int))) (s) (0 : Int) < u) = false; some ([decide ((s : Int) < (x.feet.length : Int)) = true,CF 81 [Yab x,D.sl false E.work pl,D.I (s : Int),D.I (d : Int)] (D.tup [D.I u,D.I 0]),(0 : Int) ≤ (d : Int) ∧ (d : Int) < (ds.length : Int),(0 : Int) ≤ (s : Int) ∧ (s : Int) < (Nat.cast : Nat → Int) (List.length (List.getD ds (d) (E.z (E.list E.int)))),0 + 1 ≤ 1,Z0,Z0,is = false,is = false,is = false,is = false,is = false,is = false,is = false,is = false,is = false,is = false,is = false,Z0,is = false,Z0,Yac ((s : Int) + (1 : Int))],Ex.normal,lt2_S6 x bits n y r z q ps p pl is ds d (s + 1)) := by kernel_rfl
theorem lt2_6_end (x : FBook) (bits : List Int) (n : Int) (y : Int) (r : List Int) (z : Int) (q : List Int) (ps : List (List Work)) (p : Nat) (pl : List Work) (is : Bool) (ds : List (List Int)) (d s : Nat) :
  runK (MG 183) [(138,false)] [] [] (k_16 [1,1,1,1,1,1,0,1,0,0,1,0,0,1,1,1,1,1,1,0,0,1,0,0,1,0,0]) (lt2_S6 x bits n y r z q ps p pl is ds d s) lt2_K6 =
   some ([decide ((s : Int) < (x.feet.length : Int)) = false],Ex.exit 6,lt2_S6 x bits n y r z q ps p pl is ds d s) := by kernel_rfl
theorem lt2_4_on (x : FBook) (bits : List Int) (n : Int) (y : Int) (r : List Int) (z : Int) (q : List Int) (ps : List (List Work)) (p : Nat) (pl : List Work) (is : Bool) (ds : List (List Int)) (d : Nat) (s : Nat) :
  runK (MG 183) [(131,true)] [] [(6,(lt2_K6,(.normal,lt2_S6 x bits n y r z q ps p pl is ds d s)))] (k_16 [1,1,1,1,1,1,0,1,0,0,1,0,0,1,1,1,1,1,1,0,0]) (lt2_S4 x bits n y r z q ps p pl is ds d) lt2_K4 =
   some ([decide ((d : Int) < (ds.length : Int)) = true,LF 183 (k_16 [1,1,1,1,1,1,0,1,0,0,1,0,0,1,1,1,1,1,1,0,0,1,0,0,1]) [(.tmp 3,.d (D.ptr 3 0)),(.tmp 7,.d (D.own 50 ((y :: r).length))),(.tmp 8,.d (D.own 66 ((z :: q).length))),(.tmp 10,.d (D.own 81 ps.length)),(.tmp 13,.d (D.I (p : Int))),(.tmp 14,.d (D.sl false E.work pl)),(.tmp 15,.d (D.bool is)),(.tmp 16,.d (D.I 0)),(.tmp 18,.d (D.sl false (E.list E.int) ds)),(.tmp 19,.d (D.I (d : Int))),(.tmp 20,.d (D.I 0)),(.box 3,.bx (some (Box.mk false (cellsOf (Yab x))))),(.obj 50,.ob (some (Ob.mk E.int (y :: r)))),(.obj 66,.ob (some (Ob.mk E.int (z :: q)))),(.obj 81,.ob (some (Ob.mk (E.list E.work) ps)))] Ex.normal (lt2_S6 x bits n y r z q ps p pl is ds d s),Yac ((d : Int) + (1 : Int))],Ex.normal,lt2_S4 x bits n y r z q ps p pl is ds (d + 1)) := by kernel_rfl
theorem lt2_4_end (x : FBook) (bits : List Int) (n : Int) (y : Int) (r : List Int) (z : Int) (q : List Int) (ps : List (List Work)) (p : Nat) (pl : List Work) (is : Bool) (ds : List (List Int)) (d : Nat) :
  runK (MG 183) [(131,false)] [] [] (k_16 [1,1,1,1,1,1,0,1,0,0,1,0,0,1,1,1,1,1,1,0,0]) (lt2_S4 x bits n y r z q ps p pl is ds d) lt2_K4 =
   some ([decide ((d : Int) < (ds.length : Int)) = false],Ex.exit 4,lt2_S4 x bits n y r z q ps p pl is ds d) := by kernel_rfl
theorem lt2_2_bad0 (x : FBook) (bits : List Int) (n : Int) (y : Int) (r : List Int) (z : Int) (q : List Int) (ps : List (List Work)) (p : Nat) (ds : List (List Int)) :
  runK (MG 183) [(85,true),(113,false)] [(95,.tup [.bool false,.I 72]),(100,.bool true),(123,.tup [.bool false,.sl false (.list .int) ds])] [] (k_16 [1,1,1,1,1,1,0,1,0,0]) (Yc9 x bits n y r z q ps p) lt2_K2 =
   let Z0 := List.getD (ps) (p) (E.z (Ob.e (Ob.mk (E.list E.work) ps))); let Z1 : Prop := ps.length = List.length (ps); some ([Z1,decide ((p : Int) < (List.length (ps) : Int)) = true,Z1,(0 : Int) ≤ (p : Int) ∧ (p : Int) < (List.length (ps) : Int),CF 78 [Yab x,D.sl false E.work Z0] (D.tup [D.bool false,D.I 72]),CF 79 [Yab x,D.sl false E.work Z0] (D.bool true),((p : Int) == (1 : Int)) = false,((p : Int) == (1 : Int)) = false,((p : Int) == (1 : Int)) = false,(y :: r).length = List.length ((y :: r)),(z :: q).length = List.length ((z :: q)),CF 80 [Yab x,D.sl false E.int ((y :: r)),D.sl false E.int ((z :: q)),D.sl false E.work Z0] (D.tup [D.bool false,D.sl false (E.list E.int) ds]),Yac ((p : Int) + (1 : Int))],Ex.normal,Yc9 x bits n y r z q ps (p + 1)) := by kernel_rfl
theorem lt2_2_no0 (x : FBook) (bits : List Int) (n : Int) (y : Int) (r : List Int) (z : Int) (q : List Int) (ps : List (List Work)) (p : Nat) (is : Bool) (ds : List (List Int)) :
  runK (MG 183) [(85,true),(113,false)] [(95,.tup [.bool is,.I 0]),(100,.bool true),(123,.tup [.bool false,.sl false (.list .int) ds])] [] (k_16 [1,1,1,1,1,1,0,1,0,0]) (Yc9 x bits n y r z q ps p) lt2_K2 =
   let Z0 := List.getD (ps) (p) (E.z (Ob.e (Ob.mk (E.list E.work) ps))); let Z1 : Prop := ps.length = List.length (ps); some ([Z1,decide ((p : Int) < (List.length (ps) : Int)) = true,Z1,(0 : Int) ≤ (p : Int) ∧ (p : Int) < (List.length (ps) : Int),CF 78 [Yab x,D.sl false E.work Z0] (D.tup [D.bool is,D.I 0]),CF 79 [Yab x,D.sl false E.work Z0] (D.bool true),((p : Int) == (1 : Int)) = false,((p : Int) == (1 : Int)) = false,((p : Int) == (1 : Int)) = false,(y :: r).length = List.length ((y :: r)),(z :: q).length = List.length ((z :: q)),CF 80 [Yab x,D.sl false E.int ((y :: r)),D.sl false E.int ((z :: q)),D.sl false E.work Z0] (D.tup [D.bool false,D.sl false (E.list E.int) ds]),Yac ((p : Int) + (1 : Int))],Ex.normal,Yc9 x bits n y r z q ps (p + 1)) := by kernel_rfl
theorem lt2_2_yes0 (x : FBook) (bits : List Int) (n : Int) (y : Int) (r : List Int) (z : Int) (q : List Int) (ps : List (List Work)) (p : Nat) (is : Bool) (ds : List (List Int)) (d : Nat) :
  runK (MG 183) [(85,true),(113,false)] [(95,.tup [.bool is,.I 0]),(100,.bool true),(123,.tup [.bool true,.sl false (.list .int) ds])] [(4,(lt2_K4,(.normal,lt2_S4 x bits n y r z q ps p (ps.getD p []) is ds d)))] (k_16 [1,1,1,1,1,1,0,1,0,0]) (Yc9 x bits n y r z q ps p) lt2_K2 =
   let Z0 := List.getD (ps) (p) (E.z (Ob.e (Ob.mk (E.list E.work) ps))); let Z1 : Prop := ps.length = List.length (ps); some ([Z1,decide ((p : Int) < (List.length (ps) : Int)) = true,Z1,(0 : Int) ≤ (p : Int) ∧ (p : Int) < (List.length (ps) : Int),CF 78 [Yab x,D.sl false E.work Z0] (D.tup [D.bool is,D.I 0]),CF 79 [Yab x,D.sl false E.work Z0] (D.bool true),((p : Int) == (1 : Int)) = false,((p : Int) == (1 : Int)) = false,((p : Int) == (1 : Int)) = false,(y :: r).length = List.length ((y :: r)),(z :: q).length = List.length ((z :: q)),CF 80 [Yab x,D.sl false E.int ((y :: r)),D.sl false E.int ((z :: q)),D.sl false E.work Z0] (D.tup [D.bool true,D.sl false (E.list E.int) ds]),LF 183 (k_16 [1,1,1,1,1,1,0,1,0,0,1,0,0,1,1,1,1,1,1]) [(.tmp 3,.d (D.ptr 3 0)),(.tmp 7,.d (D.own 50 ((y :: r).length))),(.tmp 8,.d (D.own 66 ((z :: q).length))),(.tmp 10,.d (D.own 81 ps.length)),(.tmp 13,.d (D.I (p : Int))),(.tmp 14,.d (D.sl false E.work Z0)),(.tmp 15,.d (D.bool is)),(.tmp 16,.d (D.I 0)),(.tmp 18,.d (D.sl false (E.list E.int) ds)),(.tmp 19,.d (D.I 0)),(.box 3,.bx (some (Box.mk false (cellsOf (Yab x))))),(.obj 50,.ob (some (Ob.mk E.int (y :: r)))),(.obj 66,.ob (some (Ob.mk E.int (z :: q)))),(.obj 81,.ob (some (Ob.mk (E.list E.work) ps)))] Ex.normal (lt2_S4 x bits n y r z q ps p (List.getD ps p []) is ds d),Yac ((p : Int) + (1 : Int))],Ex.normal,Yc9 x bits n y r z q ps (p + 1)) := by kernel_rfl
theorem lt2_2_end (x : FBook) (bits : List Int) (n : Int) (y : Int) (r : List Int) (z : Int) (q : List Int) (ps : List (List Work)) (p : Nat) :
  runK (MG 183) [(85,false)] [] [] (k_16 [1,1,1,1,1,1,0,1,0,0]) (Yc9 x bits n y r z q ps p) lt2_K2 =
   some ([ps.length = List.length (ps),decide ((p : Int) < (List.length (ps) : Int)) = false],Ex.exit 2,Yc9 x bits n y r z q ps p) := by kernel_rfl
theorem lt2_2_no1 (x : FBook) (bits : List Int) (n : Int) (y : Int) (r : List Int) (z : Int) (q : List Int) (ps : List (List Work)) (p : Nat) (ds : List (List Int)) :
  runK (MG 183) [(85,true),(113,true)] [(95,.tup [.bool true,.I 0]),(100,.bool true),(123,.tup [.bool false,.sl false (.list .int) ds])] [] (k_16 [1,1,1,1,1,1,0,1,0,0]) (Yc9 x bits n y r z q ps p) lt2_K2 =
   let Z0 := List.getD (ps) (p) (E.z (Ob.e (Ob.mk (E.list E.work) ps))); let Z1 : Prop := ps.length = List.length (ps); some ([Z1,decide ((p : Int) < (List.length (ps) : Int)) = true,Z1,(0 : Int) ≤ (p : Int) ∧ (p : Int) < (List.length (ps) : Int),CF 78 [Yab x,D.sl false E.work Z0] (D.tup [D.bool true,D.I 0]),CF 79 [Yab x,D.sl false E.work Z0] (D.bool true),((p : Int) == (1 : Int)) = true,((p : Int) == (1 : Int)) = true,((p : Int) == (1 : Int)) = true,(y :: r).length = List.length ((y :: r)),(z :: q).length = List.length ((z :: q)),CF 80 [Yab x,D.sl false E.int ((y :: r)),D.sl false E.int ((z :: q)),D.sl false E.work Z0] (D.tup [D.bool false,D.sl false (E.list E.int) ds]),Yac ((p : Int) + (1 : Int))],Ex.normal,Yc9 x bits n y r z q ps (p + 1)) := by kernel_rfl
theorem lt2_2_yes1 (x : FBook) (bits : List Int) (n : Int) (y : Int) (r : List Int) (z : Int) (q : List Int) (ps : List (List Work)) (p : Nat) (ds : List (List Int)) (d : Nat) :
  runK (MG 183) [(85,true),(113,true)] [(95,.tup [.bool true,.I 0]),(100,.bool true),(123,.tup [.bool true,.sl false (.list .int) ds])] [(4,(lt2_K4,(.normal,lt2_S4 x bits n y r z q ps p (ps.getD p []) true ds d)))] (k_16 [1,1,1,1,1,1,0,1,0,0]) (Yc9 x bits n y r z q ps p) lt2_K2 =
   let Z0 := List.getD (ps) (p) (E.z (Ob.e (Ob.mk (E.list E.work) ps))); let Z1 : Prop := ps.length = List.length (ps); some ([Z1,decide ((p : Int) < (List.length (ps) : Int)) = true,Z1,(0 : Int) ≤ (p : Int) ∧ (p : Int) < (List.length (ps) : Int),CF 78 [Yab x,D.sl false E.work Z0] (D.tup [D.bool true,D.I 0]),CF 79 [Yab x,D.sl false E.work Z0] (D.bool true),((p : Int) == (1 : Int)) = true,((p : Int) == (1 : Int)) = true,((p : Int) == (1 : Int)) = true,(y :: r).length = List.length ((y :: r)),(z :: q).length = List.length ((z :: q)),CF 80 [Yab x,D.sl false E.int ((y :: r)),D.sl false E.int ((z :: q)),D.sl false E.work Z0] (D.tup [D.bool true,D.sl false (E.list E.int) ds]),LF 183 (k_16 [1,1,1,1,1,1,0,1,0,0,1,0,0,1,1,1,1,1,1]) [(.tmp 3,.d (D.ptr 3 0)),(.tmp 7,.d (D.own 50 ((y :: r).length))),(.tmp 8,.d (D.own 66 ((z :: q).length))),(.tmp 10,.d (D.own 81 ps.length)),(.tmp 13,.d (D.I (p : Int))),(.tmp 14,.d (D.sl false E.work Z0)),(.tmp 15,.d (D.bool true)),(.tmp 16,.d (D.I 0)),(.tmp 18,.d (D.sl false (E.list E.int) ds)),(.tmp 19,.d (D.I 0)),(.box 3,.bx (some (Box.mk false (cellsOf (Yab x))))),(.obj 50,.ob (some (Ob.mk E.int (y :: r)))),(.obj 66,.ob (some (Ob.mk E.int (z :: q)))),(.obj 81,.ob (some (Ob.mk (E.list E.work) ps)))] Ex.normal (lt2_S4 x bits n y r z q ps p (List.getD ps p []) true ds d),Yac ((p : Int) + (1 : Int))],Ex.normal,Yc9 x bits n y r z q ps (p + 1)) := by kernel_rfl
theorem ltru_bad (x : FBook) (bits : List Int) (n : Int) :
  Yag (MG 183) [] [(24,.bool false),(26,.bool true)] [] (body Tryd.f16) [.tmp 6] [Yab x,.sl false .int bits,.I n] =
   some ([CF 72 [Yab x] (D.bool false),CF 73 [] (D.bool true)],D.bool true) := by kernel_rfl
theorem lt1_all4 (x : FBook) (bits : List Int) (n : Int) (dr : List Work) (i : Nat) (y : Int) (r : List Int) (z : Int) (q : List Int) (ps : List (List Work)) (p : Nat) :
  Yag (MG 183) [] [(24,.bool true),(69,.sl false .work dr),(73,.tup [.sl false .work [],.I 4]),(182,.bool true)] [(0,(ltB_K0,(.normal,Ygl x bits n i y r z q))),(2,(lt1_K2,(.normal,Yem x bits n y r z q ps p)))] (body Tryd.f16) [.tmp 6] [Yab x,.sl false .int bits,.I n] =
   some ([CF 72 [Yab x] (D.bool true),LF 183 (k_16 [1,1,1,0,1]) (ltA_S0 x bits n) Ex.normal (Ygl x bits n i y r z q),CF 76 [Yab x,D.I n] (D.sl false E.work dr),CF 77 [Yab x] (D.tup [D.sl false E.work [],D.I 4]),LF 183 (k_16 [1,1,1,1,1,1,0,1]) [(.tmp 3,.d (D.ptr 3 0)),(.tmp 7,.d (D.own 50 ((y :: r).length))),(.tmp 8,.d (D.own 66 ((z :: q).length))),(.tmp 10,.d (D.sl true (E.list E.work) [dr])),(.tmp 13,.d (D.I 0)),(.box 3,.bx (some (Box.mk false (cellsOf (Yab x))))),(.obj 50,.ob (some (Ob.mk E.int (y :: r)))),(.obj 66,.ob (some (Ob.mk E.int (z :: q)))),(.obj 81,.ob Option.none)] Ex.normal (Yem x bits n y r z q ps p),CF 73 [] (D.bool true)],D.bool true) := by kernel_rfl
theorem lt1_all72 (x : FBook) (bits : List Int) (n : Int) (dr : List Work) (i : Nat) (y : Int) (r : List Int) (z : Int) (q : List Int) (ps : List (List Work)) (p : Nat) :
  Yag (MG 183) [] [(24,.bool true),(69,.sl false .work dr),(73,.tup [.sl false .work [],.I 72]),(182,.bool true)] [(0,(ltB_K0,(.normal,Ygl x bits n i y r z q))),(2,(lt1_K2,(.normal,Yem x bits n y r z q ps p)))] (body Tryd.f16) [.tmp 6] [Yab x,.sl false .int bits,.I n] =
   some ([CF 72 [Yab x] (D.bool true),LF 183 (k_16 [1,1,1,0,1]) (ltA_S0 x bits n) Ex.normal (Ygl x bits n i y r z q),CF 76 [Yab x,D.I n] (D.sl false E.work dr),CF 77 [Yab x] (D.tup [D.sl false E.work [],D.I 72]),LF 183 (k_16 [1,1,1,1,1,1,0,1]) [(.tmp 3,.d (D.ptr 3 0)),(.tmp 7,.d (D.own 50 ((y :: r).length))),(.tmp 8,.d (D.own 66 ((z :: q).length))),(.tmp 10,.d (D.sl true (E.list E.work) [dr])),(.tmp 13,.d (D.I 0)),(.box 3,.bx (some (Box.mk false (cellsOf (Yab x))))),(.obj 50,.ob (some (Ob.mk E.int (y :: r)))),(.obj 66,.ob (some (Ob.mk E.int (z :: q)))),(.obj 81,.ob Option.none)] Ex.normal (Yem x bits n y r z q ps p),CF 73 [] (D.bool true)],D.bool true) := by kernel_rfl
theorem lt2_all (x : FBook) (bits : List Int) (n : Int) (dr be : List Work) (i : Nat) (y : Int) (r : List Int) (z : Int) (q : List Int) (ps : List (List Work)) (p : Nat) :
  Yag (MG 183) [] [(24,.bool true),(69,.sl false .work dr),(73,.tup [.sl false .work be,.I 0]),(182,.bool true)] [(0,(ltB_K0,(.normal,Ygl x bits n i y r z q))),(2,(lt2_K2,(.normal,Yc9 x bits n y r z q ps p)))] (body Tryd.f16) [.tmp 6] [Yab x,.sl false .int bits,.I n] =
   some ([CF 72 [Yab x] (D.bool true),LF 183 (k_16 [1,1,1,0,1]) (ltA_S0 x bits n) Ex.normal (Ygl x bits n i y r z q),CF 76 [Yab x,D.I n] (D.sl false E.work dr),CF 77 [Yab x] (D.tup [D.sl false E.work be,D.I 0]),2 * (24 + 1) ≤ 140737488355328,LF 183 (k_16 [1,1,1,1,1,1,0,1]) [(.tmp 3,.d (D.ptr 3 0)),(.tmp 7,.d (D.own 50 ((y :: r).length))),(.tmp 8,.d (D.own 66 ((z :: q).length))),(.tmp 10,.d (D.own 81 2)),(.tmp 13,.d (D.I 0)),(.box 3,.bx (some (Box.mk false (cellsOf (Yab x))))),(.obj 50,.ob (some (Ob.mk E.int (y :: r)))),(.obj 66,.ob (some (Ob.mk E.int (z :: q)))),(.obj 81,.ob (some (Ob.mk (E.list E.work) ([dr] ++ [be]))))] Ex.normal (Yc9 x bits n y r z q ps p),CF 73 [] (D.bool true)],D.bool true) := by kernel_rfl
end Go.Di

