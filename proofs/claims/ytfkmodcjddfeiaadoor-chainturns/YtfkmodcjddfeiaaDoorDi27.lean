/- Part 27: an interpreter over plain data for this code, with the proof that it says what the model does, and the contracts of the functions. No condition. -/
import Derived.Test.YtfkmodcjddfeiaaDoorDi26
set_option linter.unusedVariables false
set_option linter.unusedSimpArgs false
set_option maxRecDepth 100000
namespace Go.Di
open Go.RowKit Go.ChangeShapes Go.WideShapes Go.Deep Go.ChangeAt Go.Proofs
open Go.Proofs.YtfkmodcjddfeiaaDoor

theorem chainTurns_lifted (os : Os) (started : os.Started) (H : Type) (enc : TypeId × Value → H) (F : Stop.Interp) :
  ReturnsInHanded {} Tryd.checked os 5 .any ((OpenSpec.ofChange Rows.chainTurnsSpec).preRow enc Tryd.prog Tryd.f5 Rows.chainTurnsRow.domain false Rows.chainTurnsRow.laid) (((OpenSpec.ofChange Rows.chainTurnsSpec).at F).post enc Tryd.prog Tryd.f5 false true false false) := by
 refine returnsInHanded_of_row (C := Tryd.checked) (s := OpenSpec.ofChange Rows.chainTurnsSpec) own started (by kernel_rfl) (fn := Tryd.f5) (by kernel_rfl)
  (witness_row_atRef (enc := enc) (C := Tryd.checked) false (laidWorld os) #[noBook] rfl (by kernel_rfl) (by kernel_rfl) (by kernel_rfl)
   (OpenSpec.preRow_of_B rfl 8 (by kernel_rfl) (by kernel_rfl) (laid_met os _))) ?_
 intro W base args ds gs before hval hW _ _ hsz hL _ _
 have hp : Tryd.f5.params.toList = [26] := by kernel_rfl
 have hW' := hW
 obtain ⟨p, q, hA, hV, _, _, _⟩ := hW
 rw [hp] at hA
 obtain ⟨v0, vs0, d0, ds0, p0, q0, hargs0, rfl, _, h0, r0⟩ := trodAll_cons hA
 obtain ⟨rfl, rfl, _⟩ := trodAll_nil r0
 obtain ⟨rfl, _⟩ := trodVars_none hV
 have hva : args = #[v0] := by rw [← Array.toArray_toList (xs := args), hargs0]
 subst hva
 obtain ⟨b0, hs0, a0⟩ := arg26 (hval 0 26 v0 (by kernel_rfl) rfl) h0
 have hr0 : Room b0 := room26 h0 a0 fun m hm => by simpa using List.all_eq_true.1 hsz m (DataW.weights_mem_each (j := 0) (t := 26) (by rw [hp]; rfl) rfl m hm)
 have ha : All2 (Rel (Old W) W) [bookD b0] (#[v0] : Array Value).toList := ⟨a0, trivial⟩
 refine (calls_law (cturns_con hs0 hr0) (laid_glob hL) ha).mono fun e W' ⟨he, hb⟩ => ?_
 exact ⟨_, he, law_post laidOut (by rw [hp]; intro t ht; simp at ht; rcases ht with rfl <;> exact ⟨by kernel_rfl, of_decide_eq_true (by kernel_rfl)⟩) rfl (by kernel_rfl) under4 hW' rfl hb⟩
end Go.Di

