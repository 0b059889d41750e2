/- Part 31: an interpreter over plain data for this code, with the proof that it says what the model does, and the contracts of the functions. No condition. -/
import Derived.Test.YtfkmodcjddfeiaaDoorDi30
set_option linter.unusedVariables false
set_option linter.unusedSimpArgs false
set_option maxRecDepth 100000
namespace Go.Di
open Proofs
open Go.RowKit Go.ChangeShapes Go.WideShapes Go.Deep Go.ChangeAt Go.Proofs
open Go.Proofs.YtfkmodcjddfeiaaDoor
theorem forgePlan_j0 : (Rows.forgePlanRow.wf (OpenSpec.ofChange Rows.forgePlanSpec)) = true := by kernel_rfl
theorem forgePlan_j1 : (laidOutB Tryd.prog) = true := by kernel_rfl
theorem forgePlan_j2 : (mapsRowed Tryd.prog) = true := by kernel_rfl
theorem forgePlan_j3 : (Tryd.f20.params.all (Tryd.prog.readableRec ·)) = true := by kernel_rfl
theorem forgePlan_j4 : (namedTie Tryd.prog Rows.forgePlanRow.named Rows.forgePlanSpec.vars) = true := by kernel_rfl
theorem forgePlan_j5 : ((Rows.forgePlanRow.stops == [])) = true := by kernel_rfl
theorem forgePlan_j6 : ((Tryd.prog.stops == [])) = true := by kernel_rfl
theorem forgePlan_j7 : ((Rows.forgePlanRow.knobs == [])) = true := by kernel_rfl
theorem forgePlan_j8 : ((Tryd.prog.stopKnobs == [])) = true := by kernel_rfl
theorem forgePlan_j9 : ((Rows.forgePlanRow.inPlace == Tryd.prog.inPlace 20)) = true := by kernel_rfl
theorem forgePlan_j10 : ((Rows.forgePlanRow.unfollowed == Tryd.prog.unfollowed 20)) = true := by kernel_rfl
theorem forgePlan_j11 : ((Rows.forgePlanRow.recurses == Tryd.prog.recurses 20)) = true := by kernel_rfl
theorem forgePlan_j12 : ((Rows.forgePlanRow.named == Tryd.prog.varsNamed 20)) = true := by kernel_rfl
theorem forgePlan_j13 : ((Rows.forgePlanRow.maps == (Tryd.f20.params.toList ++ Rows.forgePlanSpec.plain.varTypes Tryd.prog).any (Tryd.prog.mapsRec ·))) = true := by kernel_rfl
theorem forgePlan_j14 : ((Rows.forgePlanRow.ifaces == (Tryd.f20.params.toList ++ Rows.forgePlanSpec.plain.varTypes Tryd.prog).any (Tryd.prog.ifacesRec ·))) = true := by kernel_rfl
theorem forgePlan_j15 : ((Rows.forgePlanRow.mapsOut == Tryd.prog.mapsAmong Tryd.f20.resultTypes.toList)) = true := by kernel_rfl
theorem forgePlan_j16 : ((Rows.forgePlanRow.loops == (Tryd.f20.params.toList ++ Rows.forgePlanSpec.plain.varTypes Tryd.prog).any (Tryd.prog.loopsFrom ·))) = true := by kernel_rfl
theorem forgePlan_j17 : ((Rows.forgePlanRow.wideKeys == (Tryd.f20.params.toList ++ Rows.forgePlanSpec.plain.varTypes Tryd.prog ++ Tryd.f20.resultTypes.toList).any (Tryd.prog.wideKeysFrom ·))) = true := by kernel_rfl
theorem forgePlan_j18 : (Rows.forgePlanSpec.vars.all (Tryd.prog.varReadable ·)) = true := by kernel_rfl
theorem forgePlan_j19 : (Tryd.f20.resultTypes.all (fun t => Tryd.prog.readableRec t && decide (t < Tryd.prog.types.size))) = true := by kernel_rfl
theorem forgePlan_j20 : ((Rows.forgePlanRow.ifacesOut == Tryd.f20.resultTypes.toList.any (Tryd.prog.ifacesRec ·))) = true := by kernel_rfl
theorem forgePlan_j21 : ((Rows.forgePlanRow.loopsOut == Tryd.f20.resultTypes.toList.any (Tryd.prog.loopsFrom ·))) = true := by kernel_rfl
theorem forgePlan_j22 : ((Rows.forgePlanRow.plainKeys == Tryd.prog.plainKeys)) = true := by kernel_rfl
theorem forgePlan_j23 : (Rows.forgePlanRow.shortTexts.isNone) = true := by kernel_rfl
theorem forgePlan_j24 : (Tryd.prog.stopsHeard) = true := by kernel_rfl
theorem forgePlan_j25 : (Tryd.prog.mayEnter) = true := by kernel_rfl
theorem forgePlan_j26 : ((Rows.forgePlanRow.lifted == Tryd.prog.liftsFinal)) = true := by kernel_rfl
theorem forgePlan_j27 : ((Tryd.prog.make == some Rows.forgePlanRow.make)) = true := by kernel_rfl
theorem forgePlan_j28 : ((Rows.forgePlanRow.kinds == (if Rows.forgePlanRow.domain.isEmpty then [] else Tryd.f20.params.toList.map fun t => match Tryd.prog.underlying t with | some (.int k) => some k | _ => none))) = true := by kernel_rfl
theorem forgePlan_j29 : ((Rows.forgePlanRow.pinned == Rows.forgePlanRow.pinnedBy)) = true := by kernel_rfl
theorem forgePlan_j30 : ((Rows.forgePlanRow.veiled == (Tryd.f20.params.toList ++ Rows.forgePlanSpec.plain.varTypes Tryd.prog ++ Tryd.f20.resultTypes.toList).any (Tryd.prog.veiledRec ·))) = true := by kernel_rfl
theorem forgePlan_j31 : (Rows.forgePlanRow.veiledFits Tryd.prog Tryd.f20.params.toList (Tryd.f20.params.toList ++ Rows.forgePlanSpec.plain.varTypes Tryd.prog ++ Tryd.f20.resultTypes.toList)) = true := by kernel_rfl
theorem forgePlan_facts : joinedFacts Tryd.pinned.checked.prog 20 Tryd.f20 (OpenSpec.ofChange Rows.forgePlanSpec).bare Rows.forgePlanRow = true := by
 have h : joinedFacts Tryd.prog 20 Tryd.f20 Rows.forgePlanSpec Rows.forgePlanRow = true := by
  simp only [joinedFacts,Bool.and_eq_true]
  exact ⟨⟨⟨⟨⟨⟨⟨⟨⟨⟨⟨⟨⟨⟨⟨⟨⟨⟨⟨⟨⟨⟨⟨⟨⟨⟨⟨⟨⟨⟨⟨forgePlan_j0,forgePlan_j1⟩,forgePlan_j2⟩,forgePlan_j3⟩,forgePlan_j4⟩,forgePlan_j5⟩,forgePlan_j6⟩,forgePlan_j7⟩,forgePlan_j8⟩,forgePlan_j9⟩,forgePlan_j10⟩,forgePlan_j11⟩,forgePlan_j12⟩,forgePlan_j13⟩,forgePlan_j14⟩,forgePlan_j15⟩,forgePlan_j16⟩,forgePlan_j17⟩,forgePlan_j18⟩,forgePlan_j19⟩,forgePlan_j20⟩,forgePlan_j21⟩,forgePlan_j22⟩,forgePlan_j23⟩,forgePlan_j24⟩,forgePlan_j25⟩,forgePlan_j26⟩,forgePlan_j27⟩,forgePlan_j28⟩,forgePlan_j29⟩,forgePlan_j30⟩,forgePlan_j31⟩
 exact h
end Go.Di

