/- Part 29: an interpreter over plain data for this code, with the proof that it says what the model does, and the contracts of the functions. No condition. -/
import Derived.Test.YtfkmodcjddfeiaaDoorDi28
set_option linter.unusedVariables false
set_option linter.unusedSimpArgs false
set_option maxRecDepth 100000
namespace Go.Di
open Proofs
open Go.RowKit Go.ChangeShapes Go.WideShapes Go.Deep Go.ChangeAt Go.Proofs
open Go.Proofs.YtfkmodcjddfeiaaDoor
theorem topTurned_j0 : (Rows.topTurnedRow.wf (OpenSpec.ofChange Rows.topTurnedSpec)) = true := by kernel_rfl
theorem topTurned_j1 : (laidOutB Tryd.prog) = true := by kernel_rfl
theorem topTurned_j2 : (mapsRowed Tryd.prog) = true := by kernel_rfl
theorem topTurned_j3 : (Tryd.f15.params.all (Tryd.prog.readableRec ·)) = true := by kernel_rfl
theorem topTurned_j4 : (namedTie Tryd.prog Rows.topTurnedRow.named Rows.topTurnedSpec.vars) = true := by kernel_rfl
theorem topTurned_j5 : ((Rows.topTurnedRow.stops == [])) = true := by kernel_rfl
theorem topTurned_j6 : ((Tryd.prog.stops == [])) = true := by kernel_rfl
theorem topTurned_j7 : ((Rows.topTurnedRow.knobs == [])) = true := by kernel_rfl
theorem topTurned_j8 : ((Tryd.prog.stopKnobs == [])) = true := by kernel_rfl
theorem topTurned_j9 : ((Rows.topTurnedRow.inPlace == Tryd.prog.inPlace 15)) = true := by kernel_rfl
theorem topTurned_j10 : ((Rows.topTurnedRow.unfollowed == Tryd.prog.unfollowed 15)) = true := by kernel_rfl
theorem topTurned_j11 : ((Rows.topTurnedRow.recurses == Tryd.prog.recurses 15)) = true := by kernel_rfl
theorem topTurned_j12 : ((Rows.topTurnedRow.named == Tryd.prog.varsNamed 15)) = true := by kernel_rfl
theorem topTurned_j13 : ((Rows.topTurnedRow.maps == (Tryd.f15.params.toList ++ Rows.topTurnedSpec.plain.varTypes Tryd.prog).any (Tryd.prog.mapsRec ·))) = true := by kernel_rfl
theorem topTurned_j14 : ((Rows.topTurnedRow.ifaces == (Tryd.f15.params.toList ++ Rows.topTurnedSpec.plain.varTypes Tryd.prog).any (Tryd.prog.ifacesRec ·))) = true := by kernel_rfl
theorem topTurned_j15 : ((Rows.topTurnedRow.mapsOut == Tryd.prog.mapsAmong Tryd.f15.resultTypes.toList)) = true := by kernel_rfl
theorem topTurned_j16 : ((Rows.topTurnedRow.loops == (Tryd.f15.params.toList ++ Rows.topTurnedSpec.plain.varTypes Tryd.prog).any (Tryd.prog.loopsFrom ·))) = true := by kernel_rfl
theorem topTurned_j17 : ((Rows.topTurnedRow.wideKeys == (Tryd.f15.params.toList ++ Rows.topTurnedSpec.plain.varTypes Tryd.prog ++ Tryd.f15.resultTypes.toList).any (Tryd.prog.wideKeysFrom ·))) = true := by kernel_rfl
theorem topTurned_j18 : (Rows.topTurnedSpec.vars.all (Tryd.prog.varReadable ·)) = true := by kernel_rfl
theorem topTurned_j19 : (Tryd.f15.resultTypes.all (fun t => Tryd.prog.readableRec t && decide (t < Tryd.prog.types.size))) = true := by kernel_rfl
theorem topTurned_j20 : ((Rows.topTurnedRow.ifacesOut == Tryd.f15.resultTypes.toList.any (Tryd.prog.ifacesRec ·))) = true := by kernel_rfl
theorem topTurned_j21 : ((Rows.topTurnedRow.loopsOut == Tryd.f15.resultTypes.toList.any (Tryd.prog.loopsFrom ·))) = true := by kernel_rfl
theorem topTurned_j22 : ((Rows.topTurnedRow.plainKeys == Tryd.prog.plainKeys)) = true := by kernel_rfl
theorem topTurned_j23 : (Rows.topTurnedRow.shortTexts.isNone) = true := by kernel_rfl
theorem topTurned_j24 : (Tryd.prog.stopsHeard) = true := by kernel_rfl
theorem topTurned_j25 : (Tryd.prog.mayEnter) = true := by kernel_rfl
theorem topTurned_j26 : ((Rows.topTurnedRow.lifted == Tryd.prog.liftsFinal)) = true := by kernel_rfl
theorem topTurned_j27 : ((Tryd.prog.make == some Rows.topTurnedRow.make)) = true := by kernel_rfl
theorem topTurned_j28 : ((Rows.topTurnedRow.kinds == (if Rows.topTurnedRow.domain.isEmpty then [] else Tryd.f15.params.toList.map fun t => match Tryd.prog.underlying t with | some (.int k) => some k | _ => none))) = true := by kernel_rfl
theorem topTurned_j29 : ((Rows.topTurnedRow.pinned == Rows.topTurnedRow.pinnedBy)) = true := by kernel_rfl
theorem topTurned_j30 : ((Rows.topTurnedRow.veiled == (Tryd.f15.params.toList ++ Rows.topTurnedSpec.plain.varTypes Tryd.prog ++ Tryd.f15.resultTypes.toList).any (Tryd.prog.veiledRec ·))) = true := by kernel_rfl
theorem topTurned_j31 : (Rows.topTurnedRow.veiledFits Tryd.prog Tryd.f15.params.toList (Tryd.f15.params.toList ++ Rows.topTurnedSpec.plain.varTypes Tryd.prog ++ Tryd.f15.resultTypes.toList)) = true := by kernel_rfl
theorem topTurned_facts : joinedFacts Tryd.pinned.checked.prog 15 Tryd.f15 (OpenSpec.ofChange Rows.topTurnedSpec).bare Rows.topTurnedRow = true := by
 have h : joinedFacts Tryd.prog 15 Tryd.f15 Rows.topTurnedSpec Rows.topTurnedRow = true := by
  simp only [joinedFacts,Bool.and_eq_true]
  exact ⟨⟨⟨⟨⟨⟨⟨⟨⟨⟨⟨⟨⟨⟨⟨⟨⟨⟨⟨⟨⟨⟨⟨⟨⟨⟨⟨⟨⟨⟨⟨topTurned_j0,topTurned_j1⟩,topTurned_j2⟩,topTurned_j3⟩,topTurned_j4⟩,topTurned_j5⟩,topTurned_j6⟩,topTurned_j7⟩,topTurned_j8⟩,topTurned_j9⟩,topTurned_j10⟩,topTurned_j11⟩,topTurned_j12⟩,topTurned_j13⟩,topTurned_j14⟩,topTurned_j15⟩,topTurned_j16⟩,topTurned_j17⟩,topTurned_j18⟩,topTurned_j19⟩,topTurned_j20⟩,topTurned_j21⟩,topTurned_j22⟩,topTurned_j23⟩,topTurned_j24⟩,topTurned_j25⟩,topTurned_j26⟩,topTurned_j27⟩,topTurned_j28⟩,topTurned_j29⟩,topTurned_j30⟩,topTurned_j31⟩
 exact h
end Go.Di

