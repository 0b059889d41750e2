/- Part 25: an interpreter over plain data for this code, with the proof that it says what the model does, and the contracts of the functions. No condition. -/
import Derived.Test.YtfkmodcjddfeiaaDoorDi24
set_option linter.unusedVariables false
set_option linter.unusedSimpArgs false
set_option maxRecDepth 100000
namespace Go.Di
open Go.RowKit Go.ChangeShapes Go.WideShapes Go.Deep Go.ChangeAt Go.Proofs
open Go.Proofs.YtfkmodcjddfeiaaDoor
theorem chainWrong_j0 : (Rows.chainWrongRow.wf (OpenSpec.ofChange Rows.chainWrongSpec)) = true := by kernel_rfl
theorem chainWrong_j1 : (laidOutB Tryd.prog) = true := by kernel_rfl
theorem chainWrong_j2 : (mapsRowed Tryd.prog) = true := by kernel_rfl
theorem chainWrong_j3 : (Tryd.f12.params.all (Tryd.prog.readableRec ·)) = true := by kernel_rfl
theorem chainWrong_j4 : (namedTie Tryd.prog Rows.chainWrongRow.named Rows.chainWrongSpec.vars) = true := by kernel_rfl
theorem chainWrong_j5 : ((Rows.chainWrongRow.stops == [])) = true := by kernel_rfl
theorem chainWrong_j6 : ((Tryd.prog.stops == [])) = true := by kernel_rfl
theorem chainWrong_j7 : ((Rows.chainWrongRow.knobs == [])) = true := by kernel_rfl
theorem chainWrong_j8 : ((Tryd.prog.stopKnobs == [])) = true := by kernel_rfl
theorem chainWrong_j9 : ((Rows.chainWrongRow.inPlace == Tryd.prog.inPlace 12)) = true := by kernel_rfl
theorem chainWrong_j10 : ((Rows.chainWrongRow.unfollowed == Tryd.prog.unfollowed 12)) = true := by kernel_rfl
theorem chainWrong_j11 : ((Rows.chainWrongRow.recurses == Tryd.prog.recurses 12)) = true := by kernel_rfl
theorem chainWrong_j12 : ((Rows.chainWrongRow.named == Tryd.prog.varsNamed 12)) = true := by kernel_rfl
theorem chainWrong_j13 : ((Rows.chainWrongRow.maps == (Tryd.f12.params.toList ++ Rows.chainWrongSpec.plain.varTypes Tryd.prog).any (Tryd.prog.mapsRec ·))) = true := by kernel_rfl
theorem chainWrong_j14 : ((Rows.chainWrongRow.ifaces == (Tryd.f12.params.toList ++ Rows.chainWrongSpec.plain.varTypes Tryd.prog).any (Tryd.prog.ifacesRec ·))) = true := by kernel_rfl
theorem chainWrong_j15 : ((Rows.chainWrongRow.mapsOut == Tryd.prog.mapsAmong Tryd.f12.resultTypes.toList)) = true := by kernel_rfl
theorem chainWrong_j16 : ((Rows.chainWrongRow.loops == (Tryd.f12.params.toList ++ Rows.chainWrongSpec.plain.varTypes Tryd.prog).any (Tryd.prog.loopsFrom ·))) = true := by kernel_rfl
theorem chainWrong_j17 : ((Rows.chainWrongRow.wideKeys == (Tryd.f12.params.toList ++ Rows.chainWrongSpec.plain.varTypes Tryd.prog ++ Tryd.f12.resultTypes.toList).any (Tryd.prog.wideKeysFrom ·))) = true := by kernel_rfl
theorem chainWrong_j18 : (Rows.chainWrongSpec.vars.all (Tryd.prog.varReadable ·)) = true := by kernel_rfl
theorem chainWrong_j19 : (Tryd.f12.resultTypes.all (fun t => Tryd.prog.readableRec t && decide (t < Tryd.prog.types.size))) = true := by kernel_rfl
theorem chainWrong_j20 : ((Rows.chainWrongRow.ifacesOut == Tryd.f12.resultTypes.toList.any (Tryd.prog.ifacesRec ·))) = true := by kernel_rfl
theorem chainWrong_j21 : ((Rows.chainWrongRow.loopsOut == Tryd.f12.resultTypes.toList.any (Tryd.prog.loopsFrom ·))) = true := by kernel_rfl
theorem chainWrong_j22 : ((Rows.chainWrongRow.plainKeys == Tryd.prog.plainKeys)) = true := by kernel_rfl
theorem chainWrong_j23 : (Rows.chainWrongRow.shortTexts.isNone) = true := by kernel_rfl
theorem chainWrong_j24 : (Tryd.prog.stopsHeard) = true := by kernel_rfl
theorem chainWrong_j25 : (Tryd.prog.mayEnter) = true := by kernel_rfl
theorem chainWrong_j26 : ((Rows.chainWrongRow.lifted == Tryd.prog.liftsFinal)) = true := by kernel_rfl
theorem chainWrong_j27 : ((Tryd.prog.make == some Rows.chainWrongRow.make)) = true := by kernel_rfl
theorem chainWrong_j28 : ((Rows.chainWrongRow.kinds == (if Rows.chainWrongRow.domain.isEmpty then [] else Tryd.f12.params.toList.map fun t => match Tryd.prog.underlying t with | some (.int k) => some k | _ => none))) = true := by kernel_rfl
theorem chainWrong_j29 : ((Rows.chainWrongRow.pinned == Rows.chainWrongRow.pinnedBy)) = true := by kernel_rfl
theorem chainWrong_j30 : ((Rows.chainWrongRow.veiled == (Tryd.f12.params.toList ++ Rows.chainWrongSpec.plain.varTypes Tryd.prog ++ Tryd.f12.resultTypes.toList).any (Tryd.prog.veiledRec ·))) = true := by kernel_rfl
theorem chainWrong_j31 : (Rows.chainWrongRow.veiledFits Tryd.prog Tryd.f12.params.toList (Tryd.f12.params.toList ++ Rows.chainWrongSpec.plain.varTypes Tryd.prog ++ Tryd.f12.resultTypes.toList)) = true := by kernel_rfl
theorem chainWrong_facts : joinedFacts Tryd.pinned.checked.prog 12 Tryd.f12 (OpenSpec.ofChange Rows.chainWrongSpec).bare Rows.chainWrongRow = true := by
  have h : joinedFacts Tryd.prog 12 Tryd.f12 Rows.chainWrongSpec Rows.chainWrongRow = true := by
    simp only [joinedFacts, Bool.and_eq_true]
    exact ⟨⟨⟨⟨⟨⟨⟨⟨⟨⟨⟨⟨⟨⟨⟨⟨⟨⟨⟨⟨⟨⟨⟨⟨⟨⟨⟨⟨⟨⟨⟨chainWrong_j0, chainWrong_j1⟩, chainWrong_j2⟩, chainWrong_j3⟩, chainWrong_j4⟩, chainWrong_j5⟩, chainWrong_j6⟩, chainWrong_j7⟩, chainWrong_j8⟩, chainWrong_j9⟩, chainWrong_j10⟩, chainWrong_j11⟩, chainWrong_j12⟩, chainWrong_j13⟩, chainWrong_j14⟩, chainWrong_j15⟩, chainWrong_j16⟩, chainWrong_j17⟩, chainWrong_j18⟩, chainWrong_j19⟩, chainWrong_j20⟩, chainWrong_j21⟩, chainWrong_j22⟩, chainWrong_j23⟩, chainWrong_j24⟩, chainWrong_j25⟩, chainWrong_j26⟩, chainWrong_j27⟩, chainWrong_j28⟩, chainWrong_j29⟩, chainWrong_j30⟩, chainWrong_j31⟩
  exact h
end Go.Di

