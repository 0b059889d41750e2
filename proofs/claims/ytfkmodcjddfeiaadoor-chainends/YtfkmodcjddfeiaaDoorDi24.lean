/- Part 24: an interpreter over plain data for this code, with the proof that it says what the model does, and the contracts of the functions. No condition. -/
import Derived.Test.YtfkmodcjddfeiaaDoorDi23
set_option linter.unusedVariables false
set_option linter.unusedSimpArgs false
set_option maxRecDepth 100000
namespace Go.Di
open Go.RowKit Go.ChangeShapes Go.WideShapes Go.Deep Go.ChangeAt Go.Proofs
open Go.Proofs.YtfkmodcjddfeiaaDoor
theorem chainEnds_j0 : (Rows.chainEndsRow.wf (OpenSpec.ofChange Rows.chainEndsSpec)) = true := by kernel_rfl
theorem chainEnds_j1 : (laidOutB Tryd.prog) = true := by kernel_rfl
theorem chainEnds_j2 : (mapsRowed Tryd.prog) = true := by kernel_rfl
theorem chainEnds_j3 : (Tryd.f7.params.all (Tryd.prog.readableRec ·)) = true := by kernel_rfl
theorem chainEnds_j4 : (namedTie Tryd.prog Rows.chainEndsRow.named Rows.chainEndsSpec.vars) = true := by kernel_rfl
theorem chainEnds_j5 : ((Rows.chainEndsRow.stops == [])) = true := by kernel_rfl
theorem chainEnds_j6 : ((Tryd.prog.stops == [])) = true := by kernel_rfl
theorem chainEnds_j7 : ((Rows.chainEndsRow.knobs == [])) = true := by kernel_rfl
theorem chainEnds_j8 : ((Tryd.prog.stopKnobs == [])) = true := by kernel_rfl
theorem chainEnds_j9 : ((Rows.chainEndsRow.inPlace == Tryd.prog.inPlace 7)) = true := by kernel_rfl
theorem chainEnds_j10 : ((Rows.chainEndsRow.unfollowed == Tryd.prog.unfollowed 7)) = true := by kernel_rfl
theorem chainEnds_j11 : ((Rows.chainEndsRow.recurses == Tryd.prog.recurses 7)) = true := by kernel_rfl
theorem chainEnds_j12 : ((Rows.chainEndsRow.named == Tryd.prog.varsNamed 7)) = true := by kernel_rfl
theorem chainEnds_j13 : ((Rows.chainEndsRow.maps == (Tryd.f7.params.toList ++ Rows.chainEndsSpec.plain.varTypes Tryd.prog).any (Tryd.prog.mapsRec ·))) = true := by kernel_rfl
theorem chainEnds_j14 : ((Rows.chainEndsRow.ifaces == (Tryd.f7.params.toList ++ Rows.chainEndsSpec.plain.varTypes Tryd.prog).any (Tryd.prog.ifacesRec ·))) = true := by kernel_rfl
theorem chainEnds_j15 : ((Rows.chainEndsRow.mapsOut == Tryd.prog.mapsAmong Tryd.f7.resultTypes.toList)) = true := by kernel_rfl
theorem chainEnds_j16 : ((Rows.chainEndsRow.loops == (Tryd.f7.params.toList ++ Rows.chainEndsSpec.plain.varTypes Tryd.prog).any (Tryd.prog.loopsFrom ·))) = true := by kernel_rfl
theorem chainEnds_j17 : ((Rows.chainEndsRow.wideKeys == (Tryd.f7.params.toList ++ Rows.chainEndsSpec.plain.varTypes Tryd.prog ++ Tryd.f7.resultTypes.toList).any (Tryd.prog.wideKeysFrom ·))) = true := by kernel_rfl
theorem chainEnds_j18 : (Rows.chainEndsSpec.vars.all (Tryd.prog.varReadable ·)) = true := by kernel_rfl
theorem chainEnds_j19 : (Tryd.f7.resultTypes.all (fun t => Tryd.prog.readableRec t && decide (t < Tryd.prog.types.size))) = true := by kernel_rfl
theorem chainEnds_j20 : ((Rows.chainEndsRow.ifacesOut == Tryd.f7.resultTypes.toList.any (Tryd.prog.ifacesRec ·))) = true := by kernel_rfl
theorem chainEnds_j21 : ((Rows.chainEndsRow.loopsOut == Tryd.f7.resultTypes.toList.any (Tryd.prog.loopsFrom ·))) = true := by kernel_rfl
theorem chainEnds_j22 : ((Rows.chainEndsRow.plainKeys == Tryd.prog.plainKeys)) = true := by kernel_rfl
theorem chainEnds_j23 : (Rows.chainEndsRow.shortTexts.isNone) = true := by kernel_rfl
theorem chainEnds_j24 : (Tryd.prog.stopsHeard) = true := by kernel_rfl
theorem chainEnds_j25 : (Tryd.prog.mayEnter) = true := by kernel_rfl
theorem chainEnds_j26 : ((Rows.chainEndsRow.lifted == Tryd.prog.liftsFinal)) = true := by kernel_rfl
theorem chainEnds_j27 : ((Tryd.prog.make == some Rows.chainEndsRow.make)) = true := by kernel_rfl
theorem chainEnds_j28 : ((Rows.chainEndsRow.kinds == (if Rows.chainEndsRow.domain.isEmpty then [] else Tryd.f7.params.toList.map fun t => match Tryd.prog.underlying t with | some (.int k) => some k | _ => none))) = true := by kernel_rfl
theorem chainEnds_j29 : ((Rows.chainEndsRow.pinned == Rows.chainEndsRow.pinnedBy)) = true := by kernel_rfl
theorem chainEnds_j30 : ((Rows.chainEndsRow.veiled == (Tryd.f7.params.toList ++ Rows.chainEndsSpec.plain.varTypes Tryd.prog ++ Tryd.f7.resultTypes.toList).any (Tryd.prog.veiledRec ·))) = true := by kernel_rfl
theorem chainEnds_j31 : (Rows.chainEndsRow.veiledFits Tryd.prog Tryd.f7.params.toList (Tryd.f7.params.toList ++ Rows.chainEndsSpec.plain.varTypes Tryd.prog ++ Tryd.f7.resultTypes.toList)) = true := by kernel_rfl
theorem chainEnds_facts : joinedFacts Tryd.pinned.checked.prog 7 Tryd.f7 (OpenSpec.ofChange Rows.chainEndsSpec).bare Rows.chainEndsRow = true := by
  have h : joinedFacts Tryd.prog 7 Tryd.f7 Rows.chainEndsSpec Rows.chainEndsRow = true := by
    simp only [joinedFacts, Bool.and_eq_true]
    exact ⟨⟨⟨⟨⟨⟨⟨⟨⟨⟨⟨⟨⟨⟨⟨⟨⟨⟨⟨⟨⟨⟨⟨⟨⟨⟨⟨⟨⟨⟨⟨chainEnds_j0, chainEnds_j1⟩, chainEnds_j2⟩, chainEnds_j3⟩, chainEnds_j4⟩, chainEnds_j5⟩, chainEnds_j6⟩, chainEnds_j7⟩, chainEnds_j8⟩, chainEnds_j9⟩, chainEnds_j10⟩, chainEnds_j11⟩, chainEnds_j12⟩, chainEnds_j13⟩, chainEnds_j14⟩, chainEnds_j15⟩, chainEnds_j16⟩, chainEnds_j17⟩, chainEnds_j18⟩, chainEnds_j19⟩, chainEnds_j20⟩, chainEnds_j21⟩, chainEnds_j22⟩, chainEnds_j23⟩, chainEnds_j24⟩, chainEnds_j25⟩, chainEnds_j26⟩, chainEnds_j27⟩, chainEnds_j28⟩, chainEnds_j29⟩, chainEnds_j30⟩, chainEnds_j31⟩
  exact h
end Go.Di

