/- Part 25: an interpreter over plain data for this code, with the proof that it says what the model does, and the contracts of the functions. No condition. -/
import Derived.Test.YtfkmodcjddfeiaaDoorDi24
set_option linter.unusedVariables false
set_option linter.unusedSimpArgs false
set_option maxRecDepth 100000
namespace Go.Di
open Go.RowKit Go.ChangeShapes Go.WideShapes Go.Deep Go.ChangeAt Go.Proofs
open Go.Proofs.YtfkmodcjddfeiaaDoor
theorem chainMore_j0 : (Rows.chainMoreRow.wf (OpenSpec.ofChange Rows.chainMoreSpec)) = true := by kernel_rfl
theorem chainMore_j1 : (laidOutB Tryd.prog) = true := by kernel_rfl
theorem chainMore_j2 : (mapsRowed Tryd.prog) = true := by kernel_rfl
theorem chainMore_j3 : (Tryd.f8.params.all (Tryd.prog.readableRec ·)) = true := by kernel_rfl
theorem chainMore_j4 : (namedTie Tryd.prog Rows.chainMoreRow.named Rows.chainMoreSpec.vars) = true := by kernel_rfl
theorem chainMore_j5 : ((Rows.chainMoreRow.stops == [])) = true := by kernel_rfl
theorem chainMore_j6 : ((Tryd.prog.stops == [])) = true := by kernel_rfl
theorem chainMore_j7 : ((Rows.chainMoreRow.knobs == [])) = true := by kernel_rfl
theorem chainMore_j8 : ((Tryd.prog.stopKnobs == [])) = true := by kernel_rfl
theorem chainMore_j9 : ((Rows.chainMoreRow.inPlace == Tryd.prog.inPlace 8)) = true := by kernel_rfl
theorem chainMore_j10 : ((Rows.chainMoreRow.unfollowed == Tryd.prog.unfollowed 8)) = true := by kernel_rfl
theorem chainMore_j11 : ((Rows.chainMoreRow.recurses == Tryd.prog.recurses 8)) = true := by kernel_rfl
theorem chainMore_j12 : ((Rows.chainMoreRow.named == Tryd.prog.varsNamed 8)) = true := by kernel_rfl
theorem chainMore_j13 : ((Rows.chainMoreRow.maps == (Tryd.f8.params.toList ++ Rows.chainMoreSpec.plain.varTypes Tryd.prog).any (Tryd.prog.mapsRec ·))) = true := by kernel_rfl
theorem chainMore_j14 : ((Rows.chainMoreRow.ifaces == (Tryd.f8.params.toList ++ Rows.chainMoreSpec.plain.varTypes Tryd.prog).any (Tryd.prog.ifacesRec ·))) = true := by kernel_rfl
theorem chainMore_j15 : ((Rows.chainMoreRow.mapsOut == Tryd.prog.mapsAmong Tryd.f8.resultTypes.toList)) = true := by kernel_rfl
theorem chainMore_j16 : ((Rows.chainMoreRow.loops == (Tryd.f8.params.toList ++ Rows.chainMoreSpec.plain.varTypes Tryd.prog).any (Tryd.prog.loopsFrom ·))) = true := by kernel_rfl
theorem chainMore_j17 : ((Rows.chainMoreRow.wideKeys == (Tryd.f8.params.toList ++ Rows.chainMoreSpec.plain.varTypes Tryd.prog ++ Tryd.f8.resultTypes.toList).any (Tryd.prog.wideKeysFrom ·))) = true := by kernel_rfl
theorem chainMore_j18 : (Rows.chainMoreSpec.vars.all (Tryd.prog.varReadable ·)) = true := by kernel_rfl
theorem chainMore_j19 : (Tryd.f8.resultTypes.all (fun t => Tryd.prog.readableRec t && decide (t < Tryd.prog.types.size))) = true := by kernel_rfl
theorem chainMore_j20 : ((Rows.chainMoreRow.ifacesOut == Tryd.f8.resultTypes.toList.any (Tryd.prog.ifacesRec ·))) = true := by kernel_rfl
theorem chainMore_j21 : ((Rows.chainMoreRow.loopsOut == Tryd.f8.resultTypes.toList.any (Tryd.prog.loopsFrom ·))) = true := by kernel_rfl
theorem chainMore_j22 : ((Rows.chainMoreRow.plainKeys == Tryd.prog.plainKeys)) = true := by kernel_rfl
theorem chainMore_j23 : (Rows.chainMoreRow.shortTexts.isNone) = true := by kernel_rfl
theorem chainMore_j24 : (Tryd.prog.stopsHeard) = true := by kernel_rfl
theorem chainMore_j25 : (Tryd.prog.mayEnter) = true := by kernel_rfl
theorem chainMore_j26 : ((Rows.chainMoreRow.lifted == Tryd.prog.liftsFinal)) = true := by kernel_rfl
theorem chainMore_j27 : ((Tryd.prog.make == some Rows.chainMoreRow.make)) = true := by kernel_rfl
theorem chainMore_j28 : ((Rows.chainMoreRow.kinds == (if Rows.chainMoreRow.domain.isEmpty then [] else Tryd.f8.params.toList.map fun t => match Tryd.prog.underlying t with | some (.int k) => some k | _ => none))) = true := by kernel_rfl
theorem chainMore_j29 : ((Rows.chainMoreRow.pinned == Rows.chainMoreRow.pinnedBy)) = true := by kernel_rfl
theorem chainMore_j30 : ((Rows.chainMoreRow.veiled == (Tryd.f8.params.toList ++ Rows.chainMoreSpec.plain.varTypes Tryd.prog ++ Tryd.f8.resultTypes.toList).any (Tryd.prog.veiledRec ·))) = true := by kernel_rfl
theorem chainMore_j31 : (Rows.chainMoreRow.veiledFits Tryd.prog Tryd.f8.params.toList (Tryd.f8.params.toList ++ Rows.chainMoreSpec.plain.varTypes Tryd.prog ++ Tryd.f8.resultTypes.toList)) = true := by kernel_rfl
theorem chainMore_facts : joinedFacts Tryd.pinned.checked.prog 8 Tryd.f8 (OpenSpec.ofChange Rows.chainMoreSpec).bare Rows.chainMoreRow = true := by
  have h : joinedFacts Tryd.prog 8 Tryd.f8 Rows.chainMoreSpec Rows.chainMoreRow = true := by
    simp only [joinedFacts, Bool.and_eq_true]
    exact ⟨⟨⟨⟨⟨⟨⟨⟨⟨⟨⟨⟨⟨⟨⟨⟨⟨⟨⟨⟨⟨⟨⟨⟨⟨⟨⟨⟨⟨⟨⟨chainMore_j0, chainMore_j1⟩, chainMore_j2⟩, chainMore_j3⟩, chainMore_j4⟩, chainMore_j5⟩, chainMore_j6⟩, chainMore_j7⟩, chainMore_j8⟩, chainMore_j9⟩, chainMore_j10⟩, chainMore_j11⟩, chainMore_j12⟩, chainMore_j13⟩, chainMore_j14⟩, chainMore_j15⟩, chainMore_j16⟩, chainMore_j17⟩, chainMore_j18⟩, chainMore_j19⟩, chainMore_j20⟩, chainMore_j21⟩, chainMore_j22⟩, chainMore_j23⟩, chainMore_j24⟩, chainMore_j25⟩, chainMore_j26⟩, chainMore_j27⟩, chainMore_j28⟩, chainMore_j29⟩, chainMore_j30⟩, chainMore_j31⟩
  exact h
end Go.Di

