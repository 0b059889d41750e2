/- Part 30: an interpreter over plain data for this code, with the proof that it says what the model does, and the contracts of the functions. No condition. -/
import Derived.Test.YtfkmodcjddfeiaaDoorDi29
set_option linter.unusedVariables false
set_option linter.unusedSimpArgs false
set_option maxRecDepth 100000
namespace Go.Di
open Go.RowKit Go.ChangeShapes Go.WideShapes Go.Deep Go.ChangeAt Go.Proofs
open Go.Proofs.YtfkmodcjddfeiaaDoor
theorem forgeStocked_j0 : (Rows.forgeStockedRow.wf (OpenSpec.ofChange Rows.forgeStockedSpec)) = true := by kernel_rfl
theorem forgeStocked_j1 : (laidOutB Tryd.prog) = true := by kernel_rfl
theorem forgeStocked_j2 : (mapsRowed Tryd.prog) = true := by kernel_rfl
theorem forgeStocked_j3 : (Tryd.f19.params.all (Tryd.prog.readableRec ·)) = true := by kernel_rfl
theorem forgeStocked_j4 : (namedTie Tryd.prog Rows.forgeStockedRow.named Rows.forgeStockedSpec.vars) = true := by kernel_rfl
theorem forgeStocked_j5 : ((Rows.forgeStockedRow.stops == [])) = true := by kernel_rfl
theorem forgeStocked_j6 : ((Tryd.prog.stops == [])) = true := by kernel_rfl
theorem forgeStocked_j7 : ((Rows.forgeStockedRow.knobs == [])) = true := by kernel_rfl
theorem forgeStocked_j8 : ((Tryd.prog.stopKnobs == [])) = true := by kernel_rfl
theorem forgeStocked_j9 : ((Rows.forgeStockedRow.inPlace == Tryd.prog.inPlace 19)) = true := by kernel_rfl
theorem forgeStocked_j10 : ((Rows.forgeStockedRow.unfollowed == Tryd.prog.unfollowed 19)) = true := by kernel_rfl
theorem forgeStocked_j11 : ((Rows.forgeStockedRow.recurses == Tryd.prog.recurses 19)) = true := by kernel_rfl
theorem forgeStocked_j12 : ((Rows.forgeStockedRow.named == Tryd.prog.varsNamed 19)) = true := by kernel_rfl
theorem forgeStocked_j13 : ((Rows.forgeStockedRow.maps == (Tryd.f19.params.toList ++ Rows.forgeStockedSpec.plain.varTypes Tryd.prog).any (Tryd.prog.mapsRec ·))) = true := by kernel_rfl
theorem forgeStocked_j14 : ((Rows.forgeStockedRow.ifaces == (Tryd.f19.params.toList ++ Rows.forgeStockedSpec.plain.varTypes Tryd.prog).any (Tryd.prog.ifacesRec ·))) = true := by kernel_rfl
theorem forgeStocked_j15 : ((Rows.forgeStockedRow.mapsOut == Tryd.prog.mapsAmong Tryd.f19.resultTypes.toList)) = true := by kernel_rfl
theorem forgeStocked_j16 : ((Rows.forgeStockedRow.loops == (Tryd.f19.params.toList ++ Rows.forgeStockedSpec.plain.varTypes Tryd.prog).any (Tryd.prog.loopsFrom ·))) = true := by kernel_rfl
theorem forgeStocked_j17 : ((Rows.forgeStockedRow.wideKeys == (Tryd.f19.params.toList ++ Rows.forgeStockedSpec.plain.varTypes Tryd.prog ++ Tryd.f19.resultTypes.toList).any (Tryd.prog.wideKeysFrom ·))) = true := by kernel_rfl
theorem forgeStocked_j18 : (Rows.forgeStockedSpec.vars.all (Tryd.prog.varReadable ·)) = true := by kernel_rfl
theorem forgeStocked_j19 : (Tryd.f19.resultTypes.all (fun t => Tryd.prog.readableRec t && decide (t < Tryd.prog.types.size))) = true := by kernel_rfl
theorem forgeStocked_j20 : ((Rows.forgeStockedRow.ifacesOut == Tryd.f19.resultTypes.toList.any (Tryd.prog.ifacesRec ·))) = true := by kernel_rfl
theorem forgeStocked_j21 : ((Rows.forgeStockedRow.loopsOut == Tryd.f19.resultTypes.toList.any (Tryd.prog.loopsFrom ·))) = true := by kernel_rfl
theorem forgeStocked_j22 : ((Rows.forgeStockedRow.plainKeys == Tryd.prog.plainKeys)) = true := by kernel_rfl
theorem forgeStocked_j23 : (Rows.forgeStockedRow.shortTexts.isNone) = true := by kernel_rfl
theorem forgeStocked_j24 : (Tryd.prog.stopsHeard) = true := by kernel_rfl
theorem forgeStocked_j25 : (Tryd.prog.mayEnter) = true := by kernel_rfl
theorem forgeStocked_j26 : ((Rows.forgeStockedRow.lifted == Tryd.prog.liftsFinal)) = true := by kernel_rfl
theorem forgeStocked_j27 : ((Tryd.prog.make == some Rows.forgeStockedRow.make)) = true := by kernel_rfl
theorem forgeStocked_j28 : ((Rows.forgeStockedRow.kinds == (if Rows.forgeStockedRow.domain.isEmpty then [] else Tryd.f19.params.toList.map fun t => match Tryd.prog.underlying t with | some (.int k) => some k | _ => none))) = true := by kernel_rfl
theorem forgeStocked_j29 : ((Rows.forgeStockedRow.pinned == Rows.forgeStockedRow.pinnedBy)) = true := by kernel_rfl
theorem forgeStocked_j30 : ((Rows.forgeStockedRow.veiled == (Tryd.f19.params.toList ++ Rows.forgeStockedSpec.plain.varTypes Tryd.prog ++ Tryd.f19.resultTypes.toList).any (Tryd.prog.veiledRec ·))) = true := by kernel_rfl
theorem forgeStocked_j31 : (Rows.forgeStockedRow.veiledFits Tryd.prog Tryd.f19.params.toList (Tryd.f19.params.toList ++ Rows.forgeStockedSpec.plain.varTypes Tryd.prog ++ Tryd.f19.resultTypes.toList)) = true := by kernel_rfl
theorem forgeStocked_facts : joinedFacts Tryd.pinned.checked.prog 19 Tryd.f19 (OpenSpec.ofChange Rows.forgeStockedSpec).bare Rows.forgeStockedRow = true := by
 have h : joinedFacts Tryd.prog 19 Tryd.f19 Rows.forgeStockedSpec Rows.forgeStockedRow = true := by
  simp only [joinedFacts,Bool.and_eq_true]
  exact ⟨⟨⟨⟨⟨⟨⟨⟨⟨⟨⟨⟨⟨⟨⟨⟨⟨⟨⟨⟨⟨⟨⟨⟨⟨⟨⟨⟨⟨⟨⟨forgeStocked_j0,forgeStocked_j1⟩,forgeStocked_j2⟩,forgeStocked_j3⟩,forgeStocked_j4⟩,forgeStocked_j5⟩,forgeStocked_j6⟩,forgeStocked_j7⟩,forgeStocked_j8⟩,forgeStocked_j9⟩,forgeStocked_j10⟩,forgeStocked_j11⟩,forgeStocked_j12⟩,forgeStocked_j13⟩,forgeStocked_j14⟩,forgeStocked_j15⟩,forgeStocked_j16⟩,forgeStocked_j17⟩,forgeStocked_j18⟩,forgeStocked_j19⟩,forgeStocked_j20⟩,forgeStocked_j21⟩,forgeStocked_j22⟩,forgeStocked_j23⟩,forgeStocked_j24⟩,forgeStocked_j25⟩,forgeStocked_j26⟩,forgeStocked_j27⟩,forgeStocked_j28⟩,forgeStocked_j29⟩,forgeStocked_j30⟩,forgeStocked_j31⟩
 exact h
end Go.Di

