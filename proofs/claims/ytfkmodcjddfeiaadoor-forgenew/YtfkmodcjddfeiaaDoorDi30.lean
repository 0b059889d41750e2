/- Part 30: an interpreter over plain data for this code, with the proof that it says what the model does, and the contracts of the functions. No condition. -/
import Derived.Test.YtfkmodcjddfeiaaDoorDi29
set_option linter.unusedVariables false
set_option linter.unusedSimpArgs false
set_option maxRecDepth 100000
namespace Go.Di
open Go.RowKit Go.ChangeShapes Go.WideShapes Go.Deep Go.ChangeAt Go.Proofs
open Go.Proofs.YtfkmodcjddfeiaaDoor
theorem forgeNew_j0 : (Rows.forgeNewRow.wf (OpenSpec.ofChange Rows.forgeNewSpec)) = true := by kernel_rfl
theorem forgeNew_j1 : (laidOutB Tryd.prog) = true := by kernel_rfl
theorem forgeNew_j2 : (mapsRowed Tryd.prog) = true := by kernel_rfl
theorem forgeNew_j3 : (Tryd.f17.params.all (Tryd.prog.readableRec ·)) = true := by kernel_rfl
theorem forgeNew_j4 : (namedTie Tryd.prog Rows.forgeNewRow.named Rows.forgeNewSpec.vars) = true := by kernel_rfl
theorem forgeNew_j5 : ((Rows.forgeNewRow.stops == [])) = true := by kernel_rfl
theorem forgeNew_j6 : ((Tryd.prog.stops == [])) = true := by kernel_rfl
theorem forgeNew_j7 : ((Rows.forgeNewRow.knobs == [])) = true := by kernel_rfl
theorem forgeNew_j8 : ((Tryd.prog.stopKnobs == [])) = true := by kernel_rfl
theorem forgeNew_j9 : ((Rows.forgeNewRow.inPlace == Tryd.prog.inPlace 17)) = true := by kernel_rfl
theorem forgeNew_j10 : ((Rows.forgeNewRow.unfollowed == Tryd.prog.unfollowed 17)) = true := by kernel_rfl
theorem forgeNew_j11 : ((Rows.forgeNewRow.recurses == Tryd.prog.recurses 17)) = true := by kernel_rfl
theorem forgeNew_j12 : ((Rows.forgeNewRow.named == Tryd.prog.varsNamed 17)) = true := by kernel_rfl
theorem forgeNew_j13 : ((Rows.forgeNewRow.maps == (Tryd.f17.params.toList ++ Rows.forgeNewSpec.plain.varTypes Tryd.prog).any (Tryd.prog.mapsRec ·))) = true := by kernel_rfl
theorem forgeNew_j14 : ((Rows.forgeNewRow.ifaces == (Tryd.f17.params.toList ++ Rows.forgeNewSpec.plain.varTypes Tryd.prog).any (Tryd.prog.ifacesRec ·))) = true := by kernel_rfl
theorem forgeNew_j15 : ((Rows.forgeNewRow.mapsOut == Tryd.prog.mapsAmong Tryd.f17.resultTypes.toList)) = true := by kernel_rfl
theorem forgeNew_j16 : ((Rows.forgeNewRow.loops == (Tryd.f17.params.toList ++ Rows.forgeNewSpec.plain.varTypes Tryd.prog).any (Tryd.prog.loopsFrom ·))) = true := by kernel_rfl
theorem forgeNew_j17 : ((Rows.forgeNewRow.wideKeys == (Tryd.f17.params.toList ++ Rows.forgeNewSpec.plain.varTypes Tryd.prog ++ Tryd.f17.resultTypes.toList).any (Tryd.prog.wideKeysFrom ·))) = true := by kernel_rfl
theorem forgeNew_j18 : (Rows.forgeNewSpec.vars.all (Tryd.prog.varReadable ·)) = true := by kernel_rfl
theorem forgeNew_j19 : (Tryd.f17.resultTypes.all (fun t => Tryd.prog.readableRec t && decide (t < Tryd.prog.types.size))) = true := by kernel_rfl
theorem forgeNew_j20 : ((Rows.forgeNewRow.ifacesOut == Tryd.f17.resultTypes.toList.any (Tryd.prog.ifacesRec ·))) = true := by kernel_rfl
theorem forgeNew_j21 : ((Rows.forgeNewRow.loopsOut == Tryd.f17.resultTypes.toList.any (Tryd.prog.loopsFrom ·))) = true := by kernel_rfl
theorem forgeNew_j22 : ((Rows.forgeNewRow.plainKeys == Tryd.prog.plainKeys)) = true := by kernel_rfl
theorem forgeNew_j23 : (Rows.forgeNewRow.shortTexts.isNone) = true := by kernel_rfl
theorem forgeNew_j24 : (Tryd.prog.stopsHeard) = true := by kernel_rfl
theorem forgeNew_j25 : (Tryd.prog.mayEnter) = true := by kernel_rfl
theorem forgeNew_j26 : ((Rows.forgeNewRow.lifted == Tryd.prog.liftsFinal)) = true := by kernel_rfl
theorem forgeNew_j27 : ((Tryd.prog.make == some Rows.forgeNewRow.make)) = true := by kernel_rfl
theorem forgeNew_j28 : ((Rows.forgeNewRow.kinds == (if Rows.forgeNewRow.domain.isEmpty then [] else Tryd.f17.params.toList.map fun t => match Tryd.prog.underlying t with | some (.int k) => some k | _ => none))) = true := by kernel_rfl
theorem forgeNew_j29 : ((Rows.forgeNewRow.pinned == Rows.forgeNewRow.pinnedBy)) = true := by kernel_rfl
theorem forgeNew_j30 : ((Rows.forgeNewRow.veiled == (Tryd.f17.params.toList ++ Rows.forgeNewSpec.plain.varTypes Tryd.prog ++ Tryd.f17.resultTypes.toList).any (Tryd.prog.veiledRec ·))) = true := by kernel_rfl
theorem forgeNew_j31 : (Rows.forgeNewRow.veiledFits Tryd.prog Tryd.f17.params.toList (Tryd.f17.params.toList ++ Rows.forgeNewSpec.plain.varTypes Tryd.prog ++ Tryd.f17.resultTypes.toList)) = true := by kernel_rfl
theorem forgeNew_facts : joinedFacts Tryd.pinned.checked.prog 17 Tryd.f17 (OpenSpec.ofChange Rows.forgeNewSpec).bare Rows.forgeNewRow = true := by
 have h : joinedFacts Tryd.prog 17 Tryd.f17 Rows.forgeNewSpec Rows.forgeNewRow = true := by
  simp only [joinedFacts,Bool.and_eq_true]
  exact ⟨⟨⟨⟨⟨⟨⟨⟨⟨⟨⟨⟨⟨⟨⟨⟨⟨⟨⟨⟨⟨⟨⟨⟨⟨⟨⟨⟨⟨⟨⟨forgeNew_j0,forgeNew_j1⟩,forgeNew_j2⟩,forgeNew_j3⟩,forgeNew_j4⟩,forgeNew_j5⟩,forgeNew_j6⟩,forgeNew_j7⟩,forgeNew_j8⟩,forgeNew_j9⟩,forgeNew_j10⟩,forgeNew_j11⟩,forgeNew_j12⟩,forgeNew_j13⟩,forgeNew_j14⟩,forgeNew_j15⟩,forgeNew_j16⟩,forgeNew_j17⟩,forgeNew_j18⟩,forgeNew_j19⟩,forgeNew_j20⟩,forgeNew_j21⟩,forgeNew_j22⟩,forgeNew_j23⟩,forgeNew_j24⟩,forgeNew_j25⟩,forgeNew_j26⟩,forgeNew_j27⟩,forgeNew_j28⟩,forgeNew_j29⟩,forgeNew_j30⟩,forgeNew_j31⟩
 exact h
end Go.Di

