/- Part 30: an interpreter over plain data for this code, with the proof that it says what the model does, and the contracts of the functions. No condition. -/
import Derived.Test.YtfkmodcjddfeiaaDoorDi29
set_option linter.unusedVariables false
set_option linter.unusedSimpArgs false
set_option maxRecDepth 100000
namespace Go.Di
open Proofs
open Go.RowKit Go.ChangeShapes Go.WideShapes Go.Deep Go.ChangeAt Go.Proofs
open Go.Proofs.YtfkmodcjddfeiaaDoor
theorem forgeMore_j0 : (Rows.forgeMoreRow.wf (OpenSpec.ofChange Rows.forgeMoreSpec)) = true := by kernel_rfl
theorem forgeMore_j1 : (laidOutB Tryd.prog) = true := by kernel_rfl
theorem forgeMore_j2 : (mapsRowed Tryd.prog) = true := by kernel_rfl
theorem forgeMore_j3 : (Tryd.f24.params.all (Tryd.prog.readableRec ·)) = true := by kernel_rfl
theorem forgeMore_j4 : (namedTie Tryd.prog Rows.forgeMoreRow.named Rows.forgeMoreSpec.vars) = true := by kernel_rfl
theorem forgeMore_j5 : ((Rows.forgeMoreRow.stops == [])) = true := by kernel_rfl
theorem forgeMore_j6 : ((Tryd.prog.stops == [])) = true := by kernel_rfl
theorem forgeMore_j7 : ((Rows.forgeMoreRow.knobs == [])) = true := by kernel_rfl
theorem forgeMore_j8 : ((Tryd.prog.stopKnobs == [])) = true := by kernel_rfl
theorem forgeMore_j9 : ((Rows.forgeMoreRow.inPlace == Tryd.prog.inPlace 24)) = true := by kernel_rfl
theorem forgeMore_j10 : ((Rows.forgeMoreRow.unfollowed == Tryd.prog.unfollowed 24)) = true := by kernel_rfl
theorem forgeMore_j11 : ((Rows.forgeMoreRow.recurses == Tryd.prog.recurses 24)) = true := by kernel_rfl
theorem forgeMore_j12 : ((Rows.forgeMoreRow.named == Tryd.prog.varsNamed 24)) = true := by kernel_rfl
theorem forgeMore_j13 : ((Rows.forgeMoreRow.maps == (Tryd.f24.params.toList ++ Rows.forgeMoreSpec.plain.varTypes Tryd.prog).any (Tryd.prog.mapsRec ·))) = true := by kernel_rfl
theorem forgeMore_j14 : ((Rows.forgeMoreRow.ifaces == (Tryd.f24.params.toList ++ Rows.forgeMoreSpec.plain.varTypes Tryd.prog).any (Tryd.prog.ifacesRec ·))) = true := by kernel_rfl
theorem forgeMore_j15 : ((Rows.forgeMoreRow.mapsOut == Tryd.prog.mapsAmong Tryd.f24.resultTypes.toList)) = true := by kernel_rfl
theorem forgeMore_j16 : ((Rows.forgeMoreRow.loops == (Tryd.f24.params.toList ++ Rows.forgeMoreSpec.plain.varTypes Tryd.prog).any (Tryd.prog.loopsFrom ·))) = true := by kernel_rfl
theorem forgeMore_j17 : ((Rows.forgeMoreRow.wideKeys == (Tryd.f24.params.toList ++ Rows.forgeMoreSpec.plain.varTypes Tryd.prog ++ Tryd.f24.resultTypes.toList).any (Tryd.prog.wideKeysFrom ·))) = true := by kernel_rfl
theorem forgeMore_j18 : (Rows.forgeMoreSpec.vars.all (Tryd.prog.varReadable ·)) = true := by kernel_rfl
theorem forgeMore_j19 : (Tryd.f24.resultTypes.all (fun t => Tryd.prog.readableRec t && decide (t < Tryd.prog.types.size))) = true := by kernel_rfl
theorem forgeMore_j20 : ((Rows.forgeMoreRow.ifacesOut == Tryd.f24.resultTypes.toList.any (Tryd.prog.ifacesRec ·))) = true := by kernel_rfl
theorem forgeMore_j21 : ((Rows.forgeMoreRow.loopsOut == Tryd.f24.resultTypes.toList.any (Tryd.prog.loopsFrom ·))) = true := by kernel_rfl
theorem forgeMore_j22 : ((Rows.forgeMoreRow.plainKeys == Tryd.prog.plainKeys)) = true := by kernel_rfl
theorem forgeMore_j23 : (Rows.forgeMoreRow.shortTexts.isNone) = true := by kernel_rfl
theorem forgeMore_j24 : (Tryd.prog.stopsHeard) = true := by kernel_rfl
theorem forgeMore_j25 : (Tryd.prog.mayEnter) = true := by kernel_rfl
theorem forgeMore_j26 : ((Rows.forgeMoreRow.lifted == Tryd.prog.liftsFinal)) = true := by kernel_rfl
theorem forgeMore_j27 : ((Tryd.prog.make == some Rows.forgeMoreRow.make)) = true := by kernel_rfl
theorem forgeMore_j28 : ((Rows.forgeMoreRow.kinds == (if Rows.forgeMoreRow.domain.isEmpty then [] else Tryd.f24.params.toList.map fun t => match Tryd.prog.underlying t with | some (.int k) => some k | _ => none))) = true := by kernel_rfl
theorem forgeMore_j29 : ((Rows.forgeMoreRow.pinned == Rows.forgeMoreRow.pinnedBy)) = true := by kernel_rfl
theorem forgeMore_j30 : ((Rows.forgeMoreRow.veiled == (Tryd.f24.params.toList ++ Rows.forgeMoreSpec.plain.varTypes Tryd.prog ++ Tryd.f24.resultTypes.toList).any (Tryd.prog.veiledRec ·))) = true := by kernel_rfl
theorem forgeMore_j31 : (Rows.forgeMoreRow.veiledFits Tryd.prog Tryd.f24.params.toList (Tryd.f24.params.toList ++ Rows.forgeMoreSpec.plain.varTypes Tryd.prog ++ Tryd.f24.resultTypes.toList)) = true := by kernel_rfl
theorem forgeMore_facts : joinedFacts Tryd.pinned.checked.prog 24 Tryd.f24 (OpenSpec.ofChange Rows.forgeMoreSpec).bare Rows.forgeMoreRow = true := by
 have h : joinedFacts Tryd.prog 24 Tryd.f24 Rows.forgeMoreSpec Rows.forgeMoreRow = true := by
  simp only [joinedFacts,Bool.and_eq_true]
  exact ⟨⟨⟨⟨⟨⟨⟨⟨⟨⟨⟨⟨⟨⟨⟨⟨⟨⟨⟨⟨⟨⟨⟨⟨⟨⟨⟨⟨⟨⟨⟨forgeMore_j0,forgeMore_j1⟩,forgeMore_j2⟩,forgeMore_j3⟩,forgeMore_j4⟩,forgeMore_j5⟩,forgeMore_j6⟩,forgeMore_j7⟩,forgeMore_j8⟩,forgeMore_j9⟩,forgeMore_j10⟩,forgeMore_j11⟩,forgeMore_j12⟩,forgeMore_j13⟩,forgeMore_j14⟩,forgeMore_j15⟩,forgeMore_j16⟩,forgeMore_j17⟩,forgeMore_j18⟩,forgeMore_j19⟩,forgeMore_j20⟩,forgeMore_j21⟩,forgeMore_j22⟩,forgeMore_j23⟩,forgeMore_j24⟩,forgeMore_j25⟩,forgeMore_j26⟩,forgeMore_j27⟩,forgeMore_j28⟩,forgeMore_j29⟩,forgeMore_j30⟩,forgeMore_j31⟩
 exact h
end Go.Di

