/- Part 31: an interpreter over plain data for this code, with the proof that it says what the model does, and the contracts of the functions. No condition. -/
import Derived.Test.YtfkmodcjddfeiaaDoorDi30
set_option linter.unusedVariables false
set_option linter.unusedSimpArgs false
set_option maxRecDepth 100000
namespace Go.Di
open Proofs
open Go.RowKit Go.ChangeShapes Go.WideShapes Go.Deep Go.ChangeAt Go.Proofs
open Go.Proofs.YtfkmodcjddfeiaaDoor
theorem forgeRest_j0 : (Rows.forgeRestRow.wf (OpenSpec.ofChange Rows.forgeRestSpec)) = true := by kernel_rfl
theorem forgeRest_j1 : (laidOutB Tryd.prog) = true := by kernel_rfl
theorem forgeRest_j2 : (mapsRowed Tryd.prog) = true := by kernel_rfl
theorem forgeRest_j3 : (Tryd.f22.params.all (Tryd.prog.readableRec ·)) = true := by kernel_rfl
theorem forgeRest_j4 : (namedTie Tryd.prog Rows.forgeRestRow.named Rows.forgeRestSpec.vars) = true := by kernel_rfl
theorem forgeRest_j5 : ((Rows.forgeRestRow.stops == [])) = true := by kernel_rfl
theorem forgeRest_j6 : ((Tryd.prog.stops == [])) = true := by kernel_rfl
theorem forgeRest_j7 : ((Rows.forgeRestRow.knobs == [])) = true := by kernel_rfl
theorem forgeRest_j8 : ((Tryd.prog.stopKnobs == [])) = true := by kernel_rfl
theorem forgeRest_j9 : ((Rows.forgeRestRow.inPlace == Tryd.prog.inPlace 22)) = true := by kernel_rfl
theorem forgeRest_j10 : ((Rows.forgeRestRow.unfollowed == Tryd.prog.unfollowed 22)) = true := by kernel_rfl
theorem forgeRest_j11 : ((Rows.forgeRestRow.recurses == Tryd.prog.recurses 22)) = true := by kernel_rfl
theorem forgeRest_j12 : ((Rows.forgeRestRow.named == Tryd.prog.varsNamed 22)) = true := by kernel_rfl
theorem forgeRest_j13 : ((Rows.forgeRestRow.maps == (Tryd.f22.params.toList ++ Rows.forgeRestSpec.plain.varTypes Tryd.prog).any (Tryd.prog.mapsRec ·))) = true := by kernel_rfl
theorem forgeRest_j14 : ((Rows.forgeRestRow.ifaces == (Tryd.f22.params.toList ++ Rows.forgeRestSpec.plain.varTypes Tryd.prog).any (Tryd.prog.ifacesRec ·))) = true := by kernel_rfl
theorem forgeRest_j15 : ((Rows.forgeRestRow.mapsOut == Tryd.prog.mapsAmong Tryd.f22.resultTypes.toList)) = true := by kernel_rfl
theorem forgeRest_j16 : ((Rows.forgeRestRow.loops == (Tryd.f22.params.toList ++ Rows.forgeRestSpec.plain.varTypes Tryd.prog).any (Tryd.prog.loopsFrom ·))) = true := by kernel_rfl
theorem forgeRest_j17 : ((Rows.forgeRestRow.wideKeys == (Tryd.f22.params.toList ++ Rows.forgeRestSpec.plain.varTypes Tryd.prog ++ Tryd.f22.resultTypes.toList).any (Tryd.prog.wideKeysFrom ·))) = true := by kernel_rfl
theorem forgeRest_j18 : (Rows.forgeRestSpec.vars.all (Tryd.prog.varReadable ·)) = true := by kernel_rfl
theorem forgeRest_j19 : (Tryd.f22.resultTypes.all (fun t => Tryd.prog.readableRec t && decide (t < Tryd.prog.types.size))) = true := by kernel_rfl
theorem forgeRest_j20 : ((Rows.forgeRestRow.ifacesOut == Tryd.f22.resultTypes.toList.any (Tryd.prog.ifacesRec ·))) = true := by kernel_rfl
theorem forgeRest_j21 : ((Rows.forgeRestRow.loopsOut == Tryd.f22.resultTypes.toList.any (Tryd.prog.loopsFrom ·))) = true := by kernel_rfl
theorem forgeRest_j22 : ((Rows.forgeRestRow.plainKeys == Tryd.prog.plainKeys)) = true := by kernel_rfl
theorem forgeRest_j23 : (Rows.forgeRestRow.shortTexts.isNone) = true := by kernel_rfl
theorem forgeRest_j24 : (Tryd.prog.stopsHeard) = true := by kernel_rfl
theorem forgeRest_j25 : (Tryd.prog.mayEnter) = true := by kernel_rfl
theorem forgeRest_j26 : ((Rows.forgeRestRow.lifted == Tryd.prog.liftsFinal)) = true := by kernel_rfl
theorem forgeRest_j27 : ((Tryd.prog.make == some Rows.forgeRestRow.make)) = true := by kernel_rfl
theorem forgeRest_j28 : ((Rows.forgeRestRow.kinds == (if Rows.forgeRestRow.domain.isEmpty then [] else Tryd.f22.params.toList.map fun t => match Tryd.prog.underlying t with | some (.int k) => some k | _ => none))) = true := by kernel_rfl
theorem forgeRest_j29 : ((Rows.forgeRestRow.pinned == Rows.forgeRestRow.pinnedBy)) = true := by kernel_rfl
theorem forgeRest_j30 : ((Rows.forgeRestRow.veiled == (Tryd.f22.params.toList ++ Rows.forgeRestSpec.plain.varTypes Tryd.prog ++ Tryd.f22.resultTypes.toList).any (Tryd.prog.veiledRec ·))) = true := by kernel_rfl
theorem forgeRest_j31 : (Rows.forgeRestRow.veiledFits Tryd.prog Tryd.f22.params.toList (Tryd.f22.params.toList ++ Rows.forgeRestSpec.plain.varTypes Tryd.prog ++ Tryd.f22.resultTypes.toList)) = true := by kernel_rfl
theorem forgeRest_facts : joinedFacts Tryd.pinned.checked.prog 22 Tryd.f22 (OpenSpec.ofChange Rows.forgeRestSpec).bare Rows.forgeRestRow = true := by
 have h : joinedFacts Tryd.prog 22 Tryd.f22 Rows.forgeRestSpec Rows.forgeRestRow = true := by
  simp only [joinedFacts,Bool.and_eq_true]
  exact ⟨⟨⟨⟨⟨⟨⟨⟨⟨⟨⟨⟨⟨⟨⟨⟨⟨⟨⟨⟨⟨⟨⟨⟨⟨⟨⟨⟨⟨⟨⟨forgeRest_j0,forgeRest_j1⟩,forgeRest_j2⟩,forgeRest_j3⟩,forgeRest_j4⟩,forgeRest_j5⟩,forgeRest_j6⟩,forgeRest_j7⟩,forgeRest_j8⟩,forgeRest_j9⟩,forgeRest_j10⟩,forgeRest_j11⟩,forgeRest_j12⟩,forgeRest_j13⟩,forgeRest_j14⟩,forgeRest_j15⟩,forgeRest_j16⟩,forgeRest_j17⟩,forgeRest_j18⟩,forgeRest_j19⟩,forgeRest_j20⟩,forgeRest_j21⟩,forgeRest_j22⟩,forgeRest_j23⟩,forgeRest_j24⟩,forgeRest_j25⟩,forgeRest_j26⟩,forgeRest_j27⟩,forgeRest_j28⟩,forgeRest_j29⟩,forgeRest_j30⟩,forgeRest_j31⟩
 exact h
end Go.Di

