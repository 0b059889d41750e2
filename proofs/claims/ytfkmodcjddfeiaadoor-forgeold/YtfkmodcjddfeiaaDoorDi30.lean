/- Part 30: an interpreter over plain data for this code, with the proof that it says what the model does, and the contracts of the functions. No condition. -/
import Derived.Test.YtfkmodcjddfeiaaDoorDi29
set_option linter.unusedVariables false
set_option linter.unusedSimpArgs false
set_option maxRecDepth 100000
namespace Go.Di
open Proofs
open Go.RowKit Go.ChangeShapes Go.WideShapes Go.Deep Go.ChangeAt Go.Proofs
open Go.Proofs.YtfkmodcjddfeiaaDoor
theorem forgeOld_j0 : (Rows.forgeOldRow.wf (OpenSpec.ofChange Rows.forgeOldSpec)) = true := by kernel_rfl
theorem forgeOld_j1 : (laidOutB Tryd.prog) = true := by kernel_rfl
theorem forgeOld_j2 : (mapsRowed Tryd.prog) = true := by kernel_rfl
theorem forgeOld_j3 : (Tryd.f25.params.all (Tryd.prog.readableRec ·)) = true := by kernel_rfl
theorem forgeOld_j4 : (namedTie Tryd.prog Rows.forgeOldRow.named Rows.forgeOldSpec.vars) = true := by kernel_rfl
theorem forgeOld_j5 : ((Rows.forgeOldRow.stops == [])) = true := by kernel_rfl
theorem forgeOld_j6 : ((Tryd.prog.stops == [])) = true := by kernel_rfl
theorem forgeOld_j7 : ((Rows.forgeOldRow.knobs == [])) = true := by kernel_rfl
theorem forgeOld_j8 : ((Tryd.prog.stopKnobs == [])) = true := by kernel_rfl
theorem forgeOld_j9 : ((Rows.forgeOldRow.inPlace == Tryd.prog.inPlace 25)) = true := by kernel_rfl
theorem forgeOld_j10 : ((Rows.forgeOldRow.unfollowed == Tryd.prog.unfollowed 25)) = true := by kernel_rfl
theorem forgeOld_j11 : ((Rows.forgeOldRow.recurses == Tryd.prog.recurses 25)) = true := by kernel_rfl
theorem forgeOld_j12 : ((Rows.forgeOldRow.named == Tryd.prog.varsNamed 25)) = true := by kernel_rfl
theorem forgeOld_j13 : ((Rows.forgeOldRow.maps == (Tryd.f25.params.toList ++ Rows.forgeOldSpec.plain.varTypes Tryd.prog).any (Tryd.prog.mapsRec ·))) = true := by kernel_rfl
theorem forgeOld_j14 : ((Rows.forgeOldRow.ifaces == (Tryd.f25.params.toList ++ Rows.forgeOldSpec.plain.varTypes Tryd.prog).any (Tryd.prog.ifacesRec ·))) = true := by kernel_rfl
theorem forgeOld_j15 : ((Rows.forgeOldRow.mapsOut == Tryd.prog.mapsAmong Tryd.f25.resultTypes.toList)) = true := by kernel_rfl
theorem forgeOld_j16 : ((Rows.forgeOldRow.loops == (Tryd.f25.params.toList ++ Rows.forgeOldSpec.plain.varTypes Tryd.prog).any (Tryd.prog.loopsFrom ·))) = true := by kernel_rfl
theorem forgeOld_j17 : ((Rows.forgeOldRow.wideKeys == (Tryd.f25.params.toList ++ Rows.forgeOldSpec.plain.varTypes Tryd.prog ++ Tryd.f25.resultTypes.toList).any (Tryd.prog.wideKeysFrom ·))) = true := by kernel_rfl
theorem forgeOld_j18 : (Rows.forgeOldSpec.vars.all (Tryd.prog.varReadable ·)) = true := by kernel_rfl
theorem forgeOld_j19 : (Tryd.f25.resultTypes.all (fun t => Tryd.prog.readableRec t && decide (t < Tryd.prog.types.size))) = true := by kernel_rfl
theorem forgeOld_j20 : ((Rows.forgeOldRow.ifacesOut == Tryd.f25.resultTypes.toList.any (Tryd.prog.ifacesRec ·))) = true := by kernel_rfl
theorem forgeOld_j21 : ((Rows.forgeOldRow.loopsOut == Tryd.f25.resultTypes.toList.any (Tryd.prog.loopsFrom ·))) = true := by kernel_rfl
theorem forgeOld_j22 : ((Rows.forgeOldRow.plainKeys == Tryd.prog.plainKeys)) = true := by kernel_rfl
theorem forgeOld_j23 : (Rows.forgeOldRow.shortTexts.isNone) = true := by kernel_rfl
theorem forgeOld_j24 : (Tryd.prog.stopsHeard) = true := by kernel_rfl
theorem forgeOld_j25 : (Tryd.prog.mayEnter) = true := by kernel_rfl
theorem forgeOld_j26 : ((Rows.forgeOldRow.lifted == Tryd.prog.liftsFinal)) = true := by kernel_rfl
theorem forgeOld_j27 : ((Tryd.prog.make == some Rows.forgeOldRow.make)) = true := by kernel_rfl
theorem forgeOld_j28 : ((Rows.forgeOldRow.kinds == (if Rows.forgeOldRow.domain.isEmpty then [] else Tryd.f25.params.toList.map fun t => match Tryd.prog.underlying t with | some (.int k) => some k | _ => none))) = true := by kernel_rfl
theorem forgeOld_j29 : ((Rows.forgeOldRow.pinned == Rows.forgeOldRow.pinnedBy)) = true := by kernel_rfl
theorem forgeOld_j30 : ((Rows.forgeOldRow.veiled == (Tryd.f25.params.toList ++ Rows.forgeOldSpec.plain.varTypes Tryd.prog ++ Tryd.f25.resultTypes.toList).any (Tryd.prog.veiledRec ·))) = true := by kernel_rfl
theorem forgeOld_j31 : (Rows.forgeOldRow.veiledFits Tryd.prog Tryd.f25.params.toList (Tryd.f25.params.toList ++ Rows.forgeOldSpec.plain.varTypes Tryd.prog ++ Tryd.f25.resultTypes.toList)) = true := by kernel_rfl
theorem forgeOld_facts : joinedFacts Tryd.pinned.checked.prog 25 Tryd.f25 (OpenSpec.ofChange Rows.forgeOldSpec).bare Rows.forgeOldRow = true := by
 have h : joinedFacts Tryd.prog 25 Tryd.f25 Rows.forgeOldSpec Rows.forgeOldRow = true := by
  simp only [joinedFacts,Bool.and_eq_true]
  exact ⟨⟨⟨⟨⟨⟨⟨⟨⟨⟨⟨⟨⟨⟨⟨⟨⟨⟨⟨⟨⟨⟨⟨⟨⟨⟨⟨⟨⟨⟨⟨forgeOld_j0,forgeOld_j1⟩,forgeOld_j2⟩,forgeOld_j3⟩,forgeOld_j4⟩,forgeOld_j5⟩,forgeOld_j6⟩,forgeOld_j7⟩,forgeOld_j8⟩,forgeOld_j9⟩,forgeOld_j10⟩,forgeOld_j11⟩,forgeOld_j12⟩,forgeOld_j13⟩,forgeOld_j14⟩,forgeOld_j15⟩,forgeOld_j16⟩,forgeOld_j17⟩,forgeOld_j18⟩,forgeOld_j19⟩,forgeOld_j20⟩,forgeOld_j21⟩,forgeOld_j22⟩,forgeOld_j23⟩,forgeOld_j24⟩,forgeOld_j25⟩,forgeOld_j26⟩,forgeOld_j27⟩,forgeOld_j28⟩,forgeOld_j29⟩,forgeOld_j30⟩,forgeOld_j31⟩
 exact h
end Go.Di

