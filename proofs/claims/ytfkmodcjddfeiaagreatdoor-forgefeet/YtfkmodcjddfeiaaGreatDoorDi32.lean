/- Part 32: an interpreter over plain data for this code, with the proof that it says what the model does, and the contracts of the functions. No condition. -/
import Derived.Test.YtfkmodcjddfeiaaGreatDoorDi31
set_option linter.unusedVariables false
set_option linter.unusedSimpArgs false
set_option maxRecDepth 100000
namespace Go.Di
open Proofs
open Go.RowKit Go.ChangeShapes Go.WideShapes Go.Deep Go.ChangeAt Go.Proofs
open Go.Proofs.YtfkmodcjddfeiaaGreatDoor
theorem forgeFeet_j0 : (Rows.forgeFeetRow.wf (OpenSpec.ofChange Rows.forgeFeetSpec)) = true := by kernel_rfl
theorem forgeFeet_j1 : (laidOutB Tryz.prog) = true := by kernel_rfl
theorem forgeFeet_j2 : (mapsRowed Tryz.prog) = true := by kernel_rfl
theorem forgeFeet_j3 : (Tryz.f4.params.all (Tryz.prog.readableRec ·)) = true := by kernel_rfl
theorem forgeFeet_j4 : (namedTie Tryz.prog Rows.forgeFeetRow.named Rows.forgeFeetSpec.vars) = true := by kernel_rfl
theorem forgeFeet_j5 : ((Rows.forgeFeetRow.stops == [])) = true := by kernel_rfl
theorem forgeFeet_j6 : ((Tryz.prog.stops == [])) = true := by kernel_rfl
theorem forgeFeet_j7 : ((Rows.forgeFeetRow.knobs == [])) = true := by kernel_rfl
theorem forgeFeet_j8 : ((Tryz.prog.stopKnobs == [])) = true := by kernel_rfl
theorem forgeFeet_j9 : ((Rows.forgeFeetRow.inPlace == Tryz.prog.inPlace 4)) = true := by kernel_rfl
theorem forgeFeet_j10 : ((Rows.forgeFeetRow.unfollowed == Tryz.prog.unfollowed 4)) = true := by kernel_rfl
theorem forgeFeet_j11 : ((Rows.forgeFeetRow.recurses == Tryz.prog.recurses 4)) = true := by kernel_rfl
theorem forgeFeet_j12 : ((Rows.forgeFeetRow.named == Tryz.prog.varsNamed 4)) = true := by kernel_rfl
theorem forgeFeet_j13 : ((Rows.forgeFeetRow.maps == (Tryz.f4.params.toList ++ Rows.forgeFeetSpec.plain.varTypes Tryz.prog).any (Tryz.prog.mapsRec ·))) = true := by kernel_rfl
theorem forgeFeet_j14 : ((Rows.forgeFeetRow.ifaces == (Tryz.f4.params.toList ++ Rows.forgeFeetSpec.plain.varTypes Tryz.prog).any (Tryz.prog.ifacesRec ·))) = true := by kernel_rfl
theorem forgeFeet_j15 : ((Rows.forgeFeetRow.mapsOut == Tryz.prog.mapsAmong Tryz.f4.resultTypes.toList)) = true := by kernel_rfl
theorem forgeFeet_j16 : ((Rows.forgeFeetRow.loops == (Tryz.f4.params.toList ++ Rows.forgeFeetSpec.plain.varTypes Tryz.prog).any (Tryz.prog.loopsFrom ·))) = true := by kernel_rfl
theorem forgeFeet_j17 : ((Rows.forgeFeetRow.wideKeys == (Tryz.f4.params.toList ++ Rows.forgeFeetSpec.plain.varTypes Tryz.prog ++ Tryz.f4.resultTypes.toList).any (Tryz.prog.wideKeysFrom ·))) = true := by kernel_rfl
theorem forgeFeet_j18 : (Rows.forgeFeetSpec.vars.all (Tryz.prog.varReadable ·)) = true := by kernel_rfl
theorem forgeFeet_j19 : (Tryz.f4.resultTypes.all (fun t => Tryz.prog.readableRec t && decide (t < Tryz.prog.types.size))) = true := by kernel_rfl
theorem forgeFeet_j20 : ((Rows.forgeFeetRow.ifacesOut == Tryz.f4.resultTypes.toList.any (Tryz.prog.ifacesRec ·))) = true := by kernel_rfl
theorem forgeFeet_j21 : ((Rows.forgeFeetRow.loopsOut == Tryz.f4.resultTypes.toList.any (Tryz.prog.loopsFrom ·))) = true := by kernel_rfl
theorem forgeFeet_j22 : ((Rows.forgeFeetRow.plainKeys == Tryz.prog.plainKeys)) = true := by kernel_rfl
theorem forgeFeet_j23 : (Rows.forgeFeetRow.shortTexts.isNone) = true := by kernel_rfl
theorem forgeFeet_j24 : (Tryz.prog.stopsHeard) = true := by kernel_rfl
theorem forgeFeet_j25 : (Tryz.prog.mayEnter) = true := by kernel_rfl
theorem forgeFeet_j26 : ((Rows.forgeFeetRow.lifted == Tryz.prog.liftsFinal)) = true := by kernel_rfl
theorem forgeFeet_j27 : ((Tryz.prog.make == some Rows.forgeFeetRow.make)) = true := by kernel_rfl
theorem forgeFeet_j28 : ((Rows.forgeFeetRow.kinds == (if Rows.forgeFeetRow.domain.isEmpty then [] else Tryz.f4.params.toList.map fun t => match Tryz.prog.underlying t with | some (.int k) => some k | _ => none))) = true := by kernel_rfl
theorem forgeFeet_j29 : ((Rows.forgeFeetRow.pinned == Rows.forgeFeetRow.pinnedBy)) = true := by kernel_rfl
theorem forgeFeet_j30 : ((Rows.forgeFeetRow.veiled == (Tryz.f4.params.toList ++ Rows.forgeFeetSpec.plain.varTypes Tryz.prog ++ Tryz.f4.resultTypes.toList).any (Tryz.prog.veiledRec ·))) = true := by kernel_rfl
theorem forgeFeet_j31 : (Rows.forgeFeetRow.veiledFits Tryz.prog Tryz.f4.params.toList (Tryz.f4.params.toList ++ Rows.forgeFeetSpec.plain.varTypes Tryz.prog ++ Tryz.f4.resultTypes.toList)) = true := by kernel_rfl
theorem forgeFeet_facts : joinedFacts Tryz.pinned.checked.prog 4 Tryz.f4 (OpenSpec.ofChange Rows.forgeFeetSpec).bare Rows.forgeFeetRow = true := by
 have h : joinedFacts Tryz.prog 4 Tryz.f4 Rows.forgeFeetSpec Rows.forgeFeetRow = true := by
  simp only [joinedFacts,Bool.and_eq_true]
  exact ⟨⟨⟨⟨⟨⟨⟨⟨⟨⟨⟨⟨⟨⟨⟨⟨⟨⟨⟨⟨⟨⟨⟨⟨⟨⟨⟨⟨⟨⟨⟨forgeFeet_j0,forgeFeet_j1⟩,forgeFeet_j2⟩,forgeFeet_j3⟩,forgeFeet_j4⟩,forgeFeet_j5⟩,forgeFeet_j6⟩,forgeFeet_j7⟩,forgeFeet_j8⟩,forgeFeet_j9⟩,forgeFeet_j10⟩,forgeFeet_j11⟩,forgeFeet_j12⟩,forgeFeet_j13⟩,forgeFeet_j14⟩,forgeFeet_j15⟩,forgeFeet_j16⟩,forgeFeet_j17⟩,forgeFeet_j18⟩,forgeFeet_j19⟩,forgeFeet_j20⟩,forgeFeet_j21⟩,forgeFeet_j22⟩,forgeFeet_j23⟩,forgeFeet_j24⟩,forgeFeet_j25⟩,forgeFeet_j26⟩,forgeFeet_j27⟩,forgeFeet_j28⟩,forgeFeet_j29⟩,forgeFeet_j30⟩,forgeFeet_j31⟩
 exact h
end Go.Di

