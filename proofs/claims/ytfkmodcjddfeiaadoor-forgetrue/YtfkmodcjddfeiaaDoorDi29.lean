/- Part 29: contracts are proved. No condition. -/
import Derived.Test.YtfkmodcjddfeiaaDoorDi28
set_option linter.unusedVariables false
set_option linter.unusedSimpArgs false
set_option maxRecDepth 100000
namespace Go.Di
open Proofs
open Go.RowKit Go.ChangeShapes Go.WideShapes Go.Deep Go.ChangeAt Go.Proofs
open Go.Proofs.YtfkmodcjddfeiaaDoor
theorem forgeTrue_j0 : (Rows.forgeTrueRow.wf (OpenSpec.ofChange Rows.forgeTrueSpec)) = true := by kernel_rfl
theorem forgeTrue_j1 : (laidOutB Tryd.prog) = true := by kernel_rfl
theorem forgeTrue_j2 : (mapsRowed Tryd.prog) = true := by kernel_rfl
theorem forgeTrue_j3 : (Tryd.f16.params.all (Tryd.prog.readableRec ·)) = true := by kernel_rfl
theorem forgeTrue_j4 : (namedTie Tryd.prog Rows.forgeTrueRow.named Rows.forgeTrueSpec.vars) = true := by kernel_rfl
theorem forgeTrue_j5 : ((Rows.forgeTrueRow.stops == [])) = true := by kernel_rfl
theorem forgeTrue_j6 : ((Tryd.prog.stops == [])) = true := by kernel_rfl
theorem forgeTrue_j7 : ((Rows.forgeTrueRow.knobs == [])) = true := by kernel_rfl
theorem forgeTrue_j8 : ((Tryd.prog.stopKnobs == [])) = true := by kernel_rfl
theorem forgeTrue_j9 : ((Rows.forgeTrueRow.inPlace == Tryd.prog.inPlace 16)) = true := by kernel_rfl
theorem forgeTrue_j10 : ((Rows.forgeTrueRow.unfollowed == Tryd.prog.unfollowed 16)) = true := by kernel_rfl
theorem forgeTrue_j11 : ((Rows.forgeTrueRow.recurses == Tryd.prog.recurses 16)) = true := by kernel_rfl
theorem forgeTrue_j12 : ((Rows.forgeTrueRow.named == Tryd.prog.varsNamed 16)) = true := by kernel_rfl
theorem forgeTrue_j13 : ((Rows.forgeTrueRow.maps == (Tryd.f16.params.toList ++ Rows.forgeTrueSpec.plain.varTypes Tryd.prog).any (Tryd.prog.mapsRec ·))) = true := by kernel_rfl
theorem forgeTrue_j14 : ((Rows.forgeTrueRow.ifaces == (Tryd.f16.params.toList ++ Rows.forgeTrueSpec.plain.varTypes Tryd.prog).any (Tryd.prog.ifacesRec ·))) = true := by kernel_rfl
theorem forgeTrue_j15 : ((Rows.forgeTrueRow.mapsOut == Tryd.prog.mapsAmong Tryd.f16.resultTypes.toList)) = true := by kernel_rfl
theorem forgeTrue_j16 : ((Rows.forgeTrueRow.loops == (Tryd.f16.params.toList ++ Rows.forgeTrueSpec.plain.varTypes Tryd.prog).any (Tryd.prog.loopsFrom ·))) = true := by kernel_rfl
theorem forgeTrue_j17 : ((Rows.forgeTrueRow.wideKeys == (Tryd.f16.params.toList ++ Rows.forgeTrueSpec.plain.varTypes Tryd.prog ++ Tryd.f16.resultTypes.toList).any (Tryd.prog.wideKeysFrom ·))) = true := by kernel_rfl
theorem forgeTrue_j18 : (Rows.forgeTrueSpec.vars.all (Tryd.prog.varReadable ·)) = true := by kernel_rfl
theorem forgeTrue_j19 : (Tryd.f16.resultTypes.all (fun t => Tryd.prog.readableRec t && decide (t < Tryd.prog.types.size))) = true := by kernel_rfl
theorem forgeTrue_j20 : ((Rows.forgeTrueRow.ifacesOut == Tryd.f16.resultTypes.toList.any (Tryd.prog.ifacesRec ·))) = true := by kernel_rfl
theorem forgeTrue_j21 : ((Rows.forgeTrueRow.loopsOut == Tryd.f16.resultTypes.toList.any (Tryd.prog.loopsFrom ·))) = true := by kernel_rfl
theorem forgeTrue_j22 : ((Rows.forgeTrueRow.plainKeys == Tryd.prog.plainKeys)) = true := by kernel_rfl
theorem forgeTrue_j23 : Rows.forgeTrueRow.shortTexts.isNone = true := by kernel_rfl
theorem forgeTrue_j24 : Tryd.prog.stopsHeard = true := by kernel_rfl
theorem forgeTrue_j25 : Tryd.prog.mayEnter = true := by kernel_rfl
theorem forgeTrue_j26 : ((Rows.forgeTrueRow.lifted == Tryd.prog.liftsFinal)) = true := by kernel_rfl
theorem forgeTrue_j27 : ((Tryd.prog.make == some Rows.forgeTrueRow.make)) = true := by kernel_rfl
theorem forgeTrue_j28 : ((Rows.forgeTrueRow.kinds == (if Rows.forgeTrueRow.domain.isEmpty then [] else Tryd.f16.params.toList.map fun t => match Tryd.prog.underlying t with | some (.int k) => some k | _ => none))) = true := by kernel_rfl
theorem forgeTrue_j29 : ((Rows.forgeTrueRow.pinned == Rows.forgeTrueRow.pinnedBy)) = true := by kernel_rfl
theorem forgeTrue_j30 : ((Rows.forgeTrueRow.veiled == (Tryd.f16.params.toList ++ Rows.forgeTrueSpec.plain.varTypes Tryd.prog ++ Tryd.f16.resultTypes.toList).any (Tryd.prog.veiledRec ·))) = true := by kernel_rfl
theorem forgeTrue_j31 : (Rows.forgeTrueRow.veiledFits Tryd.prog Tryd.f16.params.toList (Tryd.f16.params.toList ++ Rows.forgeTrueSpec.plain.varTypes Tryd.prog ++ Tryd.f16.resultTypes.toList)) = true := by kernel_rfl
theorem forgeTrue_facts : joinedFacts Tryd.pinned.checked.prog 16 Tryd.f16 (OpenSpec.ofChange Rows.forgeTrueSpec).bare Rows.forgeTrueRow = true := by
 have h : joinedFacts Tryd.prog 16 Tryd.f16 Rows.forgeTrueSpec Rows.forgeTrueRow = true := by
  simp only [joinedFacts,Bool.and_eq_true]
  exact ⟨⟨⟨⟨⟨⟨⟨⟨⟨⟨⟨⟨⟨⟨⟨⟨⟨⟨⟨⟨⟨⟨⟨⟨⟨⟨⟨⟨⟨⟨⟨forgeTrue_j0,forgeTrue_j1⟩,forgeTrue_j2⟩,forgeTrue_j3⟩,forgeTrue_j4⟩,forgeTrue_j5⟩,forgeTrue_j6⟩,forgeTrue_j7⟩,forgeTrue_j8⟩,forgeTrue_j9⟩,forgeTrue_j10⟩,forgeTrue_j11⟩,forgeTrue_j12⟩,forgeTrue_j13⟩,forgeTrue_j14⟩,forgeTrue_j15⟩,forgeTrue_j16⟩,forgeTrue_j17⟩,forgeTrue_j18⟩,forgeTrue_j19⟩,forgeTrue_j20⟩,forgeTrue_j21⟩,forgeTrue_j22⟩,forgeTrue_j23⟩,forgeTrue_j24⟩,forgeTrue_j25⟩,forgeTrue_j26⟩,forgeTrue_j27⟩,forgeTrue_j28⟩,forgeTrue_j29⟩,forgeTrue_j30⟩,forgeTrue_j31⟩
 exact h
end Go.Di

