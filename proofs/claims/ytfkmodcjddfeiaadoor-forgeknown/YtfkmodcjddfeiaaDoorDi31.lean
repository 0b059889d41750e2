/- Part 31: an interpreter over plain data for this code, with the proof that it says what the model does, and the contracts of the functions. No condition. -/
import Derived.Test.YtfkmodcjddfeiaaDoorDi30
set_option linter.unusedVariables false
set_option linter.unusedSimpArgs false
set_option maxRecDepth 100000
namespace Go.Di
open Proofs
open Go.RowKit Go.ChangeShapes Go.WideShapes Go.Deep Go.ChangeAt Go.Proofs
open Go.Proofs.YtfkmodcjddfeiaaDoor
theorem forgeKnown_j0 : (Rows.forgeKnownRow.wf (OpenSpec.ofChange Rows.forgeKnownSpec)) = true := by kernel_rfl
theorem forgeKnown_j1 : (laidOutB Tryd.prog) = true := by kernel_rfl
theorem forgeKnown_j2 : (mapsRowed Tryd.prog) = true := by kernel_rfl
theorem forgeKnown_j3 : (Tryd.f23.params.all (Tryd.prog.readableRec ·)) = true := by kernel_rfl
theorem forgeKnown_j4 : (namedTie Tryd.prog Rows.forgeKnownRow.named Rows.forgeKnownSpec.vars) = true := by kernel_rfl
theorem forgeKnown_j5 : ((Rows.forgeKnownRow.stops == [])) = true := by kernel_rfl
theorem forgeKnown_j6 : ((Tryd.prog.stops == [])) = true := by kernel_rfl
theorem forgeKnown_j7 : ((Rows.forgeKnownRow.knobs == [])) = true := by kernel_rfl
theorem forgeKnown_j8 : ((Tryd.prog.stopKnobs == [])) = true := by kernel_rfl
theorem forgeKnown_j9 : ((Rows.forgeKnownRow.inPlace == Tryd.prog.inPlace 23)) = true := by kernel_rfl
theorem forgeKnown_j10 : ((Rows.forgeKnownRow.unfollowed == Tryd.prog.unfollowed 23)) = true := by kernel_rfl
theorem forgeKnown_j11 : ((Rows.forgeKnownRow.recurses == Tryd.prog.recurses 23)) = true := by kernel_rfl
theorem forgeKnown_j12 : ((Rows.forgeKnownRow.named == Tryd.prog.varsNamed 23)) = true := by kernel_rfl
theorem forgeKnown_j13 : ((Rows.forgeKnownRow.maps == (Tryd.f23.params.toList ++ Rows.forgeKnownSpec.plain.varTypes Tryd.prog).any (Tryd.prog.mapsRec ·))) = true := by kernel_rfl
theorem forgeKnown_j14 : ((Rows.forgeKnownRow.ifaces == (Tryd.f23.params.toList ++ Rows.forgeKnownSpec.plain.varTypes Tryd.prog).any (Tryd.prog.ifacesRec ·))) = true := by kernel_rfl
theorem forgeKnown_j15 : ((Rows.forgeKnownRow.mapsOut == Tryd.prog.mapsAmong Tryd.f23.resultTypes.toList)) = true := by kernel_rfl
theorem forgeKnown_j16 : ((Rows.forgeKnownRow.loops == (Tryd.f23.params.toList ++ Rows.forgeKnownSpec.plain.varTypes Tryd.prog).any (Tryd.prog.loopsFrom ·))) = true := by kernel_rfl
theorem forgeKnown_j17 : ((Rows.forgeKnownRow.wideKeys == (Tryd.f23.params.toList ++ Rows.forgeKnownSpec.plain.varTypes Tryd.prog ++ Tryd.f23.resultTypes.toList).any (Tryd.prog.wideKeysFrom ·))) = true := by kernel_rfl
theorem forgeKnown_j18 : (Rows.forgeKnownSpec.vars.all (Tryd.prog.varReadable ·)) = true := by kernel_rfl
theorem forgeKnown_j19 : (Tryd.f23.resultTypes.all (fun t => Tryd.prog.readableRec t && decide (t < Tryd.prog.types.size))) = true := by kernel_rfl
theorem forgeKnown_j20 : ((Rows.forgeKnownRow.ifacesOut == Tryd.f23.resultTypes.toList.any (Tryd.prog.ifacesRec ·))) = true := by kernel_rfl
theorem forgeKnown_j21 : ((Rows.forgeKnownRow.loopsOut == Tryd.f23.resultTypes.toList.any (Tryd.prog.loopsFrom ·))) = true := by kernel_rfl
theorem forgeKnown_j22 : ((Rows.forgeKnownRow.plainKeys == Tryd.prog.plainKeys)) = true := by kernel_rfl
theorem forgeKnown_j23 : (Rows.forgeKnownRow.shortTexts.isNone) = true := by kernel_rfl
theorem forgeKnown_j24 : (Tryd.prog.stopsHeard) = true := by kernel_rfl
theorem forgeKnown_j25 : (Tryd.prog.mayEnter) = true := by kernel_rfl
theorem forgeKnown_j26 : ((Rows.forgeKnownRow.lifted == Tryd.prog.liftsFinal)) = true := by kernel_rfl
theorem forgeKnown_j27 : ((Tryd.prog.make == some Rows.forgeKnownRow.make)) = true := by kernel_rfl
theorem forgeKnown_j28 : ((Rows.forgeKnownRow.kinds == (if Rows.forgeKnownRow.domain.isEmpty then [] else Tryd.f23.params.toList.map fun t => match Tryd.prog.underlying t with | some (.int k) => some k | _ => none))) = true := by kernel_rfl
theorem forgeKnown_j29 : ((Rows.forgeKnownRow.pinned == Rows.forgeKnownRow.pinnedBy)) = true := by kernel_rfl
theorem forgeKnown_j30 : ((Rows.forgeKnownRow.veiled == (Tryd.f23.params.toList ++ Rows.forgeKnownSpec.plain.varTypes Tryd.prog ++ Tryd.f23.resultTypes.toList).any (Tryd.prog.veiledRec ·))) = true := by kernel_rfl
theorem forgeKnown_j31 : (Rows.forgeKnownRow.veiledFits Tryd.prog Tryd.f23.params.toList (Tryd.f23.params.toList ++ Rows.forgeKnownSpec.plain.varTypes Tryd.prog ++ Tryd.f23.resultTypes.toList)) = true := by kernel_rfl
theorem forgeKnown_facts : joinedFacts Tryd.pinned.checked.prog 23 Tryd.f23 (OpenSpec.ofChange Rows.forgeKnownSpec).bare Rows.forgeKnownRow = true := by
 have h : joinedFacts Tryd.prog 23 Tryd.f23 Rows.forgeKnownSpec Rows.forgeKnownRow = true := by
  simp only [joinedFacts,Bool.and_eq_true]
  exact ⟨⟨⟨⟨⟨⟨⟨⟨⟨⟨⟨⟨⟨⟨⟨⟨⟨⟨⟨⟨⟨⟨⟨⟨⟨⟨⟨⟨⟨⟨⟨forgeKnown_j0,forgeKnown_j1⟩,forgeKnown_j2⟩,forgeKnown_j3⟩,forgeKnown_j4⟩,forgeKnown_j5⟩,forgeKnown_j6⟩,forgeKnown_j7⟩,forgeKnown_j8⟩,forgeKnown_j9⟩,forgeKnown_j10⟩,forgeKnown_j11⟩,forgeKnown_j12⟩,forgeKnown_j13⟩,forgeKnown_j14⟩,forgeKnown_j15⟩,forgeKnown_j16⟩,forgeKnown_j17⟩,forgeKnown_j18⟩,forgeKnown_j19⟩,forgeKnown_j20⟩,forgeKnown_j21⟩,forgeKnown_j22⟩,forgeKnown_j23⟩,forgeKnown_j24⟩,forgeKnown_j25⟩,forgeKnown_j26⟩,forgeKnown_j27⟩,forgeKnown_j28⟩,forgeKnown_j29⟩,forgeKnown_j30⟩,forgeKnown_j31⟩
 exact h
end Go.Di

