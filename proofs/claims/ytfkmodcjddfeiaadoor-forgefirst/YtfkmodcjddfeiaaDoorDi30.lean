/- Part 30: an interpreter over plain data for this code, with the proof that it says what the model does, and the contracts of the functions. No condition. -/
import Derived.Test.YtfkmodcjddfeiaaDoorDi29
set_option linter.unusedVariables false
set_option linter.unusedSimpArgs false
set_option maxRecDepth 100000
namespace Go.Di
open Go.RowKit Go.ChangeShapes Go.WideShapes Go.Deep Go.ChangeAt Go.Proofs
open Go.Proofs.YtfkmodcjddfeiaaDoor
theorem forgeFirst_j0 : (Rows.forgeFirstRow.wf (OpenSpec.ofChange Rows.forgeFirstSpec)) = true := by kernel_rfl
theorem forgeFirst_j1 : (laidOutB Tryd.prog) = true := by kernel_rfl
theorem forgeFirst_j2 : (mapsRowed Tryd.prog) = true := by kernel_rfl
theorem forgeFirst_j3 : (Tryd.f18.params.all (Tryd.prog.readableRec ·)) = true := by kernel_rfl
theorem forgeFirst_j4 : (namedTie Tryd.prog Rows.forgeFirstRow.named Rows.forgeFirstSpec.vars) = true := by kernel_rfl
theorem forgeFirst_j5 : ((Rows.forgeFirstRow.stops == [])) = true := by kernel_rfl
theorem forgeFirst_j6 : ((Tryd.prog.stops == [])) = true := by kernel_rfl
theorem forgeFirst_j7 : ((Rows.forgeFirstRow.knobs == [])) = true := by kernel_rfl
theorem forgeFirst_j8 : ((Tryd.prog.stopKnobs == [])) = true := by kernel_rfl
theorem forgeFirst_j9 : ((Rows.forgeFirstRow.inPlace == Tryd.prog.inPlace 18)) = true := by kernel_rfl
theorem forgeFirst_j10 : ((Rows.forgeFirstRow.unfollowed == Tryd.prog.unfollowed 18)) = true := by kernel_rfl
theorem forgeFirst_j11 : ((Rows.forgeFirstRow.recurses == Tryd.prog.recurses 18)) = true := by kernel_rfl
theorem forgeFirst_j12 : ((Rows.forgeFirstRow.named == Tryd.prog.varsNamed 18)) = true := by kernel_rfl
theorem forgeFirst_j13 : ((Rows.forgeFirstRow.maps == (Tryd.f18.params.toList ++ Rows.forgeFirstSpec.plain.varTypes Tryd.prog).any (Tryd.prog.mapsRec ·))) = true := by kernel_rfl
theorem forgeFirst_j14 : ((Rows.forgeFirstRow.ifaces == (Tryd.f18.params.toList ++ Rows.forgeFirstSpec.plain.varTypes Tryd.prog).any (Tryd.prog.ifacesRec ·))) = true := by kernel_rfl
theorem forgeFirst_j15 : ((Rows.forgeFirstRow.mapsOut == Tryd.prog.mapsAmong Tryd.f18.resultTypes.toList)) = true := by kernel_rfl
theorem forgeFirst_j16 : ((Rows.forgeFirstRow.loops == (Tryd.f18.params.toList ++ Rows.forgeFirstSpec.plain.varTypes Tryd.prog).any (Tryd.prog.loopsFrom ·))) = true := by kernel_rfl
theorem forgeFirst_j17 : ((Rows.forgeFirstRow.wideKeys == (Tryd.f18.params.toList ++ Rows.forgeFirstSpec.plain.varTypes Tryd.prog ++ Tryd.f18.resultTypes.toList).any (Tryd.prog.wideKeysFrom ·))) = true := by kernel_rfl
theorem forgeFirst_j18 : (Rows.forgeFirstSpec.vars.all (Tryd.prog.varReadable ·)) = true := by kernel_rfl
theorem forgeFirst_j19 : (Tryd.f18.resultTypes.all (fun t => Tryd.prog.readableRec t && decide (t < Tryd.prog.types.size))) = true := by kernel_rfl
theorem forgeFirst_j20 : ((Rows.forgeFirstRow.ifacesOut == Tryd.f18.resultTypes.toList.any (Tryd.prog.ifacesRec ·))) = true := by kernel_rfl
theorem forgeFirst_j21 : ((Rows.forgeFirstRow.loopsOut == Tryd.f18.resultTypes.toList.any (Tryd.prog.loopsFrom ·))) = true := by kernel_rfl
theorem forgeFirst_j22 : ((Rows.forgeFirstRow.plainKeys == Tryd.prog.plainKeys)) = true := by kernel_rfl
theorem forgeFirst_j23 : (Rows.forgeFirstRow.shortTexts.isNone) = true := by kernel_rfl
theorem forgeFirst_j24 : (Tryd.prog.stopsHeard) = true := by kernel_rfl
theorem forgeFirst_j25 : (Tryd.prog.mayEnter) = true := by kernel_rfl
theorem forgeFirst_j26 : ((Rows.forgeFirstRow.lifted == Tryd.prog.liftsFinal)) = true := by kernel_rfl
theorem forgeFirst_j27 : ((Tryd.prog.make == some Rows.forgeFirstRow.make)) = true := by kernel_rfl
theorem forgeFirst_j28 : ((Rows.forgeFirstRow.kinds == (if Rows.forgeFirstRow.domain.isEmpty then [] else Tryd.f18.params.toList.map fun t => match Tryd.prog.underlying t with | some (.int k) => some k | _ => none))) = true := by kernel_rfl
theorem forgeFirst_j29 : ((Rows.forgeFirstRow.pinned == Rows.forgeFirstRow.pinnedBy)) = true := by kernel_rfl
theorem forgeFirst_j30 : ((Rows.forgeFirstRow.veiled == (Tryd.f18.params.toList ++ Rows.forgeFirstSpec.plain.varTypes Tryd.prog ++ Tryd.f18.resultTypes.toList).any (Tryd.prog.veiledRec ·))) = true := by kernel_rfl
theorem forgeFirst_j31 : (Rows.forgeFirstRow.veiledFits Tryd.prog Tryd.f18.params.toList (Tryd.f18.params.toList ++ Rows.forgeFirstSpec.plain.varTypes Tryd.prog ++ Tryd.f18.resultTypes.toList)) = true := by kernel_rfl
theorem forgeFirst_facts : joinedFacts Tryd.pinned.checked.prog 18 Tryd.f18 (OpenSpec.ofChange Rows.forgeFirstSpec).bare Rows.forgeFirstRow = true := by
 have h : joinedFacts Tryd.prog 18 Tryd.f18 Rows.forgeFirstSpec Rows.forgeFirstRow = true := by
  simp only [joinedFacts,Bool.and_eq_true]
  exact ⟨⟨⟨⟨⟨⟨⟨⟨⟨⟨⟨⟨⟨⟨⟨⟨⟨⟨⟨⟨⟨⟨⟨⟨⟨⟨⟨⟨⟨⟨⟨forgeFirst_j0,forgeFirst_j1⟩,forgeFirst_j2⟩,forgeFirst_j3⟩,forgeFirst_j4⟩,forgeFirst_j5⟩,forgeFirst_j6⟩,forgeFirst_j7⟩,forgeFirst_j8⟩,forgeFirst_j9⟩,forgeFirst_j10⟩,forgeFirst_j11⟩,forgeFirst_j12⟩,forgeFirst_j13⟩,forgeFirst_j14⟩,forgeFirst_j15⟩,forgeFirst_j16⟩,forgeFirst_j17⟩,forgeFirst_j18⟩,forgeFirst_j19⟩,forgeFirst_j20⟩,forgeFirst_j21⟩,forgeFirst_j22⟩,forgeFirst_j23⟩,forgeFirst_j24⟩,forgeFirst_j25⟩,forgeFirst_j26⟩,forgeFirst_j27⟩,forgeFirst_j28⟩,forgeFirst_j29⟩,forgeFirst_j30⟩,forgeFirst_j31⟩
 exact h
end Go.Di

