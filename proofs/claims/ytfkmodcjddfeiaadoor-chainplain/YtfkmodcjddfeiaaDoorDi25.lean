/- Part 25: an interpreter over plain data for this code, with the proof that it says what the model does, and the contracts of the functions. No condition. -/
import Derived.Test.YtfkmodcjddfeiaaDoorDi24
set_option linter.unusedVariables false
set_option linter.unusedSimpArgs false
set_option maxRecDepth 100000
namespace Go.Di
open Go.RowKit Go.ChangeShapes Go.WideShapes Go.Deep Go.ChangeAt Go.Proofs
open Go.Proofs.YtfkmodcjddfeiaaDoor
theorem chainPlain_j0 : (Rows.chainPlainRow.wf (OpenSpec.ofChange Rows.chainPlainSpec)) = true := by kernel_rfl
theorem chainPlain_j1 : (laidOutB Tryd.prog) = true := by kernel_rfl
theorem chainPlain_j2 : (mapsRowed Tryd.prog) = true := by kernel_rfl
theorem chainPlain_j3 : (Tryd.f13.params.all (Tryd.prog.readableRec ·)) = true := by kernel_rfl
theorem chainPlain_j4 : (namedTie Tryd.prog Rows.chainPlainRow.named Rows.chainPlainSpec.vars) = true := by kernel_rfl
theorem chainPlain_j5 : ((Rows.chainPlainRow.stops == [])) = true := by kernel_rfl
theorem chainPlain_j6 : ((Tryd.prog.stops == [])) = true := by kernel_rfl
theorem chainPlain_j7 : ((Rows.chainPlainRow.knobs == [])) = true := by kernel_rfl
theorem chainPlain_j8 : ((Tryd.prog.stopKnobs == [])) = true := by kernel_rfl
theorem chainPlain_j9 : ((Rows.chainPlainRow.inPlace == Tryd.prog.inPlace 13)) = true := by kernel_rfl
theorem chainPlain_j10 : ((Rows.chainPlainRow.unfollowed == Tryd.prog.unfollowed 13)) = true := by kernel_rfl
theorem chainPlain_j11 : ((Rows.chainPlainRow.recurses == Tryd.prog.recurses 13)) = true := by kernel_rfl
theorem chainPlain_j12 : ((Rows.chainPlainRow.named == Tryd.prog.varsNamed 13)) = true := by kernel_rfl
theorem chainPlain_j13 : ((Rows.chainPlainRow.maps == (Tryd.f13.params.toList ++ Rows.chainPlainSpec.plain.varTypes Tryd.prog).any (Tryd.prog.mapsRec ·))) = true := by kernel_rfl
theorem chainPlain_j14 : ((Rows.chainPlainRow.ifaces == (Tryd.f13.params.toList ++ Rows.chainPlainSpec.plain.varTypes Tryd.prog).any (Tryd.prog.ifacesRec ·))) = true := by kernel_rfl
theorem chainPlain_j15 : ((Rows.chainPlainRow.mapsOut == Tryd.prog.mapsAmong Tryd.f13.resultTypes.toList)) = true := by kernel_rfl
theorem chainPlain_j16 : ((Rows.chainPlainRow.loops == (Tryd.f13.params.toList ++ Rows.chainPlainSpec.plain.varTypes Tryd.prog).any (Tryd.prog.loopsFrom ·))) = true := by kernel_rfl
theorem chainPlain_j17 : ((Rows.chainPlainRow.wideKeys == (Tryd.f13.params.toList ++ Rows.chainPlainSpec.plain.varTypes Tryd.prog ++ Tryd.f13.resultTypes.toList).any (Tryd.prog.wideKeysFrom ·))) = true := by kernel_rfl
theorem chainPlain_j18 : (Rows.chainPlainSpec.vars.all (Tryd.prog.varReadable ·)) = true := by kernel_rfl
theorem chainPlain_j19 : (Tryd.f13.resultTypes.all (fun t => Tryd.prog.readableRec t && decide (t < Tryd.prog.types.size))) = true := by kernel_rfl
theorem chainPlain_j20 : ((Rows.chainPlainRow.ifacesOut == Tryd.f13.resultTypes.toList.any (Tryd.prog.ifacesRec ·))) = true := by kernel_rfl
theorem chainPlain_j21 : ((Rows.chainPlainRow.loopsOut == Tryd.f13.resultTypes.toList.any (Tryd.prog.loopsFrom ·))) = true := by kernel_rfl
theorem chainPlain_j22 : ((Rows.chainPlainRow.plainKeys == Tryd.prog.plainKeys)) = true := by kernel_rfl
theorem chainPlain_j23 : (Rows.chainPlainRow.shortTexts.isNone) = true := by kernel_rfl
theorem chainPlain_j24 : (Tryd.prog.stopsHeard) = true := by kernel_rfl
theorem chainPlain_j25 : (Tryd.prog.mayEnter) = true := by kernel_rfl
theorem chainPlain_j26 : ((Rows.chainPlainRow.lifted == Tryd.prog.liftsFinal)) = true := by kernel_rfl
theorem chainPlain_j27 : ((Tryd.prog.make == some Rows.chainPlainRow.make)) = true := by kernel_rfl
theorem chainPlain_j28 : ((Rows.chainPlainRow.kinds == (if Rows.chainPlainRow.domain.isEmpty then [] else Tryd.f13.params.toList.map fun t => match Tryd.prog.underlying t with | some (.int k) => some k | _ => none))) = true := by kernel_rfl
theorem chainPlain_j29 : ((Rows.chainPlainRow.pinned == Rows.chainPlainRow.pinnedBy)) = true := by kernel_rfl
theorem chainPlain_j30 : ((Rows.chainPlainRow.veiled == (Tryd.f13.params.toList ++ Rows.chainPlainSpec.plain.varTypes Tryd.prog ++ Tryd.f13.resultTypes.toList).any (Tryd.prog.veiledRec ·))) = true := by kernel_rfl
theorem chainPlain_j31 : (Rows.chainPlainRow.veiledFits Tryd.prog Tryd.f13.params.toList (Tryd.f13.params.toList ++ Rows.chainPlainSpec.plain.varTypes Tryd.prog ++ Tryd.f13.resultTypes.toList)) = true := by kernel_rfl
theorem chainPlain_facts : joinedFacts Tryd.pinned.checked.prog 13 Tryd.f13 (OpenSpec.ofChange Rows.chainPlainSpec).bare Rows.chainPlainRow = true := by
  have h : joinedFacts Tryd.prog 13 Tryd.f13 Rows.chainPlainSpec Rows.chainPlainRow = true := by
    simp only [joinedFacts, Bool.and_eq_true]
    exact ⟨⟨⟨⟨⟨⟨⟨⟨⟨⟨⟨⟨⟨⟨⟨⟨⟨⟨⟨⟨⟨⟨⟨⟨⟨⟨⟨⟨⟨⟨⟨chainPlain_j0, chainPlain_j1⟩, chainPlain_j2⟩, chainPlain_j3⟩, chainPlain_j4⟩, chainPlain_j5⟩, chainPlain_j6⟩, chainPlain_j7⟩, chainPlain_j8⟩, chainPlain_j9⟩, chainPlain_j10⟩, chainPlain_j11⟩, chainPlain_j12⟩, chainPlain_j13⟩, chainPlain_j14⟩, chainPlain_j15⟩, chainPlain_j16⟩, chainPlain_j17⟩, chainPlain_j18⟩, chainPlain_j19⟩, chainPlain_j20⟩, chainPlain_j21⟩, chainPlain_j22⟩, chainPlain_j23⟩, chainPlain_j24⟩, chainPlain_j25⟩, chainPlain_j26⟩, chainPlain_j27⟩, chainPlain_j28⟩, chainPlain_j29⟩, chainPlain_j30⟩, chainPlain_j31⟩
  exact h
end Go.Di

