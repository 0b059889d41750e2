/- Part 26: an interpreter over plain data for this code, with the proof that it says what the model does, and the contracts of the functions. No condition. -/
import Derived.Test.YtfkmodcjddfeiaaDoorDi25
set_option linter.unusedVariables false
set_option linter.unusedSimpArgs false
set_option maxRecDepth 100000
namespace Go.Di
open Go.RowKit Go.ChangeShapes Go.WideShapes Go.Deep Go.ChangeAt Go.Proofs
open Go.Proofs.YtfkmodcjddfeiaaDoor
theorem chainMirror_j0 : (Rows.chainMirrorRow.wf (OpenSpec.ofChange Rows.chainMirrorSpec)) = true := by kernel_rfl
theorem chainMirror_j1 : (laidOutB Tryd.prog) = true := by kernel_rfl
theorem chainMirror_j2 : (mapsRowed Tryd.prog) = true := by kernel_rfl
theorem chainMirror_j3 : (Tryd.f10.params.all (Tryd.prog.readableRec ·)) = true := by kernel_rfl
theorem chainMirror_j4 : (namedTie Tryd.prog Rows.chainMirrorRow.named Rows.chainMirrorSpec.vars) = true := by kernel_rfl
theorem chainMirror_j5 : ((Rows.chainMirrorRow.stops == [])) = true := by kernel_rfl
theorem chainMirror_j6 : ((Tryd.prog.stops == [])) = true := by kernel_rfl
theorem chainMirror_j7 : ((Rows.chainMirrorRow.knobs == [])) = true := by kernel_rfl
theorem chainMirror_j8 : ((Tryd.prog.stopKnobs == [])) = true := by kernel_rfl
theorem chainMirror_j9 : ((Rows.chainMirrorRow.inPlace == Tryd.prog.inPlace 10)) = true := by kernel_rfl
theorem chainMirror_j10 : ((Rows.chainMirrorRow.unfollowed == Tryd.prog.unfollowed 10)) = true := by kernel_rfl
theorem chainMirror_j11 : ((Rows.chainMirrorRow.recurses == Tryd.prog.recurses 10)) = true := by kernel_rfl
theorem chainMirror_j12 : ((Rows.chainMirrorRow.named == Tryd.prog.varsNamed 10)) = true := by kernel_rfl
theorem chainMirror_j13 : ((Rows.chainMirrorRow.maps == (Tryd.f10.params.toList ++ Rows.chainMirrorSpec.plain.varTypes Tryd.prog).any (Tryd.prog.mapsRec ·))) = true := by kernel_rfl
theorem chainMirror_j14 : ((Rows.chainMirrorRow.ifaces == (Tryd.f10.params.toList ++ Rows.chainMirrorSpec.plain.varTypes Tryd.prog).any (Tryd.prog.ifacesRec ·))) = true := by kernel_rfl
theorem chainMirror_j15 : ((Rows.chainMirrorRow.mapsOut == Tryd.prog.mapsAmong Tryd.f10.resultTypes.toList)) = true := by kernel_rfl
theorem chainMirror_j16 : ((Rows.chainMirrorRow.loops == (Tryd.f10.params.toList ++ Rows.chainMirrorSpec.plain.varTypes Tryd.prog).any (Tryd.prog.loopsFrom ·))) = true := by kernel_rfl
theorem chainMirror_j17 : ((Rows.chainMirrorRow.wideKeys == (Tryd.f10.params.toList ++ Rows.chainMirrorSpec.plain.varTypes Tryd.prog ++ Tryd.f10.resultTypes.toList).any (Tryd.prog.wideKeysFrom ·))) = true := by kernel_rfl
theorem chainMirror_j18 : (Rows.chainMirrorSpec.vars.all (Tryd.prog.varReadable ·)) = true := by kernel_rfl
theorem chainMirror_j19 : (Tryd.f10.resultTypes.all (fun t => Tryd.prog.readableRec t && decide (t < Tryd.prog.types.size))) = true := by kernel_rfl
theorem chainMirror_j20 : ((Rows.chainMirrorRow.ifacesOut == Tryd.f10.resultTypes.toList.any (Tryd.prog.ifacesRec ·))) = true := by kernel_rfl
theorem chainMirror_j21 : ((Rows.chainMirrorRow.loopsOut == Tryd.f10.resultTypes.toList.any (Tryd.prog.loopsFrom ·))) = true := by kernel_rfl
theorem chainMirror_j22 : ((Rows.chainMirrorRow.plainKeys == Tryd.prog.plainKeys)) = true := by kernel_rfl
theorem chainMirror_j23 : (Rows.chainMirrorRow.shortTexts.isNone) = true := by kernel_rfl
theorem chainMirror_j24 : (Tryd.prog.stopsHeard) = true := by kernel_rfl
theorem chainMirror_j25 : (Tryd.prog.mayEnter) = true := by kernel_rfl
theorem chainMirror_j26 : ((Rows.chainMirrorRow.lifted == Tryd.prog.liftsFinal)) = true := by kernel_rfl
theorem chainMirror_j27 : ((Tryd.prog.make == some Rows.chainMirrorRow.make)) = true := by kernel_rfl
theorem chainMirror_j28 : ((Rows.chainMirrorRow.kinds == (if Rows.chainMirrorRow.domain.isEmpty then [] else Tryd.f10.params.toList.map fun t => match Tryd.prog.underlying t with | some (.int k) => some k | _ => none))) = true := by kernel_rfl
theorem chainMirror_j29 : ((Rows.chainMirrorRow.pinned == Rows.chainMirrorRow.pinnedBy)) = true := by kernel_rfl
theorem chainMirror_j30 : ((Rows.chainMirrorRow.veiled == (Tryd.f10.params.toList ++ Rows.chainMirrorSpec.plain.varTypes Tryd.prog ++ Tryd.f10.resultTypes.toList).any (Tryd.prog.veiledRec ·))) = true := by kernel_rfl
theorem chainMirror_j31 : (Rows.chainMirrorRow.veiledFits Tryd.prog Tryd.f10.params.toList (Tryd.f10.params.toList ++ Rows.chainMirrorSpec.plain.varTypes Tryd.prog ++ Tryd.f10.resultTypes.toList)) = true := by kernel_rfl
theorem chainMirror_facts : joinedFacts Tryd.pinned.checked.prog 10 Tryd.f10 (OpenSpec.ofChange Rows.chainMirrorSpec).bare Rows.chainMirrorRow = true := by
  have h : joinedFacts Tryd.prog 10 Tryd.f10 Rows.chainMirrorSpec Rows.chainMirrorRow = true := by
    simp only [joinedFacts, Bool.and_eq_true]
    exact ⟨⟨⟨⟨⟨⟨⟨⟨⟨⟨⟨⟨⟨⟨⟨⟨⟨⟨⟨⟨⟨⟨⟨⟨⟨⟨⟨⟨⟨⟨⟨chainMirror_j0, chainMirror_j1⟩, chainMirror_j2⟩, chainMirror_j3⟩, chainMirror_j4⟩, chainMirror_j5⟩, chainMirror_j6⟩, chainMirror_j7⟩, chainMirror_j8⟩, chainMirror_j9⟩, chainMirror_j10⟩, chainMirror_j11⟩, chainMirror_j12⟩, chainMirror_j13⟩, chainMirror_j14⟩, chainMirror_j15⟩, chainMirror_j16⟩, chainMirror_j17⟩, chainMirror_j18⟩, chainMirror_j19⟩, chainMirror_j20⟩, chainMirror_j21⟩, chainMirror_j22⟩, chainMirror_j23⟩, chainMirror_j24⟩, chainMirror_j25⟩, chainMirror_j26⟩, chainMirror_j27⟩, chainMirror_j28⟩, chainMirror_j29⟩, chainMirror_j30⟩, chainMirror_j31⟩
  exact h
end Go.Di

