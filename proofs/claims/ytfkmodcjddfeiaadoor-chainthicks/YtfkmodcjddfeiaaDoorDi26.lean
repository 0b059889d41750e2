/- Part 26: an interpreter over plain data for this code, with the proof that it says what the model does, and the contracts of the functions. No condition. -/
import Derived.Test.YtfkmodcjddfeiaaDoorDi25
set_option linter.unusedVariables false
set_option linter.unusedSimpArgs false
set_option maxRecDepth 100000
namespace Go.Di
open Go.RowKit Go.ChangeShapes Go.WideShapes Go.Deep Go.ChangeAt Go.Proofs
open Go.Proofs.YtfkmodcjddfeiaaDoor
theorem chainThicks_j0 : (Rows.chainThicksRow.wf (OpenSpec.ofChange Rows.chainThicksSpec)) = true := by kernel_rfl
theorem chainThicks_j1 : (laidOutB Tryd.prog) = true := by kernel_rfl
theorem chainThicks_j2 : (mapsRowed Tryd.prog) = true := by kernel_rfl
theorem chainThicks_j3 : (Tryd.f3.params.all (Tryd.prog.readableRec ·)) = true := by kernel_rfl
theorem chainThicks_j4 : (namedTie Tryd.prog Rows.chainThicksRow.named Rows.chainThicksSpec.vars) = true := by kernel_rfl
theorem chainThicks_j5 : ((Rows.chainThicksRow.stops == [])) = true := by kernel_rfl
theorem chainThicks_j6 : ((Tryd.prog.stops == [])) = true := by kernel_rfl
theorem chainThicks_j7 : ((Rows.chainThicksRow.knobs == [])) = true := by kernel_rfl
theorem chainThicks_j8 : ((Tryd.prog.stopKnobs == [])) = true := by kernel_rfl
theorem chainThicks_j9 : ((Rows.chainThicksRow.inPlace == Tryd.prog.inPlace 3)) = true := by kernel_rfl
theorem chainThicks_j10 : ((Rows.chainThicksRow.unfollowed == Tryd.prog.unfollowed 3)) = true := by kernel_rfl
theorem chainThicks_j11 : ((Rows.chainThicksRow.recurses == Tryd.prog.recurses 3)) = true := by kernel_rfl
theorem chainThicks_j12 : ((Rows.chainThicksRow.named == Tryd.prog.varsNamed 3)) = true := by kernel_rfl
theorem chainThicks_j13 : ((Rows.chainThicksRow.maps == (Tryd.f3.params.toList ++ Rows.chainThicksSpec.plain.varTypes Tryd.prog).any (Tryd.prog.mapsRec ·))) = true := by kernel_rfl
theorem chainThicks_j14 : ((Rows.chainThicksRow.ifaces == (Tryd.f3.params.toList ++ Rows.chainThicksSpec.plain.varTypes Tryd.prog).any (Tryd.prog.ifacesRec ·))) = true := by kernel_rfl
theorem chainThicks_j15 : ((Rows.chainThicksRow.mapsOut == Tryd.prog.mapsAmong Tryd.f3.resultTypes.toList)) = true := by kernel_rfl
theorem chainThicks_j16 : ((Rows.chainThicksRow.loops == (Tryd.f3.params.toList ++ Rows.chainThicksSpec.plain.varTypes Tryd.prog).any (Tryd.prog.loopsFrom ·))) = true := by kernel_rfl
theorem chainThicks_j17 : ((Rows.chainThicksRow.wideKeys == (Tryd.f3.params.toList ++ Rows.chainThicksSpec.plain.varTypes Tryd.prog ++ Tryd.f3.resultTypes.toList).any (Tryd.prog.wideKeysFrom ·))) = true := by kernel_rfl
theorem chainThicks_j18 : (Rows.chainThicksSpec.vars.all (Tryd.prog.varReadable ·)) = true := by kernel_rfl
theorem chainThicks_j19 : (Tryd.f3.resultTypes.all (fun t => Tryd.prog.readableRec t && decide (t < Tryd.prog.types.size))) = true := by kernel_rfl
theorem chainThicks_j20 : ((Rows.chainThicksRow.ifacesOut == Tryd.f3.resultTypes.toList.any (Tryd.prog.ifacesRec ·))) = true := by kernel_rfl
theorem chainThicks_j21 : ((Rows.chainThicksRow.loopsOut == Tryd.f3.resultTypes.toList.any (Tryd.prog.loopsFrom ·))) = true := by kernel_rfl
theorem chainThicks_j22 : ((Rows.chainThicksRow.plainKeys == Tryd.prog.plainKeys)) = true := by kernel_rfl
theorem chainThicks_j23 : (Rows.chainThicksRow.shortTexts.isNone) = true := by kernel_rfl
theorem chainThicks_j24 : (Tryd.prog.stopsHeard) = true := by kernel_rfl
theorem chainThicks_j25 : (Tryd.prog.mayEnter) = true := by kernel_rfl
theorem chainThicks_j26 : ((Rows.chainThicksRow.lifted == Tryd.prog.liftsFinal)) = true := by kernel_rfl
theorem chainThicks_j27 : ((Tryd.prog.make == some Rows.chainThicksRow.make)) = true := by kernel_rfl
theorem chainThicks_j28 : ((Rows.chainThicksRow.kinds == (if Rows.chainThicksRow.domain.isEmpty then [] else Tryd.f3.params.toList.map fun t => match Tryd.prog.underlying t with | some (.int k) => some k | _ => none))) = true := by kernel_rfl
theorem chainThicks_j29 : ((Rows.chainThicksRow.pinned == Rows.chainThicksRow.pinnedBy)) = true := by kernel_rfl
theorem chainThicks_j30 : ((Rows.chainThicksRow.veiled == (Tryd.f3.params.toList ++ Rows.chainThicksSpec.plain.varTypes Tryd.prog ++ Tryd.f3.resultTypes.toList).any (Tryd.prog.veiledRec ·))) = true := by kernel_rfl
theorem chainThicks_j31 : (Rows.chainThicksRow.veiledFits Tryd.prog Tryd.f3.params.toList (Tryd.f3.params.toList ++ Rows.chainThicksSpec.plain.varTypes Tryd.prog ++ Tryd.f3.resultTypes.toList)) = true := by kernel_rfl
theorem chainThicks_facts : joinedFacts Tryd.pinned.checked.prog 3 Tryd.f3 (OpenSpec.ofChange Rows.chainThicksSpec).bare Rows.chainThicksRow = true := by
  have h : joinedFacts Tryd.prog 3 Tryd.f3 Rows.chainThicksSpec Rows.chainThicksRow = true := by
    simp only [joinedFacts, Bool.and_eq_true]
    exact ⟨⟨⟨⟨⟨⟨⟨⟨⟨⟨⟨⟨⟨⟨⟨⟨⟨⟨⟨⟨⟨⟨⟨⟨⟨⟨⟨⟨⟨⟨⟨chainThicks_j0, chainThicks_j1⟩, chainThicks_j2⟩, chainThicks_j3⟩, chainThicks_j4⟩, chainThicks_j5⟩, chainThicks_j6⟩, chainThicks_j7⟩, chainThicks_j8⟩, chainThicks_j9⟩, chainThicks_j10⟩, chainThicks_j11⟩, chainThicks_j12⟩, chainThicks_j13⟩, chainThicks_j14⟩, chainThicks_j15⟩, chainThicks_j16⟩, chainThicks_j17⟩, chainThicks_j18⟩, chainThicks_j19⟩, chainThicks_j20⟩, chainThicks_j21⟩, chainThicks_j22⟩, chainThicks_j23⟩, chainThicks_j24⟩, chainThicks_j25⟩, chainThicks_j26⟩, chainThicks_j27⟩, chainThicks_j28⟩, chainThicks_j29⟩, chainThicks_j30⟩, chainThicks_j31⟩
  exact h
end Go.Di

