/- Part 28: an interpreter over plain data for this code, with the proof that it says what the model does, and the contracts of the functions. No condition. -/
import Derived.Test.YtfkmodcjddfeiaaDoorDi27
set_option linter.unusedVariables false
set_option linter.unusedSimpArgs false
set_option maxRecDepth 100000
namespace Go.Di
open Go.RowKit Go.ChangeShapes Go.WideShapes Go.Deep Go.ChangeAt Go.Proofs
open Go.Proofs.YtfkmodcjddfeiaaDoor
theorem chainTrue_j0 : (Rows.chainTrueRow.wf (OpenSpec.ofChange Rows.chainTrueSpec)) = true := by kernel_rfl
theorem chainTrue_j1 : (laidOutB Tryd.prog) = true := by kernel_rfl
theorem chainTrue_j2 : (mapsRowed Tryd.prog) = true := by kernel_rfl
theorem chainTrue_j3 : (Tryd.f6.params.all (Tryd.prog.readableRec ·)) = true := by kernel_rfl
theorem chainTrue_j4 : (namedTie Tryd.prog Rows.chainTrueRow.named Rows.chainTrueSpec.vars) = true := by kernel_rfl
theorem chainTrue_j5 : ((Rows.chainTrueRow.stops == [])) = true := by kernel_rfl
theorem chainTrue_j6 : ((Tryd.prog.stops == [])) = true := by kernel_rfl
theorem chainTrue_j7 : ((Rows.chainTrueRow.knobs == [])) = true := by kernel_rfl
theorem chainTrue_j8 : ((Tryd.prog.stopKnobs == [])) = true := by kernel_rfl
theorem chainTrue_j9 : ((Rows.chainTrueRow.inPlace == Tryd.prog.inPlace 6)) = true := by kernel_rfl
theorem chainTrue_j10 : ((Rows.chainTrueRow.unfollowed == Tryd.prog.unfollowed 6)) = true := by kernel_rfl
theorem chainTrue_j11 : ((Rows.chainTrueRow.recurses == Tryd.prog.recurses 6)) = true := by kernel_rfl
theorem chainTrue_j12 : ((Rows.chainTrueRow.named == Tryd.prog.varsNamed 6)) = true := by kernel_rfl
theorem chainTrue_j13 : ((Rows.chainTrueRow.maps == (Tryd.f6.params.toList ++ Rows.chainTrueSpec.plain.varTypes Tryd.prog).any (Tryd.prog.mapsRec ·))) = true := by kernel_rfl
theorem chainTrue_j14 : ((Rows.chainTrueRow.ifaces == (Tryd.f6.params.toList ++ Rows.chainTrueSpec.plain.varTypes Tryd.prog).any (Tryd.prog.ifacesRec ·))) = true := by kernel_rfl
theorem chainTrue_j15 : ((Rows.chainTrueRow.mapsOut == Tryd.prog.mapsAmong Tryd.f6.resultTypes.toList)) = true := by kernel_rfl
theorem chainTrue_j16 : ((Rows.chainTrueRow.loops == (Tryd.f6.params.toList ++ Rows.chainTrueSpec.plain.varTypes Tryd.prog).any (Tryd.prog.loopsFrom ·))) = true := by kernel_rfl
theorem chainTrue_j17 : ((Rows.chainTrueRow.wideKeys == (Tryd.f6.params.toList ++ Rows.chainTrueSpec.plain.varTypes Tryd.prog ++ Tryd.f6.resultTypes.toList).any (Tryd.prog.wideKeysFrom ·))) = true := by kernel_rfl
theorem chainTrue_j18 : (Rows.chainTrueSpec.vars.all (Tryd.prog.varReadable ·)) = true := by kernel_rfl
theorem chainTrue_j19 : (Tryd.f6.resultTypes.all (fun t => Tryd.prog.readableRec t && decide (t < Tryd.prog.types.size))) = true := by kernel_rfl
theorem chainTrue_j20 : ((Rows.chainTrueRow.ifacesOut == Tryd.f6.resultTypes.toList.any (Tryd.prog.ifacesRec ·))) = true := by kernel_rfl
theorem chainTrue_j21 : ((Rows.chainTrueRow.loopsOut == Tryd.f6.resultTypes.toList.any (Tryd.prog.loopsFrom ·))) = true := by kernel_rfl
theorem chainTrue_j22 : ((Rows.chainTrueRow.plainKeys == Tryd.prog.plainKeys)) = true := by kernel_rfl
theorem chainTrue_j23 : (Rows.chainTrueRow.shortTexts.isNone) = true := by kernel_rfl
theorem chainTrue_j24 : (Tryd.prog.stopsHeard) = true := by kernel_rfl
theorem chainTrue_j25 : (Tryd.prog.mayEnter) = true := by kernel_rfl
theorem chainTrue_j26 : ((Rows.chainTrueRow.lifted == Tryd.prog.liftsFinal)) = true := by kernel_rfl
theorem chainTrue_j27 : ((Tryd.prog.make == some Rows.chainTrueRow.make)) = true := by kernel_rfl
theorem chainTrue_j28 : ((Rows.chainTrueRow.kinds == (if Rows.chainTrueRow.domain.isEmpty then [] else Tryd.f6.params.toList.map fun t => match Tryd.prog.underlying t with | some (.int k) => some k | _ => none))) = true := by kernel_rfl
theorem chainTrue_j29 : ((Rows.chainTrueRow.pinned == Rows.chainTrueRow.pinnedBy)) = true := by kernel_rfl
theorem chainTrue_j30 : ((Rows.chainTrueRow.veiled == (Tryd.f6.params.toList ++ Rows.chainTrueSpec.plain.varTypes Tryd.prog ++ Tryd.f6.resultTypes.toList).any (Tryd.prog.veiledRec ·))) = true := by kernel_rfl
theorem chainTrue_j31 : (Rows.chainTrueRow.veiledFits Tryd.prog Tryd.f6.params.toList (Tryd.f6.params.toList ++ Rows.chainTrueSpec.plain.varTypes Tryd.prog ++ Tryd.f6.resultTypes.toList)) = true := by kernel_rfl
theorem chainTrue_facts : joinedFacts Tryd.pinned.checked.prog 6 Tryd.f6 (OpenSpec.ofChange Rows.chainTrueSpec).bare Rows.chainTrueRow = true := by
  have h : joinedFacts Tryd.prog 6 Tryd.f6 Rows.chainTrueSpec Rows.chainTrueRow = true := by
    simp only [joinedFacts, Bool.and_eq_true]
    exact ⟨⟨⟨⟨⟨⟨⟨⟨⟨⟨⟨⟨⟨⟨⟨⟨⟨⟨⟨⟨⟨⟨⟨⟨⟨⟨⟨⟨⟨⟨⟨chainTrue_j0, chainTrue_j1⟩, chainTrue_j2⟩, chainTrue_j3⟩, chainTrue_j4⟩, chainTrue_j5⟩, chainTrue_j6⟩, chainTrue_j7⟩, chainTrue_j8⟩, chainTrue_j9⟩, chainTrue_j10⟩, chainTrue_j11⟩, chainTrue_j12⟩, chainTrue_j13⟩, chainTrue_j14⟩, chainTrue_j15⟩, chainTrue_j16⟩, chainTrue_j17⟩, chainTrue_j18⟩, chainTrue_j19⟩, chainTrue_j20⟩, chainTrue_j21⟩, chainTrue_j22⟩, chainTrue_j23⟩, chainTrue_j24⟩, chainTrue_j25⟩, chainTrue_j26⟩, chainTrue_j27⟩, chainTrue_j28⟩, chainTrue_j29⟩, chainTrue_j30⟩, chainTrue_j31⟩
  exact h
end Go.Di

