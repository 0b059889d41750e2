/- Part 26: an interpreter over plain data for this code, with the proof that it says what the model does, and the contracts of the functions. No condition. -/
import Derived.Test.YtfkmodcjddfeiaaDoorDi25
set_option linter.unusedVariables false
set_option linter.unusedSimpArgs false
set_option maxRecDepth 100000
namespace Go.Di
open Go.RowKit Go.ChangeShapes Go.WideShapes Go.Deep Go.ChangeAt Go.Proofs
open Go.Proofs.YtfkmodcjddfeiaaDoor
theorem chainTurn_j0 : (Rows.chainTurnRow.wf (OpenSpec.ofChange Rows.chainTurnSpec)) = true := by kernel_rfl
theorem chainTurn_j1 : (laidOutB Tryd.prog) = true := by kernel_rfl
theorem chainTurn_j2 : (mapsRowed Tryd.prog) = true := by kernel_rfl
theorem chainTurn_j3 : (Tryd.f11.params.all (Tryd.prog.readableRec ·)) = true := by kernel_rfl
theorem chainTurn_j4 : (namedTie Tryd.prog Rows.chainTurnRow.named Rows.chainTurnSpec.vars) = true := by kernel_rfl
theorem chainTurn_j5 : ((Rows.chainTurnRow.stops == [])) = true := by kernel_rfl
theorem chainTurn_j6 : ((Tryd.prog.stops == [])) = true := by kernel_rfl
theorem chainTurn_j7 : ((Rows.chainTurnRow.knobs == [])) = true := by kernel_rfl
theorem chainTurn_j8 : ((Tryd.prog.stopKnobs == [])) = true := by kernel_rfl
theorem chainTurn_j9 : ((Rows.chainTurnRow.inPlace == Tryd.prog.inPlace 11)) = true := by kernel_rfl
theorem chainTurn_j10 : ((Rows.chainTurnRow.unfollowed == Tryd.prog.unfollowed 11)) = true := by kernel_rfl
theorem chainTurn_j11 : ((Rows.chainTurnRow.recurses == Tryd.prog.recurses 11)) = true := by kernel_rfl
theorem chainTurn_j12 : ((Rows.chainTurnRow.named == Tryd.prog.varsNamed 11)) = true := by kernel_rfl
theorem chainTurn_j13 : ((Rows.chainTurnRow.maps == (Tryd.f11.params.toList ++ Rows.chainTurnSpec.plain.varTypes Tryd.prog).any (Tryd.prog.mapsRec ·))) = true := by kernel_rfl
theorem chainTurn_j14 : ((Rows.chainTurnRow.ifaces == (Tryd.f11.params.toList ++ Rows.chainTurnSpec.plain.varTypes Tryd.prog).any (Tryd.prog.ifacesRec ·))) = true := by kernel_rfl
theorem chainTurn_j15 : ((Rows.chainTurnRow.mapsOut == Tryd.prog.mapsAmong Tryd.f11.resultTypes.toList)) = true := by kernel_rfl
theorem chainTurn_j16 : ((Rows.chainTurnRow.loops == (Tryd.f11.params.toList ++ Rows.chainTurnSpec.plain.varTypes Tryd.prog).any (Tryd.prog.loopsFrom ·))) = true := by kernel_rfl
theorem chainTurn_j17 : ((Rows.chainTurnRow.wideKeys == (Tryd.f11.params.toList ++ Rows.chainTurnSpec.plain.varTypes Tryd.prog ++ Tryd.f11.resultTypes.toList).any (Tryd.prog.wideKeysFrom ·))) = true := by kernel_rfl
theorem chainTurn_j18 : (Rows.chainTurnSpec.vars.all (Tryd.prog.varReadable ·)) = true := by kernel_rfl
theorem chainTurn_j19 : (Tryd.f11.resultTypes.all (fun t => Tryd.prog.readableRec t && decide (t < Tryd.prog.types.size))) = true := by kernel_rfl
theorem chainTurn_j20 : ((Rows.chainTurnRow.ifacesOut == Tryd.f11.resultTypes.toList.any (Tryd.prog.ifacesRec ·))) = true := by kernel_rfl
theorem chainTurn_j21 : ((Rows.chainTurnRow.loopsOut == Tryd.f11.resultTypes.toList.any (Tryd.prog.loopsFrom ·))) = true := by kernel_rfl
theorem chainTurn_j22 : ((Rows.chainTurnRow.plainKeys == Tryd.prog.plainKeys)) = true := by kernel_rfl
theorem chainTurn_j23 : (Rows.chainTurnRow.shortTexts.isNone) = true := by kernel_rfl
theorem chainTurn_j24 : (Tryd.prog.stopsHeard) = true := by kernel_rfl
theorem chainTurn_j25 : (Tryd.prog.mayEnter) = true := by kernel_rfl
theorem chainTurn_j26 : ((Rows.chainTurnRow.lifted == Tryd.prog.liftsFinal)) = true := by kernel_rfl
theorem chainTurn_j27 : ((Tryd.prog.make == some Rows.chainTurnRow.make)) = true := by kernel_rfl
theorem chainTurn_j28 : ((Rows.chainTurnRow.kinds == (if Rows.chainTurnRow.domain.isEmpty then [] else Tryd.f11.params.toList.map fun t => match Tryd.prog.underlying t with | some (.int k) => some k | _ => none))) = true := by kernel_rfl
theorem chainTurn_j29 : ((Rows.chainTurnRow.pinned == Rows.chainTurnRow.pinnedBy)) = true := by kernel_rfl
theorem chainTurn_j30 : ((Rows.chainTurnRow.veiled == (Tryd.f11.params.toList ++ Rows.chainTurnSpec.plain.varTypes Tryd.prog ++ Tryd.f11.resultTypes.toList).any (Tryd.prog.veiledRec ·))) = true := by kernel_rfl
theorem chainTurn_j31 : (Rows.chainTurnRow.veiledFits Tryd.prog Tryd.f11.params.toList (Tryd.f11.params.toList ++ Rows.chainTurnSpec.plain.varTypes Tryd.prog ++ Tryd.f11.resultTypes.toList)) = true := by kernel_rfl
theorem chainTurn_facts : joinedFacts Tryd.pinned.checked.prog 11 Tryd.f11 (OpenSpec.ofChange Rows.chainTurnSpec).bare Rows.chainTurnRow = true := by
  have h : joinedFacts Tryd.prog 11 Tryd.f11 Rows.chainTurnSpec Rows.chainTurnRow = true := by
    simp only [joinedFacts, Bool.and_eq_true]
    exact ⟨⟨⟨⟨⟨⟨⟨⟨⟨⟨⟨⟨⟨⟨⟨⟨⟨⟨⟨⟨⟨⟨⟨⟨⟨⟨⟨⟨⟨⟨⟨chainTurn_j0, chainTurn_j1⟩, chainTurn_j2⟩, chainTurn_j3⟩, chainTurn_j4⟩, chainTurn_j5⟩, chainTurn_j6⟩, chainTurn_j7⟩, chainTurn_j8⟩, chainTurn_j9⟩, chainTurn_j10⟩, chainTurn_j11⟩, chainTurn_j12⟩, chainTurn_j13⟩, chainTurn_j14⟩, chainTurn_j15⟩, chainTurn_j16⟩, chainTurn_j17⟩, chainTurn_j18⟩, chainTurn_j19⟩, chainTurn_j20⟩, chainTurn_j21⟩, chainTurn_j22⟩, chainTurn_j23⟩, chainTurn_j24⟩, chainTurn_j25⟩, chainTurn_j26⟩, chainTurn_j27⟩, chainTurn_j28⟩, chainTurn_j29⟩, chainTurn_j30⟩, chainTurn_j31⟩
  exact h
end Go.Di

