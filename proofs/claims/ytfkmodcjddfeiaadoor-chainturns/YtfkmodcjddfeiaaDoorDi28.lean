/- Part 28: an interpreter over plain data for this code, with the proof that it says what the model does, and the contracts of the functions. No condition. -/
import Derived.Test.YtfkmodcjddfeiaaDoorDi27
set_option linter.unusedVariables false
set_option linter.unusedSimpArgs false
set_option maxRecDepth 100000
namespace Go.Di
open Go.RowKit Go.ChangeShapes Go.WideShapes Go.Deep Go.ChangeAt Go.Proofs
open Go.Proofs.YtfkmodcjddfeiaaDoor
theorem chainTurns_j0 : (Rows.chainTurnsRow.wf (OpenSpec.ofChange Rows.chainTurnsSpec)) = true := by kernel_rfl
theorem chainTurns_j1 : (laidOutB Tryd.prog) = true := by kernel_rfl
theorem chainTurns_j2 : (mapsRowed Tryd.prog) = true := by kernel_rfl
theorem chainTurns_j3 : (Tryd.f5.params.all (Tryd.prog.readableRec ·)) = true := by kernel_rfl
theorem chainTurns_j4 : (namedTie Tryd.prog Rows.chainTurnsRow.named Rows.chainTurnsSpec.vars) = true := by kernel_rfl
theorem chainTurns_j5 : ((Rows.chainTurnsRow.stops == [])) = true := by kernel_rfl
theorem chainTurns_j6 : ((Tryd.prog.stops == [])) = true := by kernel_rfl
theorem chainTurns_j7 : ((Rows.chainTurnsRow.knobs == [])) = true := by kernel_rfl
theorem chainTurns_j8 : ((Tryd.prog.stopKnobs == [])) = true := by kernel_rfl
theorem chainTurns_j9 : ((Rows.chainTurnsRow.inPlace == Tryd.prog.inPlace 5)) = true := by kernel_rfl
theorem chainTurns_j10 : ((Rows.chainTurnsRow.unfollowed == Tryd.prog.unfollowed 5)) = true := by kernel_rfl
theorem chainTurns_j11 : ((Rows.chainTurnsRow.recurses == Tryd.prog.recurses 5)) = true := by kernel_rfl
theorem chainTurns_j12 : ((Rows.chainTurnsRow.named == Tryd.prog.varsNamed 5)) = true := by kernel_rfl
theorem chainTurns_j13 : ((Rows.chainTurnsRow.maps == (Tryd.f5.params.toList ++ Rows.chainTurnsSpec.plain.varTypes Tryd.prog).any (Tryd.prog.mapsRec ·))) = true := by kernel_rfl
theorem chainTurns_j14 : ((Rows.chainTurnsRow.ifaces == (Tryd.f5.params.toList ++ Rows.chainTurnsSpec.plain.varTypes Tryd.prog).any (Tryd.prog.ifacesRec ·))) = true := by kernel_rfl
theorem chainTurns_j15 : ((Rows.chainTurnsRow.mapsOut == Tryd.prog.mapsAmong Tryd.f5.resultTypes.toList)) = true := by kernel_rfl
theorem chainTurns_j16 : ((Rows.chainTurnsRow.loops == (Tryd.f5.params.toList ++ Rows.chainTurnsSpec.plain.varTypes Tryd.prog).any (Tryd.prog.loopsFrom ·))) = true := by kernel_rfl
theorem chainTurns_j17 : ((Rows.chainTurnsRow.wideKeys == (Tryd.f5.params.toList ++ Rows.chainTurnsSpec.plain.varTypes Tryd.prog ++ Tryd.f5.resultTypes.toList).any (Tryd.prog.wideKeysFrom ·))) = true := by kernel_rfl
theorem chainTurns_j18 : (Rows.chainTurnsSpec.vars.all (Tryd.prog.varReadable ·)) = true := by kernel_rfl
theorem chainTurns_j19 : (Tryd.f5.resultTypes.all (fun t => Tryd.prog.readableRec t && decide (t < Tryd.prog.types.size))) = true := by kernel_rfl
theorem chainTurns_j20 : ((Rows.chainTurnsRow.ifacesOut == Tryd.f5.resultTypes.toList.any (Tryd.prog.ifacesRec ·))) = true := by kernel_rfl
theorem chainTurns_j21 : ((Rows.chainTurnsRow.loopsOut == Tryd.f5.resultTypes.toList.any (Tryd.prog.loopsFrom ·))) = true := by kernel_rfl
theorem chainTurns_j22 : ((Rows.chainTurnsRow.plainKeys == Tryd.prog.plainKeys)) = true := by kernel_rfl
theorem chainTurns_j23 : (Rows.chainTurnsRow.shortTexts.isNone) = true := by kernel_rfl
theorem chainTurns_j24 : (Tryd.prog.stopsHeard) = true := by kernel_rfl
theorem chainTurns_j25 : (Tryd.prog.mayEnter) = true := by kernel_rfl
theorem chainTurns_j26 : ((Rows.chainTurnsRow.lifted == Tryd.prog.liftsFinal)) = true := by kernel_rfl
theorem chainTurns_j27 : ((Tryd.prog.make == some Rows.chainTurnsRow.make)) = true := by kernel_rfl
theorem chainTurns_j28 : ((Rows.chainTurnsRow.kinds == (if Rows.chainTurnsRow.domain.isEmpty then [] else Tryd.f5.params.toList.map fun t => match Tryd.prog.underlying t with | some (.int k) => some k | _ => none))) = true := by kernel_rfl
theorem chainTurns_j29 : ((Rows.chainTurnsRow.pinned == Rows.chainTurnsRow.pinnedBy)) = true := by kernel_rfl
theorem chainTurns_j30 : ((Rows.chainTurnsRow.veiled == (Tryd.f5.params.toList ++ Rows.chainTurnsSpec.plain.varTypes Tryd.prog ++ Tryd.f5.resultTypes.toList).any (Tryd.prog.veiledRec ·))) = true := by kernel_rfl
theorem chainTurns_j31 : (Rows.chainTurnsRow.veiledFits Tryd.prog Tryd.f5.params.toList (Tryd.f5.params.toList ++ Rows.chainTurnsSpec.plain.varTypes Tryd.prog ++ Tryd.f5.resultTypes.toList)) = true := by kernel_rfl
theorem chainTurns_facts : joinedFacts Tryd.pinned.checked.prog 5 Tryd.f5 (OpenSpec.ofChange Rows.chainTurnsSpec).bare Rows.chainTurnsRow = true := by
 have h : joinedFacts Tryd.prog 5 Tryd.f5 Rows.chainTurnsSpec Rows.chainTurnsRow = true := by
  simp only [joinedFacts, Bool.and_eq_true]
  exact ⟨⟨⟨⟨⟨⟨⟨⟨⟨⟨⟨⟨⟨⟨⟨⟨⟨⟨⟨⟨⟨⟨⟨⟨⟨⟨⟨⟨⟨⟨⟨chainTurns_j0, chainTurns_j1⟩, chainTurns_j2⟩, chainTurns_j3⟩, chainTurns_j4⟩, chainTurns_j5⟩, chainTurns_j6⟩, chainTurns_j7⟩, chainTurns_j8⟩, chainTurns_j9⟩, chainTurns_j10⟩, chainTurns_j11⟩, chainTurns_j12⟩, chainTurns_j13⟩, chainTurns_j14⟩, chainTurns_j15⟩, chainTurns_j16⟩, chainTurns_j17⟩, chainTurns_j18⟩, chainTurns_j19⟩, chainTurns_j20⟩, chainTurns_j21⟩, chainTurns_j22⟩, chainTurns_j23⟩, chainTurns_j24⟩, chainTurns_j25⟩, chainTurns_j26⟩, chainTurns_j27⟩, chainTurns_j28⟩, chainTurns_j29⟩, chainTurns_j30⟩, chainTurns_j31⟩
 exact h
end Go.Di

