/- Part 27: an interpreter over plain data for this code, with the proof that it says what the model does, and the contracts of the functions. No condition. -/
import Derived.Test.YtfkmodcjddfeiaaDoorDi26
set_option linter.unusedVariables false
set_option linter.unusedSimpArgs false
set_option maxRecDepth 100000
namespace Go.Di
open Go.RowKit Go.ChangeShapes Go.WideShapes Go.Deep Go.ChangeAt Go.Proofs
open Go.Proofs.YtfkmodcjddfeiaaDoor
theorem chainThins_j0 : (Rows.chainThinsRow.wf (OpenSpec.ofChange Rows.chainThinsSpec)) = true := by kernel_rfl
theorem chainThins_j1 : (laidOutB Tryd.prog) = true := by kernel_rfl
theorem chainThins_j2 : (mapsRowed Tryd.prog) = true := by kernel_rfl
theorem chainThins_j3 : (Tryd.f4.params.all (Tryd.prog.readableRec ·)) = true := by kernel_rfl
theorem chainThins_j4 : (namedTie Tryd.prog Rows.chainThinsRow.named Rows.chainThinsSpec.vars) = true := by kernel_rfl
theorem chainThins_j5 : ((Rows.chainThinsRow.stops == [])) = true := by kernel_rfl
theorem chainThins_j6 : ((Tryd.prog.stops == [])) = true := by kernel_rfl
theorem chainThins_j7 : ((Rows.chainThinsRow.knobs == [])) = true := by kernel_rfl
theorem chainThins_j8 : ((Tryd.prog.stopKnobs == [])) = true := by kernel_rfl
theorem chainThins_j9 : ((Rows.chainThinsRow.inPlace == Tryd.prog.inPlace 4)) = true := by kernel_rfl
theorem chainThins_j10 : ((Rows.chainThinsRow.unfollowed == Tryd.prog.unfollowed 4)) = true := by kernel_rfl
theorem chainThins_j11 : ((Rows.chainThinsRow.recurses == Tryd.prog.recurses 4)) = true := by kernel_rfl
theorem chainThins_j12 : ((Rows.chainThinsRow.named == Tryd.prog.varsNamed 4)) = true := by kernel_rfl
theorem chainThins_j13 : ((Rows.chainThinsRow.maps == (Tryd.f4.params.toList ++ Rows.chainThinsSpec.plain.varTypes Tryd.prog).any (Tryd.prog.mapsRec ·))) = true := by kernel_rfl
theorem chainThins_j14 : ((Rows.chainThinsRow.ifaces == (Tryd.f4.params.toList ++ Rows.chainThinsSpec.plain.varTypes Tryd.prog).any (Tryd.prog.ifacesRec ·))) = true := by kernel_rfl
theorem chainThins_j15 : ((Rows.chainThinsRow.mapsOut == Tryd.prog.mapsAmong Tryd.f4.resultTypes.toList)) = true := by kernel_rfl
theorem chainThins_j16 : ((Rows.chainThinsRow.loops == (Tryd.f4.params.toList ++ Rows.chainThinsSpec.plain.varTypes Tryd.prog).any (Tryd.prog.loopsFrom ·))) = true := by kernel_rfl
theorem chainThins_j17 : ((Rows.chainThinsRow.wideKeys == (Tryd.f4.params.toList ++ Rows.chainThinsSpec.plain.varTypes Tryd.prog ++ Tryd.f4.resultTypes.toList).any (Tryd.prog.wideKeysFrom ·))) = true := by kernel_rfl
theorem chainThins_j18 : (Rows.chainThinsSpec.vars.all (Tryd.prog.varReadable ·)) = true := by kernel_rfl
theorem chainThins_j19 : (Tryd.f4.resultTypes.all (fun t => Tryd.prog.readableRec t && decide (t < Tryd.prog.types.size))) = true := by kernel_rfl
theorem chainThins_j20 : ((Rows.chainThinsRow.ifacesOut == Tryd.f4.resultTypes.toList.any (Tryd.prog.ifacesRec ·))) = true := by kernel_rfl
theorem chainThins_j21 : ((Rows.chainThinsRow.loopsOut == Tryd.f4.resultTypes.toList.any (Tryd.prog.loopsFrom ·))) = true := by kernel_rfl
theorem chainThins_j22 : ((Rows.chainThinsRow.plainKeys == Tryd.prog.plainKeys)) = true := by kernel_rfl
theorem chainThins_j23 : (Rows.chainThinsRow.shortTexts.isNone) = true := by kernel_rfl
theorem chainThins_j24 : (Tryd.prog.stopsHeard) = true := by kernel_rfl
theorem chainThins_j25 : (Tryd.prog.mayEnter) = true := by kernel_rfl
theorem chainThins_j26 : ((Rows.chainThinsRow.lifted == Tryd.prog.liftsFinal)) = true := by kernel_rfl
theorem chainThins_j27 : ((Tryd.prog.make == some Rows.chainThinsRow.make)) = true := by kernel_rfl
theorem chainThins_j28 : ((Rows.chainThinsRow.kinds == (if Rows.chainThinsRow.domain.isEmpty then [] else Tryd.f4.params.toList.map fun t => match Tryd.prog.underlying t with | some (.int k) => some k | _ => none))) = true := by kernel_rfl
theorem chainThins_j29 : ((Rows.chainThinsRow.pinned == Rows.chainThinsRow.pinnedBy)) = true := by kernel_rfl
theorem chainThins_j30 : ((Rows.chainThinsRow.veiled == (Tryd.f4.params.toList ++ Rows.chainThinsSpec.plain.varTypes Tryd.prog ++ Tryd.f4.resultTypes.toList).any (Tryd.prog.veiledRec ·))) = true := by kernel_rfl
theorem chainThins_j31 : (Rows.chainThinsRow.veiledFits Tryd.prog Tryd.f4.params.toList (Tryd.f4.params.toList ++ Rows.chainThinsSpec.plain.varTypes Tryd.prog ++ Tryd.f4.resultTypes.toList)) = true := by kernel_rfl
theorem chainThins_facts : joinedFacts Tryd.pinned.checked.prog 4 Tryd.f4 (OpenSpec.ofChange Rows.chainThinsSpec).bare Rows.chainThinsRow = true := by
  have h : joinedFacts Tryd.prog 4 Tryd.f4 Rows.chainThinsSpec Rows.chainThinsRow = true := by
    simp only [joinedFacts, Bool.and_eq_true]
    exact ⟨⟨⟨⟨⟨⟨⟨⟨⟨⟨⟨⟨⟨⟨⟨⟨⟨⟨⟨⟨⟨⟨⟨⟨⟨⟨⟨⟨⟨⟨⟨chainThins_j0, chainThins_j1⟩, chainThins_j2⟩, chainThins_j3⟩, chainThins_j4⟩, chainThins_j5⟩, chainThins_j6⟩, chainThins_j7⟩, chainThins_j8⟩, chainThins_j9⟩, chainThins_j10⟩, chainThins_j11⟩, chainThins_j12⟩, chainThins_j13⟩, chainThins_j14⟩, chainThins_j15⟩, chainThins_j16⟩, chainThins_j17⟩, chainThins_j18⟩, chainThins_j19⟩, chainThins_j20⟩, chainThins_j21⟩, chainThins_j22⟩, chainThins_j23⟩, chainThins_j24⟩, chainThins_j25⟩, chainThins_j26⟩, chainThins_j27⟩, chainThins_j28⟩, chainThins_j29⟩, chainThins_j30⟩, chainThins_j31⟩
  exact h
end Go.Di

