/- Part 24: an interpreter over plain data for this code, with the proof that it says what the model does, and the contracts of the functions. No condition. -/
import Derived.Test.YtfkmodcjddfeiaaDoorDi23
set_option linter.unusedVariables false
set_option linter.unusedSimpArgs false
set_option maxRecDepth 100000
namespace Go.Di
open Go.RowKit Go.ChangeShapes Go.WideShapes Go.Deep Go.ChangeAt Go.Proofs
open Go.Proofs.YtfkmodcjddfeiaaDoor
theorem chainKnown_j0 : (Rows.chainKnownRow.wf (OpenSpec.ofChange Rows.chainKnownSpec)) = true := by kernel_rfl
theorem chainKnown_j1 : (laidOutB Tryd.prog) = true := by kernel_rfl
theorem chainKnown_j2 : (mapsRowed Tryd.prog) = true := by kernel_rfl
theorem chainKnown_j3 : (Tryd.f14.params.all (Tryd.prog.readableRec ·)) = true := by kernel_rfl
theorem chainKnown_j4 : (namedTie Tryd.prog Rows.chainKnownRow.named Rows.chainKnownSpec.vars) = true := by kernel_rfl
theorem chainKnown_j5 : ((Rows.chainKnownRow.stops == [])) = true := by kernel_rfl
theorem chainKnown_j6 : ((Tryd.prog.stops == [])) = true := by kernel_rfl
theorem chainKnown_j7 : ((Rows.chainKnownRow.knobs == [])) = true := by kernel_rfl
theorem chainKnown_j8 : ((Tryd.prog.stopKnobs == [])) = true := by kernel_rfl
theorem chainKnown_j9 : ((Rows.chainKnownRow.inPlace == Tryd.prog.inPlace 14)) = true := by kernel_rfl
theorem chainKnown_j10 : ((Rows.chainKnownRow.unfollowed == Tryd.prog.unfollowed 14)) = true := by kernel_rfl
theorem chainKnown_j11 : ((Rows.chainKnownRow.recurses == Tryd.prog.recurses 14)) = true := by kernel_rfl
theorem chainKnown_j12 : ((Rows.chainKnownRow.named == Tryd.prog.varsNamed 14)) = true := by kernel_rfl
theorem chainKnown_j13 : ((Rows.chainKnownRow.maps == (Tryd.f14.params.toList ++ Rows.chainKnownSpec.plain.varTypes Tryd.prog).any (Tryd.prog.mapsRec ·))) = true := by kernel_rfl
theorem chainKnown_j14 : ((Rows.chainKnownRow.ifaces == (Tryd.f14.params.toList ++ Rows.chainKnownSpec.plain.varTypes Tryd.prog).any (Tryd.prog.ifacesRec ·))) = true := by kernel_rfl
theorem chainKnown_j15 : ((Rows.chainKnownRow.mapsOut == Tryd.prog.mapsAmong Tryd.f14.resultTypes.toList)) = true := by kernel_rfl
theorem chainKnown_j16 : ((Rows.chainKnownRow.loops == (Tryd.f14.params.toList ++ Rows.chainKnownSpec.plain.varTypes Tryd.prog).any (Tryd.prog.loopsFrom ·))) = true := by kernel_rfl
theorem chainKnown_j17 : ((Rows.chainKnownRow.wideKeys == (Tryd.f14.params.toList ++ Rows.chainKnownSpec.plain.varTypes Tryd.prog ++ Tryd.f14.resultTypes.toList).any (Tryd.prog.wideKeysFrom ·))) = true := by kernel_rfl
theorem chainKnown_j18 : (Rows.chainKnownSpec.vars.all (Tryd.prog.varReadable ·)) = true := by kernel_rfl
theorem chainKnown_j19 : (Tryd.f14.resultTypes.all (fun t => Tryd.prog.readableRec t && decide (t < Tryd.prog.types.size))) = true := by kernel_rfl
theorem chainKnown_j20 : ((Rows.chainKnownRow.ifacesOut == Tryd.f14.resultTypes.toList.any (Tryd.prog.ifacesRec ·))) = true := by kernel_rfl
theorem chainKnown_j21 : ((Rows.chainKnownRow.loopsOut == Tryd.f14.resultTypes.toList.any (Tryd.prog.loopsFrom ·))) = true := by kernel_rfl
theorem chainKnown_j22 : ((Rows.chainKnownRow.plainKeys == Tryd.prog.plainKeys)) = true := by kernel_rfl
theorem chainKnown_j23 : (Rows.chainKnownRow.shortTexts.isNone) = true := by kernel_rfl
theorem chainKnown_j24 : (Tryd.prog.stopsHeard) = true := by kernel_rfl
theorem chainKnown_j25 : (Tryd.prog.mayEnter) = true := by kernel_rfl
theorem chainKnown_j26 : ((Rows.chainKnownRow.lifted == Tryd.prog.liftsFinal)) = true := by kernel_rfl
theorem chainKnown_j27 : ((Tryd.prog.make == some Rows.chainKnownRow.make)) = true := by kernel_rfl
theorem chainKnown_j28 : ((Rows.chainKnownRow.kinds == (if Rows.chainKnownRow.domain.isEmpty then [] else Tryd.f14.params.toList.map fun t => match Tryd.prog.underlying t with | some (.int k) => some k | _ => none))) = true := by kernel_rfl
theorem chainKnown_j29 : ((Rows.chainKnownRow.pinned == Rows.chainKnownRow.pinnedBy)) = true := by kernel_rfl
theorem chainKnown_j30 : ((Rows.chainKnownRow.veiled == (Tryd.f14.params.toList ++ Rows.chainKnownSpec.plain.varTypes Tryd.prog ++ Tryd.f14.resultTypes.toList).any (Tryd.prog.veiledRec ·))) = true := by kernel_rfl
theorem chainKnown_j31 : (Rows.chainKnownRow.veiledFits Tryd.prog Tryd.f14.params.toList (Tryd.f14.params.toList ++ Rows.chainKnownSpec.plain.varTypes Tryd.prog ++ Tryd.f14.resultTypes.toList)) = true := by kernel_rfl
theorem chainKnown_facts : joinedFacts Tryd.pinned.checked.prog 14 Tryd.f14 (OpenSpec.ofChange Rows.chainKnownSpec).bare Rows.chainKnownRow = true := by
  have h : joinedFacts Tryd.prog 14 Tryd.f14 Rows.chainKnownSpec Rows.chainKnownRow = true := by
    simp only [joinedFacts, Bool.and_eq_true]
    exact ⟨⟨⟨⟨⟨⟨⟨⟨⟨⟨⟨⟨⟨⟨⟨⟨⟨⟨⟨⟨⟨⟨⟨⟨⟨⟨⟨⟨⟨⟨⟨chainKnown_j0, chainKnown_j1⟩, chainKnown_j2⟩, chainKnown_j3⟩, chainKnown_j4⟩, chainKnown_j5⟩, chainKnown_j6⟩, chainKnown_j7⟩, chainKnown_j8⟩, chainKnown_j9⟩, chainKnown_j10⟩, chainKnown_j11⟩, chainKnown_j12⟩, chainKnown_j13⟩, chainKnown_j14⟩, chainKnown_j15⟩, chainKnown_j16⟩, chainKnown_j17⟩, chainKnown_j18⟩, chainKnown_j19⟩, chainKnown_j20⟩, chainKnown_j21⟩, chainKnown_j22⟩, chainKnown_j23⟩, chainKnown_j24⟩, chainKnown_j25⟩, chainKnown_j26⟩, chainKnown_j27⟩, chainKnown_j28⟩, chainKnown_j29⟩, chainKnown_j30⟩, chainKnown_j31⟩
  exact h
end Go.Di

