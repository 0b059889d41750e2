/- Part 22 of the proof of ChainFirstCardSaid: an interpreter over plain data for this code, with the proof that it says what the model does, and the contracts of the functions. No condition. -/
import Derived.Test.YtfkmodcjddfeiaaDoorDi21
set_option maxRecDepth 100000
namespace Go.Di
open Go.RowKit Go.ChangeShapes Go.WideShapes Go.Deep Go.ChangeAt Go.Proofs
open Go.Proofs.YtfkmodcjddfeiaaDoor

theorem chainFirst_j0 : (Rows.chainFirstRow.wf (OpenSpec.ofChange Rows.chainFirstSpec)) = true := by kernel_rfl
theorem chainFirst_j1 : (laidOutB Tryd.prog) = true := by kernel_rfl
theorem chainFirst_j2 : (mapsRowed Tryd.prog) = true := by kernel_rfl
theorem chainFirst_j3 : (Tryd.f9.params.all (Tryd.prog.readableRec ·)) = true := by kernel_rfl
theorem chainFirst_j4 : (namedTie Tryd.prog Rows.chainFirstRow.named Rows.chainFirstSpec.vars) = true := by kernel_rfl
theorem chainFirst_j5 : ((Rows.chainFirstRow.stops == [])) = true := by kernel_rfl
theorem chainFirst_j6 : ((Tryd.prog.stops == [])) = true := by kernel_rfl
theorem chainFirst_j7 : ((Rows.chainFirstRow.knobs == [])) = true := by kernel_rfl
theorem chainFirst_j8 : ((Tryd.prog.stopKnobs == [])) = true := by kernel_rfl
theorem chainFirst_j9 : ((Rows.chainFirstRow.inPlace == Tryd.prog.inPlace 9)) = true := by kernel_rfl
theorem chainFirst_j10 : ((Rows.chainFirstRow.unfollowed == Tryd.prog.unfollowed 9)) = true := by kernel_rfl
theorem chainFirst_j11 : ((Rows.chainFirstRow.recurses == Tryd.prog.recurses 9)) = true := by kernel_rfl
theorem chainFirst_j12 : ((Rows.chainFirstRow.named == Tryd.prog.varsNamed 9)) = true := by kernel_rfl
theorem chainFirst_j13 : ((Rows.chainFirstRow.maps == (Tryd.f9.params.toList ++ Rows.chainFirstSpec.plain.varTypes Tryd.prog).any (Tryd.prog.mapsRec ·))) = true := by kernel_rfl
theorem chainFirst_j14 : ((Rows.chainFirstRow.ifaces == (Tryd.f9.params.toList ++ Rows.chainFirstSpec.plain.varTypes Tryd.prog).any (Tryd.prog.ifacesRec ·))) = true := by kernel_rfl
theorem chainFirst_j15 : ((Rows.chainFirstRow.mapsOut == Tryd.prog.mapsAmong Tryd.f9.resultTypes.toList)) = true := by kernel_rfl
theorem chainFirst_j16 : ((Rows.chainFirstRow.loops == (Tryd.f9.params.toList ++ Rows.chainFirstSpec.plain.varTypes Tryd.prog).any (Tryd.prog.loopsFrom ·))) = true := by kernel_rfl
theorem chainFirst_j17 : ((Rows.chainFirstRow.wideKeys == (Tryd.f9.params.toList ++ Rows.chainFirstSpec.plain.varTypes Tryd.prog ++ Tryd.f9.resultTypes.toList).any (Tryd.prog.wideKeysFrom ·))) = true := by kernel_rfl
theorem chainFirst_j18 : (Rows.chainFirstSpec.vars.all (Tryd.prog.varReadable ·)) = true := by kernel_rfl
theorem chainFirst_j19 : (Tryd.f9.resultTypes.all (fun t => Tryd.prog.readableRec t && decide (t < Tryd.prog.types.size))) = true := by kernel_rfl
theorem chainFirst_j20 : ((Rows.chainFirstRow.ifacesOut == Tryd.f9.resultTypes.toList.any (Tryd.prog.ifacesRec ·))) = true := by kernel_rfl
theorem chainFirst_j21 : ((Rows.chainFirstRow.loopsOut == Tryd.f9.resultTypes.toList.any (Tryd.prog.loopsFrom ·))) = true := by kernel_rfl
theorem chainFirst_j22 : ((Rows.chainFirstRow.plainKeys == Tryd.prog.plainKeys)) = true := by kernel_rfl
theorem chainFirst_j23 : (Rows.chainFirstRow.shortTexts.isNone) = true := by kernel_rfl
theorem chainFirst_j24 : (Tryd.prog.stopsHeard) = true := by kernel_rfl
theorem chainFirst_j25 : (Tryd.prog.mayEnter) = true := by kernel_rfl
theorem chainFirst_j26 : ((Rows.chainFirstRow.lifted == Tryd.prog.liftsFinal)) = true := by kernel_rfl
theorem chainFirst_j27 : ((Tryd.prog.make == some Rows.chainFirstRow.make)) = true := by kernel_rfl
theorem chainFirst_j28 : ((Rows.chainFirstRow.kinds == (if Rows.chainFirstRow.domain.isEmpty then [] else Tryd.f9.params.toList.map fun t => match Tryd.prog.underlying t with | some (.int k) => some k | _ => none))) = true := by kernel_rfl
theorem chainFirst_j29 : ((Rows.chainFirstRow.pinned == Rows.chainFirstRow.pinnedBy)) = true := by kernel_rfl
theorem chainFirst_j30 : ((Rows.chainFirstRow.veiled == (Tryd.f9.params.toList ++ Rows.chainFirstSpec.plain.varTypes Tryd.prog ++ Tryd.f9.resultTypes.toList).any (Tryd.prog.veiledRec ·))) = true := by kernel_rfl
theorem chainFirst_j31 : (Rows.chainFirstRow.veiledFits Tryd.prog Tryd.f9.params.toList (Tryd.f9.params.toList ++ Rows.chainFirstSpec.plain.varTypes Tryd.prog ++ Tryd.f9.resultTypes.toList)) = true := by kernel_rfl
theorem chainFirst_facts : joinedFacts Tryd.pinned.checked.prog 9 Tryd.f9 (OpenSpec.ofChange Rows.chainFirstSpec).bare Rows.chainFirstRow = true := by
  have h : joinedFacts Tryd.prog 9 Tryd.f9 Rows.chainFirstSpec Rows.chainFirstRow = true := by
    simp only [joinedFacts, Bool.and_eq_true]
    exact ⟨⟨⟨⟨⟨⟨⟨⟨⟨⟨⟨⟨⟨⟨⟨⟨⟨⟨⟨⟨⟨⟨⟨⟨⟨⟨⟨⟨⟨⟨⟨chainFirst_j0, chainFirst_j1⟩, chainFirst_j2⟩, chainFirst_j3⟩, chainFirst_j4⟩, chainFirst_j5⟩, chainFirst_j6⟩, chainFirst_j7⟩, chainFirst_j8⟩, chainFirst_j9⟩, chainFirst_j10⟩, chainFirst_j11⟩, chainFirst_j12⟩, chainFirst_j13⟩, chainFirst_j14⟩, chainFirst_j15⟩, chainFirst_j16⟩, chainFirst_j17⟩, chainFirst_j18⟩, chainFirst_j19⟩, chainFirst_j20⟩, chainFirst_j21⟩, chainFirst_j22⟩, chainFirst_j23⟩, chainFirst_j24⟩, chainFirst_j25⟩, chainFirst_j26⟩, chainFirst_j27⟩, chainFirst_j28⟩, chainFirst_j29⟩, chainFirst_j30⟩, chainFirst_j31⟩
  exact h

end Go.Di

