/- Part 31: an interpreter over plain data for this code, with the proof that it says what the model does, and the contracts of the functions. No condition. -/
import Derived.Test.YtfkmodcjddfeiaaDoorDi30
set_option linter.unusedVariables false
set_option linter.unusedSimpArgs false
set_option maxRecDepth 100000
namespace Go.Di
open Go.RowKit Go.ChangeShapes Go.WideShapes Go.Deep Go.ChangeAt Go.Proofs
open Go.Proofs.YtfkmodcjddfeiaaDoor
theorem forgeStock_j0 : (Rows.forgeStockRow.wf (OpenSpec.ofChange Rows.forgeStockSpec)) = true := by kernel_rfl
theorem forgeStock_j1 : (laidOutB Tryd.prog) = true := by kernel_rfl
theorem forgeStock_j2 : (mapsRowed Tryd.prog) = true := by kernel_rfl
theorem forgeStock_j3 : (Tryd.f21.params.all (Tryd.prog.readableRec ·)) = true := by kernel_rfl
theorem forgeStock_j4 : (namedTie Tryd.prog Rows.forgeStockRow.named Rows.forgeStockSpec.vars) = true := by kernel_rfl
theorem forgeStock_j5 : ((Rows.forgeStockRow.stops == [])) = true := by kernel_rfl
theorem forgeStock_j6 : ((Tryd.prog.stops == [])) = true := by kernel_rfl
theorem forgeStock_j7 : ((Rows.forgeStockRow.knobs == [])) = true := by kernel_rfl
theorem forgeStock_j8 : ((Tryd.prog.stopKnobs == [])) = true := by kernel_rfl
theorem forgeStock_j9 : ((Rows.forgeStockRow.inPlace == Tryd.prog.inPlace 21)) = true := by kernel_rfl
theorem forgeStock_j10 : ((Rows.forgeStockRow.unfollowed == Tryd.prog.unfollowed 21)) = true := by kernel_rfl
theorem forgeStock_j11 : ((Rows.forgeStockRow.recurses == Tryd.prog.recurses 21)) = true := by kernel_rfl
theorem forgeStock_j12 : ((Rows.forgeStockRow.named == Tryd.prog.varsNamed 21)) = true := by kernel_rfl
theorem forgeStock_j13 : ((Rows.forgeStockRow.maps == (Tryd.f21.params.toList ++ Rows.forgeStockSpec.plain.varTypes Tryd.prog).any (Tryd.prog.mapsRec ·))) = true := by kernel_rfl
theorem forgeStock_j14 : ((Rows.forgeStockRow.ifaces == (Tryd.f21.params.toList ++ Rows.forgeStockSpec.plain.varTypes Tryd.prog).any (Tryd.prog.ifacesRec ·))) = true := by kernel_rfl
theorem forgeStock_j15 : ((Rows.forgeStockRow.mapsOut == Tryd.prog.mapsAmong Tryd.f21.resultTypes.toList)) = true := by kernel_rfl
theorem forgeStock_j16 : ((Rows.forgeStockRow.loops == (Tryd.f21.params.toList ++ Rows.forgeStockSpec.plain.varTypes Tryd.prog).any (Tryd.prog.loopsFrom ·))) = true := by kernel_rfl
theorem forgeStock_j17 : ((Rows.forgeStockRow.wideKeys == (Tryd.f21.params.toList ++ Rows.forgeStockSpec.plain.varTypes Tryd.prog ++ Tryd.f21.resultTypes.toList).any (Tryd.prog.wideKeysFrom ·))) = true := by kernel_rfl
theorem forgeStock_j18 : (Rows.forgeStockSpec.vars.all (Tryd.prog.varReadable ·)) = true := by kernel_rfl
theorem forgeStock_j19 : (Tryd.f21.resultTypes.all (fun t => Tryd.prog.readableRec t && decide (t < Tryd.prog.types.size))) = true := by kernel_rfl
theorem forgeStock_j20 : ((Rows.forgeStockRow.ifacesOut == Tryd.f21.resultTypes.toList.any (Tryd.prog.ifacesRec ·))) = true := by kernel_rfl
theorem forgeStock_j21 : ((Rows.forgeStockRow.loopsOut == Tryd.f21.resultTypes.toList.any (Tryd.prog.loopsFrom ·))) = true := by kernel_rfl
theorem forgeStock_j22 : ((Rows.forgeStockRow.plainKeys == Tryd.prog.plainKeys)) = true := by kernel_rfl
theorem forgeStock_j23 : (Rows.forgeStockRow.shortTexts.isNone) = true := by kernel_rfl
theorem forgeStock_j24 : (Tryd.prog.stopsHeard) = true := by kernel_rfl
theorem forgeStock_j25 : (Tryd.prog.mayEnter) = true := by kernel_rfl
theorem forgeStock_j26 : ((Rows.forgeStockRow.lifted == Tryd.prog.liftsFinal)) = true := by kernel_rfl
theorem forgeStock_j27 : ((Tryd.prog.make == some Rows.forgeStockRow.make)) = true := by kernel_rfl
theorem forgeStock_j28 : ((Rows.forgeStockRow.kinds == (if Rows.forgeStockRow.domain.isEmpty then [] else Tryd.f21.params.toList.map fun t => match Tryd.prog.underlying t with | some (.int k) => some k | _ => none))) = true := by kernel_rfl
theorem forgeStock_j29 : ((Rows.forgeStockRow.pinned == Rows.forgeStockRow.pinnedBy)) = true := by kernel_rfl
theorem forgeStock_j30 : ((Rows.forgeStockRow.veiled == (Tryd.f21.params.toList ++ Rows.forgeStockSpec.plain.varTypes Tryd.prog ++ Tryd.f21.resultTypes.toList).any (Tryd.prog.veiledRec ·))) = true := by kernel_rfl
theorem forgeStock_j31 : (Rows.forgeStockRow.veiledFits Tryd.prog Tryd.f21.params.toList (Tryd.f21.params.toList ++ Rows.forgeStockSpec.plain.varTypes Tryd.prog ++ Tryd.f21.resultTypes.toList)) = true := by kernel_rfl
theorem forgeStock_facts : joinedFacts Tryd.pinned.checked.prog 21 Tryd.f21 (OpenSpec.ofChange Rows.forgeStockSpec).bare Rows.forgeStockRow = true := by
 have h : joinedFacts Tryd.prog 21 Tryd.f21 Rows.forgeStockSpec Rows.forgeStockRow = true := by
  simp only [joinedFacts,Bool.and_eq_true]
  exact ⟨⟨⟨⟨⟨⟨⟨⟨⟨⟨⟨⟨⟨⟨⟨⟨⟨⟨⟨⟨⟨⟨⟨⟨⟨⟨⟨⟨⟨⟨⟨forgeStock_j0,forgeStock_j1⟩,forgeStock_j2⟩,forgeStock_j3⟩,forgeStock_j4⟩,forgeStock_j5⟩,forgeStock_j6⟩,forgeStock_j7⟩,forgeStock_j8⟩,forgeStock_j9⟩,forgeStock_j10⟩,forgeStock_j11⟩,forgeStock_j12⟩,forgeStock_j13⟩,forgeStock_j14⟩,forgeStock_j15⟩,forgeStock_j16⟩,forgeStock_j17⟩,forgeStock_j18⟩,forgeStock_j19⟩,forgeStock_j20⟩,forgeStock_j21⟩,forgeStock_j22⟩,forgeStock_j23⟩,forgeStock_j24⟩,forgeStock_j25⟩,forgeStock_j26⟩,forgeStock_j27⟩,forgeStock_j28⟩,forgeStock_j29⟩,forgeStock_j30⟩,forgeStock_j31⟩
 exact h
end Go.Di

