/- Part 30: an interpreter over plain data for this code, with the proof that it says what the model does, and the contracts of the functions. No condition. -/
import Derived.Test.YtfkmodcjddfeiaaDoorDi29
set_option linter.unusedVariables false
set_option linter.unusedSimpArgs false
set_option maxRecDepth 100000
namespace Go.Di
open Proofs
open Go.RowKit Go.ChangeShapes Go.WideShapes Go.Deep Go.ChangeAt Go.Proofs
open Go.Proofs.YtfkmodcjddfeiaaDoor
theorem topSpare_j0 : (Rows.topSpareRow.wf (OpenSpec.ofChange Rows.topSpareSpec)) = true := by kernel_rfl
theorem topSpare_j1 : (laidOutB Tryd.prog) = true := by kernel_rfl
theorem topSpare_j2 : (mapsRowed Tryd.prog) = true := by kernel_rfl
theorem topSpare_j3 : (Tryd.f26.params.all (Tryd.prog.readableRec ·)) = true := by kernel_rfl
theorem topSpare_j4 : (namedTie Tryd.prog Rows.topSpareRow.named Rows.topSpareSpec.vars) = true := by kernel_rfl
theorem topSpare_j5 : ((Rows.topSpareRow.stops == [])) = true := by kernel_rfl
theorem topSpare_j6 : ((Tryd.prog.stops == [])) = true := by kernel_rfl
theorem topSpare_j7 : ((Rows.topSpareRow.knobs == [])) = true := by kernel_rfl
theorem topSpare_j8 : ((Tryd.prog.stopKnobs == [])) = true := by kernel_rfl
theorem topSpare_j9 : ((Rows.topSpareRow.inPlace == Tryd.prog.inPlace 26)) = true := by kernel_rfl
theorem topSpare_j10 : ((Rows.topSpareRow.unfollowed == Tryd.prog.unfollowed 26)) = true := by kernel_rfl
theorem topSpare_j11 : ((Rows.topSpareRow.recurses == Tryd.prog.recurses 26)) = true := by kernel_rfl
theorem topSpare_j12 : ((Rows.topSpareRow.named == Tryd.prog.varsNamed 26)) = true := by kernel_rfl
theorem topSpare_j13 : ((Rows.topSpareRow.maps == (Tryd.f26.params.toList ++ Rows.topSpareSpec.plain.varTypes Tryd.prog).any (Tryd.prog.mapsRec ·))) = true := by kernel_rfl
theorem topSpare_j14 : ((Rows.topSpareRow.ifaces == (Tryd.f26.params.toList ++ Rows.topSpareSpec.plain.varTypes Tryd.prog).any (Tryd.prog.ifacesRec ·))) = true := by kernel_rfl
theorem topSpare_j15 : ((Rows.topSpareRow.mapsOut == Tryd.prog.mapsAmong Tryd.f26.resultTypes.toList)) = true := by kernel_rfl
theorem topSpare_j16 : ((Rows.topSpareRow.loops == (Tryd.f26.params.toList ++ Rows.topSpareSpec.plain.varTypes Tryd.prog).any (Tryd.prog.loopsFrom ·))) = true := by kernel_rfl
theorem topSpare_j17 : ((Rows.topSpareRow.wideKeys == (Tryd.f26.params.toList ++ Rows.topSpareSpec.plain.varTypes Tryd.prog ++ Tryd.f26.resultTypes.toList).any (Tryd.prog.wideKeysFrom ·))) = true := by kernel_rfl
theorem topSpare_j18 : (Rows.topSpareSpec.vars.all (Tryd.prog.varReadable ·)) = true := by kernel_rfl
theorem topSpare_j19 : (Tryd.f26.resultTypes.all (fun t => Tryd.prog.readableRec t && decide (t < Tryd.prog.types.size))) = true := by kernel_rfl
theorem topSpare_j20 : ((Rows.topSpareRow.ifacesOut == Tryd.f26.resultTypes.toList.any (Tryd.prog.ifacesRec ·))) = true := by kernel_rfl
theorem topSpare_j21 : ((Rows.topSpareRow.loopsOut == Tryd.f26.resultTypes.toList.any (Tryd.prog.loopsFrom ·))) = true := by kernel_rfl
theorem topSpare_j22 : ((Rows.topSpareRow.plainKeys == Tryd.prog.plainKeys)) = true := by kernel_rfl
theorem topSpare_j23 : (Rows.topSpareRow.shortTexts.isNone) = true := by kernel_rfl
theorem topSpare_j24 : (Tryd.prog.stopsHeard) = true := by kernel_rfl
theorem topSpare_j25 : (Tryd.prog.mayEnter) = true := by kernel_rfl
theorem topSpare_j26 : ((Rows.topSpareRow.lifted == Tryd.prog.liftsFinal)) = true := by kernel_rfl
theorem topSpare_j27 : ((Tryd.prog.make == some Rows.topSpareRow.make)) = true := by kernel_rfl
theorem topSpare_j28 : ((Rows.topSpareRow.kinds == (if Rows.topSpareRow.domain.isEmpty then [] else Tryd.f26.params.toList.map fun t => match Tryd.prog.underlying t with | some (.int k) => some k | _ => none))) = true := by kernel_rfl
theorem topSpare_j29 : ((Rows.topSpareRow.pinned == Rows.topSpareRow.pinnedBy)) = true := by kernel_rfl
theorem topSpare_j30 : ((Rows.topSpareRow.veiled == (Tryd.f26.params.toList ++ Rows.topSpareSpec.plain.varTypes Tryd.prog ++ Tryd.f26.resultTypes.toList).any (Tryd.prog.veiledRec ·))) = true := by kernel_rfl
theorem topSpare_j31 : (Rows.topSpareRow.veiledFits Tryd.prog Tryd.f26.params.toList (Tryd.f26.params.toList ++ Rows.topSpareSpec.plain.varTypes Tryd.prog ++ Tryd.f26.resultTypes.toList)) = true := by kernel_rfl
theorem topSpare_facts : joinedFacts Tryd.pinned.checked.prog 26 Tryd.f26 (OpenSpec.ofChange Rows.topSpareSpec).bare Rows.topSpareRow = true := by
 have h : joinedFacts Tryd.prog 26 Tryd.f26 Rows.topSpareSpec Rows.topSpareRow = true := by
  simp only [joinedFacts,Bool.and_eq_true]
  exact ⟨⟨⟨⟨⟨⟨⟨⟨⟨⟨⟨⟨⟨⟨⟨⟨⟨⟨⟨⟨⟨⟨⟨⟨⟨⟨⟨⟨⟨⟨⟨topSpare_j0,topSpare_j1⟩,topSpare_j2⟩,topSpare_j3⟩,topSpare_j4⟩,topSpare_j5⟩,topSpare_j6⟩,topSpare_j7⟩,topSpare_j8⟩,topSpare_j9⟩,topSpare_j10⟩,topSpare_j11⟩,topSpare_j12⟩,topSpare_j13⟩,topSpare_j14⟩,topSpare_j15⟩,topSpare_j16⟩,topSpare_j17⟩,topSpare_j18⟩,topSpare_j19⟩,topSpare_j20⟩,topSpare_j21⟩,topSpare_j22⟩,topSpare_j23⟩,topSpare_j24⟩,topSpare_j25⟩,topSpare_j26⟩,topSpare_j27⟩,topSpare_j28⟩,topSpare_j29⟩,topSpare_j30⟩,topSpare_j31⟩
 exact h
end Go.Di

