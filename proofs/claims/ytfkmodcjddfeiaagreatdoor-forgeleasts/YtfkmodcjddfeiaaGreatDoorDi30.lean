/- Part 30: contracts are proved. No condition. -/
import Derived.Test.YtfkmodcjddfeiaaGreatDoorDi29
set_option linter.unusedVariables false
set_option linter.unusedSimpArgs false
set_option maxRecDepth 100000
namespace Go.Di
open Proofs
open Go.RowKit Go.ChangeShapes Go.WideShapes Go.Deep Go.ChangeAt Go.Proofs
open Go.Proofs.YtfkmodcjddfeiaaGreatDoor
theorem forgeLeasts_j0:(Rows.forgeLeastsRow.wf (OpenSpec.ofChange Rows.forgeLeastsSpec))=true:=by kernel_rfl
theorem forgeLeasts_j1:(laidOutB Tryz.prog)=true:=by kernel_rfl
theorem forgeLeasts_j2:(mapsRowed Tryz.prog)=true:=by kernel_rfl
theorem forgeLeasts_j3:(Tryz.f3.params.all (Tryz.prog.readableRec ·))=true:=by kernel_rfl
theorem forgeLeasts_j4:(namedTie Tryz.prog Rows.forgeLeastsRow.named Rows.forgeLeastsSpec.vars)=true:=by kernel_rfl
theorem forgeLeasts_j5:((Rows.forgeLeastsRow.stops==[]))=true:=by kernel_rfl
theorem forgeLeasts_j6:((Tryz.prog.stops==[]))=true:=by kernel_rfl
theorem forgeLeasts_j7:((Rows.forgeLeastsRow.knobs==[]))=true:=by kernel_rfl
theorem forgeLeasts_j8:((Tryz.prog.stopKnobs==[]))=true:=by kernel_rfl
theorem forgeLeasts_j9:((Rows.forgeLeastsRow.inPlace==Tryz.prog.inPlace 3))=true:=by kernel_rfl
theorem forgeLeasts_j10:((Rows.forgeLeastsRow.unfollowed==Tryz.prog.unfollowed 3))=true:=by kernel_rfl
theorem forgeLeasts_j11:((Rows.forgeLeastsRow.recurses==Tryz.prog.recurses 3))=true:=by kernel_rfl
theorem forgeLeasts_j12:((Rows.forgeLeastsRow.named==Tryz.prog.varsNamed 3))=true:=by kernel_rfl
theorem forgeLeasts_j13:((Rows.forgeLeastsRow.maps==(Tryz.f3.params.toList++Rows.forgeLeastsSpec.plain.varTypes Tryz.prog).any (Tryz.prog.mapsRec ·)))=true:=by kernel_rfl
theorem forgeLeasts_j14:((Rows.forgeLeastsRow.ifaces==(Tryz.f3.params.toList++Rows.forgeLeastsSpec.plain.varTypes Tryz.prog).any (Tryz.prog.ifacesRec ·)))=true:=by kernel_rfl
theorem forgeLeasts_j15:((Rows.forgeLeastsRow.mapsOut==Tryz.prog.mapsAmong Tryz.f3.resultTypes.toList))=true:=by kernel_rfl
theorem forgeLeasts_j16:((Rows.forgeLeastsRow.loops==(Tryz.f3.params.toList++Rows.forgeLeastsSpec.plain.varTypes Tryz.prog).any (Tryz.prog.loopsFrom ·)))=true:=by kernel_rfl
theorem forgeLeasts_j17:((Rows.forgeLeastsRow.wideKeys==(Tryz.f3.params.toList++Rows.forgeLeastsSpec.plain.varTypes Tryz.prog++Tryz.f3.resultTypes.toList).any (Tryz.prog.wideKeysFrom ·)))=true:=by kernel_rfl
theorem forgeLeasts_j18:(Rows.forgeLeastsSpec.vars.all (Tryz.prog.varReadable ·))=true:=by kernel_rfl
theorem forgeLeasts_j19:(Tryz.f3.resultTypes.all (fun t=>Tryz.prog.readableRec t&&decide (t<Tryz.prog.types.size)))=true:=by kernel_rfl
theorem forgeLeasts_j20:((Rows.forgeLeastsRow.ifacesOut==Tryz.f3.resultTypes.toList.any (Tryz.prog.ifacesRec ·)))=true:=by kernel_rfl
theorem forgeLeasts_j21:((Rows.forgeLeastsRow.loopsOut==Tryz.f3.resultTypes.toList.any (Tryz.prog.loopsFrom ·)))=true:=by kernel_rfl
theorem forgeLeasts_j22:((Rows.forgeLeastsRow.plainKeys==Tryz.prog.plainKeys))=true:=by kernel_rfl
theorem forgeLeasts_j23:Rows.forgeLeastsRow.shortTexts.isNone=true:=by kernel_rfl
theorem forgeLeasts_j24:Tryz.prog.stopsHeard=true:=by kernel_rfl
theorem forgeLeasts_j25:Tryz.prog.mayEnter=true:=by kernel_rfl
theorem forgeLeasts_j26:((Rows.forgeLeastsRow.lifted==Tryz.prog.liftsFinal))=true:=by kernel_rfl
theorem forgeLeasts_j27:((Tryz.prog.make==some Rows.forgeLeastsRow.make))=true:=by kernel_rfl
theorem forgeLeasts_j28:((Rows.forgeLeastsRow.kinds==(if Rows.forgeLeastsRow.domain.isEmpty then [] else Tryz.f3.params.toList.map fun t=>match Tryz.prog.underlying t with|some (.int k)=>some k|_=>none)))=true:=by kernel_rfl
theorem forgeLeasts_j29:((Rows.forgeLeastsRow.pinned==Rows.forgeLeastsRow.pinnedBy))=true:=by kernel_rfl
theorem forgeLeasts_j30:((Rows.forgeLeastsRow.veiled==(Tryz.f3.params.toList++Rows.forgeLeastsSpec.plain.varTypes Tryz.prog++Tryz.f3.resultTypes.toList).any (Tryz.prog.veiledRec ·)))=true:=by kernel_rfl
theorem forgeLeasts_j31:(Rows.forgeLeastsRow.veiledFits Tryz.prog Tryz.f3.params.toList (Tryz.f3.params.toList++Rows.forgeLeastsSpec.plain.varTypes Tryz.prog++Tryz.f3.resultTypes.toList))=true:=by kernel_rfl
theorem forgeLeasts_facts:joinedFacts Tryz.pinned.checked.prog 3 Tryz.f3 (OpenSpec.ofChange Rows.forgeLeastsSpec).bare Rows.forgeLeastsRow=true:=by
 have h:joinedFacts Tryz.prog 3 Tryz.f3 Rows.forgeLeastsSpec Rows.forgeLeastsRow=true:=by
  simp only[joinedFacts,Bool.and_eq_true]
  exact⟨⟨⟨⟨⟨⟨⟨⟨⟨⟨⟨⟨⟨⟨⟨⟨⟨⟨⟨⟨⟨⟨⟨⟨⟨⟨⟨⟨⟨⟨⟨forgeLeasts_j0,forgeLeasts_j1⟩,forgeLeasts_j2⟩,forgeLeasts_j3⟩,forgeLeasts_j4⟩,forgeLeasts_j5⟩,forgeLeasts_j6⟩,forgeLeasts_j7⟩,forgeLeasts_j8⟩,forgeLeasts_j9⟩,forgeLeasts_j10⟩,forgeLeasts_j11⟩,forgeLeasts_j12⟩,forgeLeasts_j13⟩,forgeLeasts_j14⟩,forgeLeasts_j15⟩,forgeLeasts_j16⟩,forgeLeasts_j17⟩,forgeLeasts_j18⟩,forgeLeasts_j19⟩,forgeLeasts_j20⟩,forgeLeasts_j21⟩,forgeLeasts_j22⟩,forgeLeasts_j23⟩,forgeLeasts_j24⟩,forgeLeasts_j25⟩,forgeLeasts_j26⟩,forgeLeasts_j27⟩,forgeLeasts_j28⟩,forgeLeasts_j29⟩,forgeLeasts_j30⟩,forgeLeasts_j31⟩
 exact h
end Go.Di

