/- Part 34: contracts are proved. No condition. -/
import Derived.Test.YtfkmodcjddfeiaaGreatDoorDi33
set_option linter.unusedVariables false
set_option linter.unusedSimpArgs false
set_option maxRecDepth 100000
namespace Go.Di
open Proofs
open Go.RowKit Go.ChangeShapes Go.WideShapes Go.Deep Go.ChangeAt Go.Proofs
open Go.Proofs.YtfkmodcjddfeiaaGreatDoor
theorem Ywa:(Rows.forgePlansRow.wf (OpenSpec.ofChange Rows.forgePlansSpec))=true:=by kernel_rfl
theorem Yv9:(laidOutB Tryz.prog)=true:=by kernel_rfl
theorem Yv8:(mapsRowed Tryz.prog)=true:=by kernel_rfl
theorem Yv7:(Tryz.f5.params.all (Tryz.prog.readableRec ·))=true:=by kernel_rfl
theorem Yv6:(namedTie Tryz.prog Rows.forgePlansRow.named Rows.forgePlansSpec.vars)=true:=by kernel_rfl
theorem Yv5:((Rows.forgePlansRow.stops==[]))=true:=by kernel_rfl
theorem Yv4:((Tryz.prog.stops==[]))=true:=by kernel_rfl
theorem Yv3:((Rows.forgePlansRow.knobs==[]))=true:=by kernel_rfl
theorem Yv2:((Tryz.prog.stopKnobs==[]))=true:=by kernel_rfl
theorem Yv1:((Rows.forgePlansRow.inPlace==Tryz.prog.inPlace 5))=true:=by kernel_rfl
theorem Ysz:((Rows.forgePlansRow.unfollowed==Tryz.prog.unfollowed 5))=true:=by kernel_rfl
theorem Ysy:((Rows.forgePlansRow.recurses==Tryz.prog.recurses 5))=true:=by kernel_rfl
theorem Ysx:((Rows.forgePlansRow.named==Tryz.prog.varsNamed 5))=true:=by kernel_rfl
theorem Ysw:((Rows.forgePlansRow.maps==(Tryz.f5.params.toList++Rows.forgePlansSpec.plain.varTypes Tryz.prog).any (Tryz.prog.mapsRec ·)))=true:=by kernel_rfl
theorem Ysv:((Rows.forgePlansRow.ifaces==(Tryz.f5.params.toList++Rows.forgePlansSpec.plain.varTypes Tryz.prog).any (Tryz.prog.ifacesRec ·)))=true:=by kernel_rfl
theorem Ysu:((Rows.forgePlansRow.mapsOut==Tryz.prog.mapsAmong Tryz.f5.resultTypes.toList))=true:=by kernel_rfl
theorem Yst:((Rows.forgePlansRow.loops==(Tryz.f5.params.toList++Rows.forgePlansSpec.plain.varTypes Tryz.prog).any (Tryz.prog.loopsFrom ·)))=true:=by kernel_rfl
theorem Yss:((Rows.forgePlansRow.wideKeys==(Tryz.f5.params.toList++Rows.forgePlansSpec.plain.varTypes Tryz.prog++Tryz.f5.resultTypes.toList).any (Tryz.prog.wideKeysFrom ·)))=true:=by kernel_rfl
theorem Ysr:(Rows.forgePlansSpec.vars.all (Tryz.prog.varReadable ·))=true:=by kernel_rfl
theorem Ysq:(Tryz.f5.resultTypes.all (fun t=>Tryz.prog.readableRec t&&decide (t<Tryz.prog.types.size)))=true:=by kernel_rfl
theorem Ysp:((Rows.forgePlansRow.ifacesOut==Tryz.f5.resultTypes.toList.any (Tryz.prog.ifacesRec ·)))=true:=by kernel_rfl
theorem Yso:((Rows.forgePlansRow.loopsOut==Tryz.f5.resultTypes.toList.any (Tryz.prog.loopsFrom ·)))=true:=by kernel_rfl
theorem Ysn:((Rows.forgePlansRow.plainKeys==Tryz.prog.plainKeys))=true:=by kernel_rfl
theorem Ysm:Rows.forgePlansRow.shortTexts.isNone=true:=by kernel_rfl
theorem Ysl:Tryz.prog.stopsHeard=true:=by kernel_rfl
theorem Ysk:Tryz.prog.mayEnter=true:=by kernel_rfl
theorem Ysj:((Rows.forgePlansRow.lifted==Tryz.prog.liftsFinal))=true:=by kernel_rfl
theorem Ysi:((Tryz.prog.make==some Rows.forgePlansRow.make))=true:=by kernel_rfl
theorem Ysh:((Rows.forgePlansRow.kinds==(if Rows.forgePlansRow.domain.isEmpty then [] else Tryz.f5.params.toList.map fun t=>match Tryz.prog.underlying t with|some (.int k)=>some k|_=>none)))=true:=by kernel_rfl
theorem Ysg:((Rows.forgePlansRow.pinned==Rows.forgePlansRow.pinnedBy))=true:=by kernel_rfl
theorem Ysf:((Rows.forgePlansRow.veiled==(Tryz.f5.params.toList++Rows.forgePlansSpec.plain.varTypes Tryz.prog++Tryz.f5.resultTypes.toList).any (Tryz.prog.veiledRec ·)))=true:=by kernel_rfl
theorem Yse:(Rows.forgePlansRow.veiledFits Tryz.prog Tryz.f5.params.toList (Tryz.f5.params.toList++Rows.forgePlansSpec.plain.varTypes Tryz.prog++Tryz.f5.resultTypes.toList))=true:=by kernel_rfl
theorem Yo4:joinedFacts Tryz.pinned.checked.prog 5 Tryz.f5 (OpenSpec.ofChange Rows.forgePlansSpec).bare Rows.forgePlansRow=true:=by
 have h:joinedFacts Tryz.prog 5 Tryz.f5 Rows.forgePlansSpec Rows.forgePlansRow=true:=by
  simp only[joinedFacts,Bool.and_eq_true];exact⟨⟨⟨⟨⟨⟨⟨⟨⟨⟨⟨⟨⟨⟨⟨⟨⟨⟨⟨⟨⟨⟨⟨⟨⟨⟨⟨⟨⟨⟨⟨Ywa,Yv9⟩,Yv8⟩,Yv7⟩,Yv6⟩,Yv5⟩,Yv4⟩,Yv3⟩,Yv2⟩,Yv1⟩,Ysz⟩,Ysy⟩,Ysx⟩,Ysw⟩,Ysv⟩,Ysu⟩,Yst⟩,Yss⟩,Ysr⟩,Ysq⟩,Ysp⟩,Yso⟩,Ysn⟩,Ysm⟩,Ysl⟩,Ysk⟩,Ysj⟩,Ysi⟩,Ysh⟩,Ysg⟩,Ysf⟩,Yse⟩
 exact h
end Go.Di
