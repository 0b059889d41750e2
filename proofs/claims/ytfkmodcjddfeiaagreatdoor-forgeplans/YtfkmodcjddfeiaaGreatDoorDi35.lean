/- Part 35: contracts are proved. No condition. -/
import Derived.Test.YtfkmodcjddfeiaaGreatDoorDi34
set_option linter.unusedVariables false
set_option linter.unusedSimpArgs false
set_option maxRecDepth 100000
namespace Go.Di
open Proofs
open Go.RowKit Go.ChangeShapes Go.WideShapes Go.Deep Go.ChangeAt Go.Proofs
open Go.Proofs.YtfkmodcjddfeiaaGreatDoor
theorem Yre:Rows.ForgePlansSaid :=
 OpenClaim.holds_of_cond 5 Tryz.f5 rfl rfl rfl rfl rfl rfl rfl ⟨rfl,rfl,rfl,rfl,rfl⟩ rfl rfl rfl rfl rfl (by kernel_rfl) (by kernel_rfl) Yo4
  (of_decide_eq_true (by kernel_rfl)) (by unfold Func.isWrapper;first|(rw[if_pos (by decide +kernel)];kernel_rfl)|(rw[if_neg (by decide +kernel)];exact⟨rfl,rfl⟩))
  (fun os started H enc _ F=>by rw[OpenClaim.pre_eq_preRow];exact Yn2 os started H enc F)
theorem forgePlans_func:Tryz.prog.funcs[5]?=some Tryz.f5:=by kernel_rfl
theorem forgePlans_named : Tryz.prog.funcNamed "prow/prowlaw07.ForgePlans" = some 5 := by kernel_rfl
theorem Yo3 (f : FuncId) (fn : Func) (hf : Tryz.pinned.checked.prog.funcNamed "prow/prowlaw07.ForgePlans" = some f) (hfn : Tryz.pinned.checked.prog.funcs[f]? = some fn) :
  false=Tryz.pinned.checked.prog.looks []/\∀(j:Nat) t,fn.params[j]?=some t->Tryz.pinned.checked.prog.wantsStandIn t=false:=by
 obtain rfl:f=5:=(Option.some.inj (forgePlans_named.symm.trans hf)).symm;obtain rfl:fn=Tryz.f5:=(Option.some.inj (forgePlans_func.symm.trans hfn)).symm;refine⟨by kernel_rfl,fun j t ht=>?_⟩;have hp:Tryz.f5.params=#[28]:=by kernel_rfl
 rw[hp]at ht;have hm:t∈[28]:=by simpa using Array.mem_of_getElem? ht
 have hall:([28].all fun u=>!Tryz.prog.wantsStandIn u)=true:=by kernel_rfl
 exact(show Tryz.prog.wantsStandIn t=false by simpa using List.all_eq_true.1 hall t hm)
theorem Yrf : Tryz.pinned.checked.prog.mainIs = some (true,"5af31414741a3a018feac4d8ccf2b74be8a1f93d0edae67dfab44495e69587c7".toList) := by kernel_rfl
theorem Yrg:false=Rows.forgePlansRow.goesBy Tryz.pinned.checked.prog:=by kernel_rfl
theorem Ysd:Rows.forgePlansRow.wfByText (OpenSpec.ofChange Rows.forgePlansSpec)=true:=by kernel_rfl
theorem forgePlans_holds:Rows.ForgePlansCardSaid :=
 Claim7.holds_tied_plain_at .later [] [.data,.data,.funcs] true (true,"5af31414741a3a018feac4d8ccf2b74be8a1f93d0edae67dfab44495e69587c7") false Yre (fun _ h => by cases h) Ysd (fun _ h => by cases h) forgePlans_row_tie rfl ⟨rfl,rfl⟩ Yrf rfl Yo3 Yrg
end Go.Di
namespace Go.Proofs.YtfkmodcjddfeiaaGreatDoor
/-- ForgePlans returns true for every book of a forge. -/
theorem forgePlans_holds:Rows.ForgePlansCardSaid:=Go.Di.forgePlans_holds
end Go.Proofs.YtfkmodcjddfeiaaGreatDoor
