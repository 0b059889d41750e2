/- Part 31: contracts are proved. No condition. -/
import Derived.Test.YtfkmodcjddfeiaaGreatDoorDi30
set_option linter.unusedVariables false
set_option linter.unusedSimpArgs false
set_option maxRecDepth 100000
namespace Go.Di
open Proofs
open Go.RowKit Go.ChangeShapes Go.WideShapes Go.Deep Go.ChangeAt Go.Proofs
open Go.Proofs.YtfkmodcjddfeiaaGreatDoor
theorem forgeLeasts_said:Rows.ForgeLeastsSaid :=
 OpenClaim.holds_of_cond 3 Tryz.f3 rfl rfl rfl rfl rfl rfl rfl ⟨rfl,rfl,rfl,rfl,rfl⟩ rfl rfl rfl rfl rfl (by kernel_rfl) (by kernel_rfl) forgeLeasts_facts
  (of_decide_eq_true (by kernel_rfl)) (by unfold Func.isWrapper;first|(rw[if_pos (by decide +kernel)];kernel_rfl)|(rw[if_neg (by decide +kernel)];exact⟨rfl,rfl⟩))
  (fun os started H enc _ F=>by rw[OpenClaim.pre_eq_preRow];exact forgeLeasts_lifted os started H enc F)
theorem forgeLeasts_func:Tryz.prog.funcs[3]?=some Tryz.f3:=by kernel_rfl
theorem forgeLeasts_named : Tryz.prog.funcNamed "prow/prowlaw07.ForgeLeasts" = some 3 := by kernel_rfl
theorem forgeLeasts_plain (f : FuncId) (fn : Func) (hf : Tryz.pinned.checked.prog.funcNamed "prow/prowlaw07.ForgeLeasts" = some f) (hfn : Tryz.pinned.checked.prog.funcs[f]? = some fn) :
  false=Tryz.pinned.checked.prog.looks []∧∀(j:Nat) t,fn.params[j]?=some t→Tryz.pinned.checked.prog.wantsStandIn t=false:=by
 obtain rfl:f=3:=(Option.some.inj (forgeLeasts_named.symm.trans hf)).symm
 obtain rfl:fn=Tryz.f3:=(Option.some.inj (forgeLeasts_func.symm.trans hfn)).symm
 refine⟨by kernel_rfl,fun j t ht=>?_⟩
 have hp:Tryz.f3.params=#[28,29,30]:=by kernel_rfl
 rw[hp]at ht
 have hm:t∈[28,29,30]:=by simpa using Array.mem_of_getElem? ht
 have hall:([28,29,30].all fun u=>!Tryz.prog.wantsStandIn u)=true:=by kernel_rfl
 exact(show Tryz.prog.wantsStandIn t=false by simpa using List.all_eq_true.1 hall t hm)
theorem forgeLeasts_main : Tryz.pinned.checked.prog.mainIs = some (true,"5af31414741a3a018feac4d8ccf2b74be8a1f93d0edae67dfab44495e69587c7".toList) := by kernel_rfl
theorem forgeLeasts_goes:false=Rows.forgeLeastsRow.goesBy Tryz.pinned.checked.prog:=by kernel_rfl
theorem forgeLeasts_wft:Rows.forgeLeastsRow.wfByText (OpenSpec.ofChange Rows.forgeLeastsSpec)=true:=by kernel_rfl
theorem forgeLeasts_holds:Rows.ForgeLeastsCardSaid :=
 Claim7.holds_tied_plain_at .later [] [.data,.data,.funcs] true (true,"5af31414741a3a018feac4d8ccf2b74be8a1f93d0edae67dfab44495e69587c7") false forgeLeasts_said (fun _ h => by cases h) forgeLeasts_wft (fun _ h => by cases h) forgeLeasts_row_tie rfl ⟨rfl,rfl⟩ forgeLeasts_main rfl forgeLeasts_plain forgeLeasts_goes
end Go.Di

namespace Go.Proofs.YtfkmodcjddfeiaaGreatDoor
/-- ForgeLeasts returns true for every book of a forge, every list of works and every two numbers. -/
theorem forgeLeasts_holds:Rows.ForgeLeastsCardSaid:=Go.Di.forgeLeasts_holds
end Go.Proofs.YtfkmodcjddfeiaaGreatDoor
