/- Part 19: contracts are proved. No condition. -/
import Derived.Test.YtfkmodcjddfeiaaGreatDoorDi18
set_option linter.unusedVariables false
namespace Go.Di
open Proofs
noncomputable abbrev k_61 (p:List Nat):Code:=Code.at p (body Proofs.Tryz.f61)
noncomputable abbrev k_62 (p:List Nat):Code:=Code.at p (body Proofs.Tryz.f62)
noncomputable abbrev k_153 (p:List Nat):Code:=Code.at p (body Proofs.Tryz.f153)
noncomputable abbrev k_139 (p:List Nat):Code:=Code.at p (body Proofs.Tryz.f139)
noncomputable abbrev k_138 (p:List Nat):Code:=Code.at p (body Proofs.Tryz.f138)
noncomputable abbrev Ybx (p:List Nat):Code:=Code.at p (body Proofs.Tryz.f115)
noncomputable abbrev k_112 (p:List Nat):Code:=Code.at p (body Proofs.Tryz.f112)
noncomputable abbrev k_119 (p:List Nat):Code:=Code.at p (body Proofs.Tryz.f119)
noncomputable abbrev k_86 (p:List Nat):Code:=Code.at p (body Proofs.Tryz.f86)
noncomputable abbrev k_56 (p:List Nat):Code:=Code.at p (body Proofs.Tryz.f56)
theorem oSec_fn:FnOk PR (mk PR (Yac types) glob 7) 42 (body Tryz.f42) [.tmp 2]:=by refine⟨Tryz.f42,?_,?_,?_,?_,?_⟩<;>kernel_rfl
theorem oInt_fn:FnOk PR (mk PR (Yac types) glob 7) 15 (body Tryz.f15) [.tmp 2]:=by refine⟨Tryz.f15,?_,?_,?_,?_,?_⟩<;>kernel_rfl
theorem oSv_fn:FnOk PR (mk PR (Yac types) glob 7) 43 (body Tryz.f43) [.tmp 2]:=by refine⟨Tryz.f43,?_,?_,?_,?_,?_⟩<;>kernel_rfl
theorem oChain_fn:FnOk PR (mk PR (Yac types) glob 16) 14 (body Tryz.f14) [.cell 2 26]:=by refine⟨Tryz.f14,?_,?_,?_,?_,?_⟩<;>kernel_rfl
theorem kSec_fn:FnOk PR (mk PR (Yac types) glob 31) 61 (body Tryz.f61) [.tmp 4]:=by refine⟨Tryz.f61,?_,?_,?_,?_,?_⟩<;>kernel_rfl
theorem kSv_fn:FnOk PR (mk PR (Yac types) glob 31) 62 (body Tryz.f62) [.tmp 4]:=by refine⟨Tryz.f62,?_,?_,?_,?_,?_⟩<;>kernel_rfl
theorem kChain_fn:FnOk PR (mk PR (Yac types) glob 38) 24 (body Tryz.f24) [.tmp 4]:=by refine⟨Tryz.f24,?_,?_,?_,?_,?_⟩<;>kernel_rfl
theorem rSection_fn:FnOk PR (mk PR (Yac types) glob 11) 114 (body Tryz.f114) [.tmp 4]:=by refine⟨Tryz.f114,?_,?_,?_,?_,?_⟩<;>kernel_rfl
theorem rDay_fn:FnOk PR (mk PR (Yac types) glob 9) 118 (body Tryz.f118) [.tmp 4]:=by refine⟨Tryz.f118,?_,?_,?_,?_,?_⟩<;>kernel_rfl
theorem rSurvey_fn:FnOk PR (mk PR (Yac types) glob 25) 92 (body Tryz.f92) [.tmp 4]:=by refine⟨Tryz.f92,?_,?_,?_,?_,?_⟩<;>kernel_rfl
theorem rOther_fn:FnOk PR (mk PR (Yac types) glob 11) 137 (body Tryz.f137) [.tmp 4]:=by refine⟨Tryz.f137,?_,?_,?_,?_,?_⟩<;>kernel_rfl
theorem rTurned_fn:FnOk PR (mk PR (Yac types) glob 24) 153 (body Tryz.f153) [.tmp 4]:=by refine⟨Tryz.f153,?_,?_,?_,?_,?_⟩<;>kernel_rfl
theorem rThk0_fn:FnOk PR (mk PR (Yac types) glob 37) 139 (body Tryz.f139) [.tmp 8]:=by refine⟨Tryz.f139,?_,?_,?_,?_,?_⟩<;>kernel_rfl
theorem rThk1_fn:FnOk PR (mk PR (Yac types) glob 37) 139 (body Tryz.f139) [.tmp 8]:=by refine⟨Tryz.f139,?_,?_,?_,?_,?_⟩<;>kernel_rfl
theorem rRight_fn:FnOk PR (mk PR (Yac types) glob 64) 138 (body Tryz.f138) [.tmp 6]:=by refine⟨Tryz.f138,?_,?_,?_,?_,?_⟩<;>kernel_rfl
theorem trA_fn:FnOk PR (mk PR (Yac types) glob 96) 115 (body Tryz.f115) [.tmp 4]:=by refine⟨Tryz.f115,?_,?_,?_,?_,?_⟩<;>kernel_rfl
theorem rCan_fn:FnOk PR (mk PR (Yac types) glob 16) 112 (body Tryz.f112) [.tmp 2]:=by refine⟨Tryz.f112,?_,?_,?_,?_,?_⟩<;>kernel_rfl
theorem rAsked_fn:FnOk PR (mk PR (Yac types) glob 16) 113 (body Tryz.f113) [.tmp 4]:=by refine⟨Tryz.f113,?_,?_,?_,?_,?_⟩<;>kernel_rfl
theorem rHull_fn:FnOk PR (mk PR (Yac types) glob 16) 117 (body Tryz.f117) [.cell 4 113]:=by refine⟨Tryz.f117,?_,?_,?_,?_,?_⟩<;>kernel_rfl
theorem rSpan_fn:FnOk PR (mk PR (Yac types) glob 33) 119 (body Tryz.f119) [.cell 6 113]:=by refine⟨Tryz.f119,?_,?_,?_,?_,?_⟩<;>kernel_rfl
theorem rRightA_fn:FnOk PR (mk PR (Yac types) glob 12) 83 (body Tryz.f83) [.tmp 2,.tmp 3]:=by refine⟨Tryz.f83,?_,?_,?_,?_,?_⟩<;>kernel_rfl
theorem rThickA_fn:FnOk PR (mk PR (Yac types) glob 29) 87 (body Tryz.f87) [.cell 6 113,.tmp 7]:=by refine⟨Tryz.f87,?_,?_,?_,?_,?_⟩<;>kernel_rfl
theorem rWearA_fn:FnOk PR (mk PR (Yac types) glob 44) 86 (body Tryz.f86) [.cell 4 113,.tmp 5]:=by refine⟨Tryz.f86,?_,?_,?_,?_,?_⟩<;>kernel_rfl
theorem rCheck_fn:FnOk PR (mk PR (Yac types) glob 161) 56 (body Tryz.f56) [.tmp 2]:=by refine⟨Tryz.f56,?_,?_,?_,?_,?_⟩<;>kernel_rfl
def Yfl (xs:List Sec)(ok:Bool)(i:Nat):List (Key×Val) :=
 [(.tmp 0,.d (D.sl false E.sec xs)),
  (.tmp 1,.d (D.sl false E.sec xs)),
  (.tmp 5,.d (.bool ok)),
  (.tmp 6,.d (.I i))]
def kSec_K0:List Key:=[.tmp 0,.tmp 1,.tmp 5,.tmp 6]
def kSv_S0 (xs:List Sv)(ok:Bool)(i:Nat):List (Key×Val) :=
 [(.tmp 0,.d (D.sl false E.sv xs)),
  (.tmp 1,.d (D.sl false E.sv xs)),
  (.tmp 5,.d (.bool ok)),
  (.tmp 6,.d (.I i))]
def kSv_K0:List Key:=[.tmp 0,.tmp 1,.tmp 5,.tmp 6]
def Yc7 (b:Book)(d:Int)(p:Bool)(i:Nat):List (Key×Val) :=
 [(.tmp 1,.d (D.I d)),
  (.tmp 2,.d (D.ptr 2 0)),
  (.tmp 5,.d (.bool p)),
  (.tmp 6,.d (.I i)),
  (.box 2,.bx (some (Box.mk false (cellsOf (Yag b)))))]
def rTurned_K0:List Key:=[.tmp 1,.tmp 2,.tmp 5,.tmp 6,.box 2]
def Yey (b:Book)(u:Tr1)(d:Int)(t:Int)(i:Nat):List (Key×Val) :=
 [(.tmp 2,.d (D.I 0)),
  (.tmp 3,.d (D.I d)),
  (.tmp 4,.d (D.ptr 4 0)),
  (.tmp 5,.d (D.ptr 5 0)),
  (.tmp 9,.d (.I t)),
  (.tmp 10,.d (.I i)),
  (.box 4,.bx (some (Box.mk false (cellsOf (Yag b))))),
  (.box 5,.bx (some (Box.mk false [D.I (Tr1.t0 u),D.I (Tr1.t1 u),D.I (Tr1.w0 u),D.I (Tr1.w1 u)])))]
def rThk0_K0:List Key:=[.tmp 2,.tmp 3,.tmp 4,.tmp 5,.tmp 9,.tmp 10,.box 4,.box 5]
def Yex (b:Book)(u:Tr1)(d:Int)(t:Int)(i:Nat):List (Key×Val) :=
 [(.tmp 2,.d (D.I 1)),
  (.tmp 3,.d (D.I d)),
  (.tmp 4,.d (D.ptr 4 0)),
  (.tmp 5,.d (D.ptr 5 0)),
  (.tmp 9,.d (.I t)),
  (.tmp 10,.d (.I i)),
  (.box 4,.bx (some (Box.mk false (cellsOf (Yag b))))),
  (.box 5,.bx (some (Box.mk false [D.I (Tr1.t0 u),D.I (Tr1.t1 u),D.I (Tr1.w0 u),D.I (Tr1.w1 u)])))]
def rThk1_K0:List Key:=[.tmp 2,.tmp 3,.tmp 4,.tmp 5,.tmp 9,.tmp 10,.box 4,.box 5]
def Ya5 (b:Book)(k:Nat)(u:Tr1)(i:Nat):List (Key×Val) :=
 [(.tmp 1,.d (D.I ((k:Int)))),
  (.tmp 3,.d (D.ptr 3 0)),
  (.tmp 5,.d (D.ptr 5 0)),
  (.tmp 7,.d (.I i)),
  (.box 3,.bx (some (Box.mk false (cellsOf (Yag b))))),
  (.box 5,.bx (some (Box.mk false [D.I (Tr1.t0 u),D.I (Tr1.t1 u),D.I (Tr1.w0 u),D.I (Tr1.w1 u)])))]
def Ydw:List Key:=[.tmp 1,.tmp 3,.tmp 5,.tmp 7,.box 3,.box 5]
def trA_S6 (b:Book)(k:Nat)(o:Nat)(t0 t1 w0 w1:Int):List (Key×Val) :=
 [(.tmp 1,.d (D.I ((k:Int)))),
  (.tmp 2,.d (D.ptr 2 0)),
  (.tmp 5,.d (D.sl true E.tr1 [])),
  (.tmp 6,.d (D.ptr 6 0)),
  (.tmp 7,.d (D.ptr 7 0)),
  (.tmp 8,.d (.I t0)),
  (.tmp 9,.d (.I t1)),
  (.tmp 10,.d (.I w0)),
  (.tmp 11,.d (.I w1)),
  (.box 2,.bx (some (Box.mk false (cellsOf (Yag b))))),
  (.box 6,.bx (some ⟨false,E.enc .sec (b.secs.getD k sec0)⟩)),
  (.box 7,.bx (some ⟨false,E.enc .sec (b.secs.getD o sec0)⟩)),
  (.obj 94,.ob none)]
def trA_K6:List Key:=[.tmp 1,.tmp 2,.tmp 5,.tmp 6,.tmp 7,.tmp 8,.tmp 9,.tmp 10,.tmp 11,.box 2,.box 6,.box 7,.obj 94]
def trA_S4 (b:Book)(k:Nat)(o:Nat)(t0 t1 w0:Int):List (Key×Val) :=
 [(.tmp 1,.d (D.I ((k:Int)))),
  (.tmp 2,.d (D.ptr 2 0)),
  (.tmp 5,.d (D.sl true E.tr1 [])),
  (.tmp 6,.d (D.ptr 6 0)),
  (.tmp 7,.d (D.ptr 7 0)),
  (.tmp 8,.d (.I t0)),
  (.tmp 9,.d (.I t1)),
  (.tmp 10,.d (.I w0)),
  (.box 2,.bx (some (Box.mk false (cellsOf (Yag b))))),
  (.box 6,.bx (some ⟨false,E.enc .sec (b.secs.getD k sec0)⟩)),
  (.box 7,.bx (some ⟨false,E.enc .sec (b.secs.getD o sec0)⟩)),
  (.obj 94,.ob none)]
def trA_K4:List Key:=[.tmp 1,.tmp 2,.tmp 5,.tmp 6,.tmp 7,.tmp 8,.tmp 9,.tmp 10,.box 2,.box 6,.box 7,.obj 94]
def trA_S2 (b:Book)(k:Nat)(o:Nat)(t0 t1:Int):List (Key×Val) :=
 [(.tmp 1,.d (D.I ((k:Int)))),
  (.tmp 2,.d (D.ptr 2 0)),
  (.tmp 5,.d (D.sl true E.tr1 [])),
  (.tmp 6,.d (D.ptr 6 0)),
  (.tmp 7,.d (D.ptr 7 0)),
  (.tmp 8,.d (.I t0)),
  (.tmp 9,.d (.I t1)),
  (.box 2,.bx (some (Box.mk false (cellsOf (Yag b))))),
  (.box 6,.bx (some ⟨false,E.enc .sec (b.secs.getD k sec0)⟩)),
  (.box 7,.bx (some ⟨false,E.enc .sec (b.secs.getD o sec0)⟩)),
  (.obj 94,.ob none)]
def trA_K2:List Key:=[.tmp 1,.tmp 2,.tmp 5,.tmp 6,.tmp 7,.tmp 8,.tmp 9,.box 2,.box 6,.box 7,.obj 94]
def trA_S0 (b:Book)(k:Nat)(o:Nat)(t0:Int):List (Key×Val) :=
 [(.tmp 1,.d (D.I ((k:Int)))),
  (.tmp 2,.d (D.ptr 2 0)),
  (.tmp 5,.d (D.sl true E.tr1 [])),
  (.tmp 6,.d (D.ptr 6 0)),
  (.tmp 7,.d (D.ptr 7 0)),
  (.tmp 8,.d (.I t0)),
  (.box 2,.bx (some (Box.mk false (cellsOf (Yag b))))),
  (.box 6,.bx (some ⟨false,E.enc .sec (b.secs.getD k sec0)⟩)),
  (.box 7,.bx (some ⟨false,E.enc .sec (b.secs.getD o sec0)⟩)),
  (.obj 94,.ob none)]
def trA_K0:List Key:=[.tmp 1,.tmp 2,.tmp 5,.tmp 6,.tmp 7,.tmp 8,.box 2,.box 6,.box 7,.obj 94]
def trB_S6 (b:Book)(k:Nat)(o:Nat)(t0 t1 w0 w1:Int)(y:Tr1)(r:List Tr1):List (Key×Val) :=
 [(.tmp 1,.d (D.I ((k:Int)))),
  (.tmp 2,.d (D.ptr 2 0)),
  (.tmp 5,.d (.own 94 (y::r).length)),
  (.tmp 6,.d (D.ptr 6 0)),
  (.tmp 7,.d (D.ptr 7 0)),
  (.tmp 8,.d (.I t0)),
  (.tmp 9,.d (.I t1)),
  (.tmp 10,.d (.I w0)),
  (.tmp 11,.d (.I w1)),
  (.box 2,.bx (some (Box.mk false (cellsOf (Yag b))))),
  (.box 6,.bx (some ⟨false,E.enc .sec (b.secs.getD k sec0)⟩)),
  (.box 7,.bx (some ⟨false,E.enc .sec (b.secs.getD o sec0)⟩)),
  (.obj 94,.ob (some ⟨.tr1,y::r⟩))]
def trB_K6:List Key:=[.tmp 1,.tmp 2,.tmp 5,.tmp 6,.tmp 7,.tmp 8,.tmp 9,.tmp 10,.tmp 11,.box 2,.box 6,.box 7,.obj 94]
def trB_S4 (b:Book)(k:Nat)(o:Nat)(t0 t1 w0:Int)(y:Tr1)(r:List Tr1):List (Key×Val) :=
 [(.tmp 1,.d (D.I ((k:Int)))),
  (.tmp 2,.d (D.ptr 2 0)),
  (.tmp 5,.d (.own 94 (y::r).length)),
  (.tmp 6,.d (D.ptr 6 0)),
  (.tmp 7,.d (D.ptr 7 0)),
  (.tmp 8,.d (.I t0)),
  (.tmp 9,.d (.I t1)),
  (.tmp 10,.d (.I w0)),
  (.box 2,.bx (some (Box.mk false (cellsOf (Yag b))))),
  (.box 6,.bx (some ⟨false,E.enc .sec (b.secs.getD k sec0)⟩)),
  (.box 7,.bx (some ⟨false,E.enc .sec (b.secs.getD o sec0)⟩)),
  (.obj 94,.ob (some ⟨.tr1,y::r⟩))]
def trB_K4:List Key:=[.tmp 1,.tmp 2,.tmp 5,.tmp 6,.tmp 7,.tmp 8,.tmp 9,.tmp 10,.box 2,.box 6,.box 7,.obj 94]
def trB_S2 (b:Book)(k:Nat)(o:Nat)(t0 t1:Int)(y:Tr1)(r:List Tr1):List (Key×Val) :=
 [(.tmp 1,.d (D.I ((k:Int)))),
  (.tmp 2,.d (D.ptr 2 0)),
  (.tmp 5,.d (.own 94 (y::r).length)),
  (.tmp 6,.d (D.ptr 6 0)),
  (.tmp 7,.d (D.ptr 7 0)),
  (.tmp 8,.d (.I t0)),
  (.tmp 9,.d (.I t1)),
  (.box 2,.bx (some (Box.mk false (cellsOf (Yag b))))),
  (.box 6,.bx (some ⟨false,E.enc .sec (b.secs.getD k sec0)⟩)),
  (.box 7,.bx (some ⟨false,E.enc .sec (b.secs.getD o sec0)⟩)),
  (.obj 94,.ob (some ⟨.tr1,y::r⟩))]
def trB_K2:List Key:=[.tmp 1,.tmp 2,.tmp 5,.tmp 6,.tmp 7,.tmp 8,.tmp 9,.box 2,.box 6,.box 7,.obj 94]
def trB_S0 (b:Book)(k:Nat)(o:Nat)(t0:Int)(y:Tr1)(r:List Tr1):List (Key×Val) :=
 [(.tmp 1,.d (D.I ((k:Int)))),
  (.tmp 2,.d (D.ptr 2 0)),
  (.tmp 5,.d (.own 94 (y::r).length)),
  (.tmp 6,.d (D.ptr 6 0)),
  (.tmp 7,.d (D.ptr 7 0)),
  (.tmp 8,.d (.I t0)),
  (.box 2,.bx (some (Box.mk false (cellsOf (Yag b))))),
  (.box 6,.bx (some ⟨false,E.enc .sec (b.secs.getD k sec0)⟩)),
  (.box 7,.bx (some ⟨false,E.enc .sec (b.secs.getD o sec0)⟩)),
  (.obj 94,.ob (some ⟨.tr1,y::r⟩))]
def trB_K0:List Key:=[.tmp 1,.tmp 2,.tmp 5,.tmp 6,.tmp 7,.tmp 8,.box 2,.box 6,.box 7,.obj 94]
def Ydx (b:Book)(i:Nat):List (Key×Val) :=
 [(.tmp 1,.d (D.ptr 1 0)),
  (.tmp 3,.d (.I i)),
  (.box 1,.bx (some (Box.mk false (cellsOf (Yag b)))))]
def rCan_K0:List Key:=[.tmp 1,.tmp 3,.box 1]
def Yg9 (b:Book)(ts:List Tr1)(d:Int)(s:Span)(i:Nat):List (Key×Val) :=
 [(.tmp 1,.d (D.sl false E.tr1 ts)),
  (.tmp 2,.d (D.I d)),
  (.tmp 3,.d (D.ptr 3 0)),
  (.tmp 6,.d (D.ptr 6 0)),
  (.tmp 7,.d (D.ptr 7 0)),
  (.tmp 8,.d (.I i)),
  (.box 3,.bx (some (Box.mk false (cellsOf (Yag b))))),
  (.box 6,.bx (some (Box.mk false [D.I 0,D.I 0]))),
  (.box 7,.bx (some ⟨false,[.I s.lo,.I s.hi]⟩))]
def rSpan_K0:List Key:=[.tmp 1,.tmp 2,.tmp 3,.tmp 6,.tmp 7,.tmp 8,.box 3,.box 6,.box 7]
def Yfi (b:Book)(n:Int)(ts:List Tr1)(s:Span)(i:Nat):List (Key×Val) :=
 [(.tmp 4,.d (D.ptr 4 0)),
  (.tmp 7,.d (D.sl false E.tr1 ts)),
  (.tmp 8,.d (D.ptr 8 0)),
  (.tmp 9,.d (.I i)),
  (.box 4,.bx (some (Box.mk false [D.I 0,D.I 0]))),
  (.box 8,.bx (some ⟨false,[.I s.lo,.I s.hi]⟩))]
def rWearA_K0:List Key:=[.tmp 4,.tmp 7,.tmp 8,.tmp 9,.box 4,.box 8]
def Ygm (b:Book)  : List (Key×Val) :=
 [(.tmp 1,.d (D.ptr 1 0)),
  (.box 1,.bx (some (Box.mk false (cellsOf (Yag b)))))]
def rCheck_RK1:List Key:=[.tmp 1,.box 1]
def Ygl:List Key:=[.tmp 1,.tmp 3,.box 1]
def Ygk (b:Book)  (ok:Bool):List (Key×Val) :=
 [(.tmp 1,.d (D.ptr 1 0)),
  (.tmp 3,.d (.bool ok)),
  (.box 1,.bx (some (Box.mk false (cellsOf (Yag b)))))]
def Yck (b:Book)(ok:Bool)(most:Int)(i:Nat):List (Key×Val) :=
 [(.tmp 1,.d (D.ptr 1 0)),
  (.tmp 3,.d (.bool ok)),
  (.tmp 4,.d (.I most)),
  (.tmp 5,.d (.I i)),
  (.box 1,.bx (some (Box.mk false (cellsOf (Yag b)))))]
def rCheck_K0:List Key:=[.tmp 1,.tmp 3,.tmp 4,.tmp 5,.box 1]
def rCheck_R7 (b:Book)(ok:Bool)(most:Int)(i:Nat):List (Key×Val) :=
 [(.tmp 1,.d (D.ptr 1 0)),
  (.tmp 4,.d (.I most)),
  (.tmp 5,.d (.I i)),
  (.tmp 6,.d (D.ptr 6 0)),
  (.box 1,.bx (some (Box.mk false (cellsOf (Yag b))))),
  (.box 6,.bx (some ⟨false,E.enc .sec (b.secs.getD i sec0)⟩))]
def rCheck_RK7:List Key:=[.tmp 1,.tmp 4,.tmp 5,.tmp 6,.box 1,.box 6]
def rCheck_RO7:List Key:=[.tmp 1,.tmp 3,.tmp 4,.tmp 5,.tmp 6,.box 1,.box 6]
def rCheck_RS7 (b:Book)(ok:Bool)(most:Int)(i:Nat)(ok2:Bool):List (Key×Val) :=
 [(.tmp 1,.d (D.ptr 1 0)),
  (.tmp 3,.d (.bool ok2)),
  (.tmp 4,.d (.I most)),
  (.tmp 5,.d (.I i)),
  (.tmp 6,.d (D.ptr 6 0)),
  (.box 1,.bx (some (Box.mk false (cellsOf (Yag b))))),
  (.box 6,.bx (some ⟨false,E.enc .sec (b.secs.getD i sec0)⟩))]
def Ycj (b:Book)(ok:Bool)(most:Int)(i:Nat):List (Key×Val) :=
 [(.tmp 1,.d (D.ptr 1 0)),
  (.tmp 3,.d (.bool ok)),
  (.tmp 4,.d (.I most)),
  (.tmp 7,.d (.I i)),
  (.box 1,.bx (some (Box.mk false (cellsOf (Yag b)))))]
def rCheck_K2:List Key:=[.tmp 1,.tmp 3,.tmp 4,.tmp 7,.box 1]
def Yb1 (b:Book)(ok:Bool)(i:Nat):List (Key×Val) :=
 [(.tmp 1,.d (D.ptr 1 0)),
  (.tmp 3,.d (.bool ok)),
  (.tmp 8,.d (.I i)),
  (.box 1,.bx (some (Box.mk false (cellsOf (Yag b)))))]
def Yfj:List Key:=[.tmp 1,.tmp 3,.tmp 8,.box 1]
def Yci (b:Book)(ok:Bool)(i:Nat):List (Key×Val) :=
 [(.tmp 1,.d (D.ptr 1 0)),
  (.tmp 3,.d (.bool ok)),
  (.tmp 9,.d (.I i)),
  (.box 1,.bx (some (Box.mk false (cellsOf (Yag b)))))]
def rCheck_K6:List Key:=[.tmp 1,.tmp 3,.tmp 9,.box 1]
theorem kSec_0_on (xs:List Sec)(ok:Bool)(i:Nat) :
  runK (mk PR (Yac types) glob 31) [(13,true),(18,true)] [] [] (k_61 [1,1,0,1,0,0]) (Yfl xs ok i) kSec_K0 =
   let Z0:=List.getD xs (Int.toNat ((i:Int))) (E.z E.sec);some ([ok=true,ok=true,ok=true,ok=true,ok=true,decide ((i:Int)<((xs.length:Nat):Int))=true,(0:Int)≤(i:Int)∧(i:Int)<((xs.length:Nat):Int),0+4≤4,(0:Int)≤(i:Int)∧(i:Int)<((xs.length:Nat):Int),0+4≤4,Yae ((i:Int)+(1:Int))],Ex.normal,[(.tmp 0,.d (D.sl false E.sec xs)),(.tmp 1,.d (D.sl false E.sec xs)),(.tmp 5,.d (D.bool (eqI [Span.lo (Sec.t Z0),Span.hi (Sec.t Z0),Span.lo (Sec.w Z0),Span.hi (Sec.w Z0)] [Span.lo (Sec.t Z0),Span.hi (Sec.t Z0),Span.lo (Sec.w Z0),Span.hi (Sec.w Z0)]))),(.tmp 6,.d (D.I ((i:Int)+(1:Int))))]):=by kernel_rfl
theorem kSec_0_end (xs:List Sec)(ok:Bool)(i:Nat) :
  runK (mk PR (Yac types) glob 31) [(13,true),(18,false)] [] [] (k_61 [1,1,0,1,0,0]) (Yfl xs ok i) kSec_K0 =
   some ([ok=true,ok=true,ok=true,ok=true,ok=true,decide ((i:Int)<((xs.length:Nat):Int))=false],Ex.exit 0,[(.tmp 0,.d (D.sl false E.sec xs)),(.tmp 1,.d (D.sl false E.sec xs)),(.tmp 5,.d (D.bool ok)),(.tmp 6,.d (D.I ((i:Int))))]):=by kernel_rfl
theorem kSv_0_on (xs:List Sv)(ok:Bool)(i:Nat) :
  runK (mk PR (Yac types) glob 31) [(13,true),(18,true)] [] [] (k_62 [1,1,0,1,0,0]) (kSv_S0 xs ok i) kSv_K0 =
   let Z0:=List.getD xs (Int.toNat ((i:Int))) (E.z E.sv);some ([ok=true,ok=true,ok=true,ok=true,ok=true,decide ((i:Int)<((xs.length:Nat):Int))=true,(0:Int)≤(i:Int)∧(i:Int)<((xs.length:Nat):Int),0+4≤4,(0:Int)≤(i:Int)∧(i:Int)<((xs.length:Nat):Int),0+4≤4,Yae ((i:Int)+(1:Int))],Ex.normal,[(.tmp 0,.d (D.sl false E.sv xs)),(.tmp 1,.d (D.sl false E.sv xs)),(.tmp 5,.d (D.bool (eqI [Sv.s Z0,Sv.d Z0,Sv.r Z0,Sv.e Z0] [Sv.s Z0,Sv.d Z0,Sv.r Z0,Sv.e Z0]))),(.tmp 6,.d (D.I ((i:Int)+(1:Int))))]):=by kernel_rfl
theorem kSv_0_end (xs:List Sv)(ok:Bool)(i:Nat) :
  runK (mk PR (Yac types) glob 31) [(13,true),(18,false)] [] [] (k_62 [1,1,0,1,0,0]) (kSv_S0 xs ok i) kSv_K0 =
   some ([ok=true,ok=true,ok=true,ok=true,ok=true,decide ((i:Int)<((xs.length:Nat):Int))=false],Ex.exit 0,[(.tmp 0,.d (D.sl false E.sv xs)),(.tmp 1,.d (D.sl false E.sv xs)),(.tmp 5,.d (D.bool ok)),(.tmp 6,.d (D.I ((i:Int))))]):=by kernel_rfl
theorem rTurned_0_yes (b:Book)(d:Int)(p:Bool)(i:Nat) :
  runK (mk PR (Yac types) glob 24) [(11,true),(20,true)] [] [] (k_153 [1,1,0,1,0,0]) (Yc7 b d p i) rTurned_K0 =
   some ([decide ((i:Int)<((b.turns.length:Nat):Int))=true,(0:Int)≤(i:Int)∧(i:Int)<((b.turns.length:Nat):Int),0+1≤1,decide (List.getD b.turns (Int.toNat ((i:Int))) (E.z E.int)≤d)=true,Yae ((i:Int)+(1:Int))],Ex.normal,[(.tmp 1,.d (D.I d)),(.tmp 2,.d (D.ptr 2 0)),(.tmp 5,.d (D.bool !p)),(.tmp 6,.d (D.I ((i:Int)+(1:Int)))),(.box 2,.bx (some (Box.mk false (cellsOf (Yag b)))))]):=by kernel_rfl
theorem rTurned_0_no (b:Book)(d:Int)(p:Bool)(i:Nat) :
  runK (mk PR (Yac types) glob 24) [(11,true),(20,false)] [] [] (k_153 [1,1,0,1,0,0]) (Yc7 b d p i) rTurned_K0 =
   some ([decide ((i:Int)<((b.turns.length:Nat):Int))=true,(0:Int)≤(i:Int)∧(i:Int)<((b.turns.length:Nat):Int),0+1≤1,decide (List.getD b.turns (Int.toNat ((i:Int))) (E.z E.int)≤d)=false,Yae ((i:Int)+(1:Int))],Ex.normal,[(.tmp 1,.d (D.I d)),(.tmp 2,.d (D.ptr 2 0)),(.tmp 5,.d (D.bool p)),(.tmp 6,.d (D.I ((i:Int)+(1:Int)))),(.box 2,.bx (some (Box.mk false (cellsOf (Yag b)))))]):=by kernel_rfl
theorem rTurned_0_end (b:Book)(d:Int)(p:Bool)(i:Nat) :
  runK (mk PR (Yac types) glob 24) [(11,false)] [] [] (k_153 [1,1,0,1,0,0]) (Yc7 b d p i) rTurned_K0 =
   some ([decide ((i:Int)<((b.turns.length:Nat):Int))=false],Ex.exit 0,[(.tmp 1,.d (D.I d)),(.tmp 2,.d (D.ptr 2 0)),(.tmp 5,.d (D.bool p)),(.tmp 6,.d (D.I ((i:Int)))),(.box 2,.bx (some (Box.mk false (cellsOf (Yag b)))))]):=by kernel_rfl
theorem rThk0_0_yes (b:Book)(u:Tr1)(d:Int)(t:Int)(i:Nat) :
  runK (mk PR (Yac types) glob 37) [(17,true)] [(22,.bool true)] [] (k_139 [1,1,0,1,0,0]) (Yey b u d t i) rThk0_K0 =
   some ([decide ((i:Int)<d)=true,Contract PR glob 153 [Yag b,D.I ((i:Int))] (D.bool true),Yae ((1:Int)-(0:Int)),(0:Int)≤(1:Int)-(0:Int)∧(1:Int)-(0:Int)<(Nat.cast:Nat→Int) 2,0+2+Int.toNat ((1:Int)-(0:Int))*1+1≤4,Yae (t-Tr1.w1 u),Yae ((i:Int)+(1:Int))],Ex.normal,[(.tmp 2,.d (D.I 0)),(.tmp 3,.d (D.I d)),(.tmp 4,.d (D.ptr 4 0)),(.tmp 5,.d (D.ptr 5 0)),(.tmp 9,.d (D.I (t-Tr1.w1 u))),(.tmp 10,.d (D.I ((i:Int)+(1:Int)))),(.box 4,.bx (some (Box.mk false (cellsOf (Yag b))))),(.box 5,.bx (some (Box.mk false [D.I (Tr1.t0 u),D.I (Tr1.t1 u),D.I (Tr1.w0 u),D.I (Tr1.w1 u)])))]):=by kernel_rfl
theorem rThk0_0_no (b:Book)(u:Tr1)(d:Int)(t:Int)(i:Nat) :
  runK (mk PR (Yac types) glob 37) [(17,true)] [(22,.bool false)] [] (k_139 [1,1,0,1,0,0]) (Yey b u d t i) rThk0_K0 =
   some ([decide ((i:Int)<d)=true,Contract PR glob 153 [Yag b,D.I ((i:Int))] (D.bool false),(0:Int)≤(0:Int)∧(0:Int)<(Nat.cast:Nat→Int) 2,0+2+Int.toNat (0:Int)*1+1≤4,Yae (t-Tr1.w0 u),Yae ((i:Int)+(1:Int))],Ex.normal,[(.tmp 2,.d (D.I 0)),(.tmp 3,.d (D.I d)),(.tmp 4,.d (D.ptr 4 0)),(.tmp 5,.d (D.ptr 5 0)),(.tmp 9,.d (D.I (t-Tr1.w0 u))),(.tmp 10,.d (D.I ((i:Int)+(1:Int)))),(.box 4,.bx (some (Box.mk false (cellsOf (Yag b))))),(.box 5,.bx (some (Box.mk false [D.I (Tr1.t0 u),D.I (Tr1.t1 u),D.I (Tr1.w0 u),D.I (Tr1.w1 u)])))]):=by kernel_rfl
theorem rThk0_0_end (b:Book)(u:Tr1)(d:Int)(t:Int)(i:Nat) :
  runK (mk PR (Yac types) glob 37) [(17,false)] [] [] (k_139 [1,1,0,1,0,0]) (Yey b u d t i) rThk0_K0 =
   some ([decide ((i:Int)<d)=false],Ex.exit 0,[(.tmp 2,.d (D.I 0)),(.tmp 3,.d (D.I d)),(.tmp 4,.d (D.ptr 4 0)),(.tmp 5,.d (D.ptr 5 0)),(.tmp 9,.d (D.I t)),(.tmp 10,.d (D.I ((i:Int)))),(.box 4,.bx (some (Box.mk false (cellsOf (Yag b))))),(.box 5,.bx (some (Box.mk false [D.I (Tr1.t0 u),D.I (Tr1.t1 u),D.I (Tr1.w0 u),D.I (Tr1.w1 u)])))]):=by kernel_rfl
theorem rThk1_0_yes (b:Book)(u:Tr1)(d:Int)(t:Int)(i:Nat) :
  runK (mk PR (Yac types) glob 37) [(17,true)] [(22,.bool true)] [] (k_139 [1,1,0,1,0,0]) (Yex b u d t i) rThk1_K0 =
   some ([decide ((i:Int)<d)=true,Contract PR glob 153 [Yag b,D.I ((i:Int))] (D.bool true),Yae ((1:Int)-(1:Int)),(0:Int)≤(1:Int)-(1:Int)∧(1:Int)-(1:Int)<(Nat.cast:Nat→Int) 2,0+2+Int.toNat ((1:Int)-(1:Int))*1+1≤4,Yae (t-Tr1.w0 u),Yae ((i:Int)+(1:Int))],Ex.normal,[(.tmp 2,.d (D.I 1)),(.tmp 3,.d (D.I d)),(.tmp 4,.d (D.ptr 4 0)),(.tmp 5,.d (D.ptr 5 0)),(.tmp 9,.d (D.I (t-Tr1.w0 u))),(.tmp 10,.d (D.I ((i:Int)+(1:Int)))),(.box 4,.bx (some (Box.mk false (cellsOf (Yag b))))),(.box 5,.bx (some (Box.mk false [D.I (Tr1.t0 u),D.I (Tr1.t1 u),D.I (Tr1.w0 u),D.I (Tr1.w1 u)])))]):=by kernel_rfl
theorem rThk1_0_no (b:Book)(u:Tr1)(d:Int)(t:Int)(i:Nat) :
  runK (mk PR (Yac types) glob 37) [(17,true)] [(22,.bool false)] [] (k_139 [1,1,0,1,0,0]) (Yex b u d t i) rThk1_K0 =
   some ([decide ((i:Int)<d)=true,Contract PR glob 153 [Yag b,D.I ((i:Int))] (D.bool false),(0:Int)≤(1:Int)∧(1:Int)<(Nat.cast:Nat→Int) 2,0+2+Int.toNat (1:Int)*1+1≤4,Yae (t-Tr1.w1 u),Yae ((i:Int)+(1:Int))],Ex.normal,[(.tmp 2,.d (D.I 1)),(.tmp 3,.d (D.I d)),(.tmp 4,.d (D.ptr 4 0)),(.tmp 5,.d (D.ptr 5 0)),(.tmp 9,.d (D.I (t-Tr1.w1 u))),(.tmp 10,.d (D.I ((i:Int)+(1:Int)))),(.box 4,.bx (some (Box.mk false (cellsOf (Yag b))))),(.box 5,.bx (some (Box.mk false [D.I (Tr1.t0 u),D.I (Tr1.t1 u),D.I (Tr1.w0 u),D.I (Tr1.w1 u)])))]):=by kernel_rfl
theorem rThk1_0_end (b:Book)(u:Tr1)(d:Int)(t:Int)(i:Nat) :
  runK (mk PR (Yac types) glob 37) [(17,false)] [] [] (k_139 [1,1,0,1,0,0]) (Yex b u d t i) rThk1_K0 =
   some ([decide ((i:Int)<d)=false],Ex.exit 0,[(.tmp 2,.d (D.I 1)),(.tmp 3,.d (D.I d)),(.tmp 4,.d (D.ptr 4 0)),(.tmp 5,.d (D.ptr 5 0)),(.tmp 9,.d (D.I t)),(.tmp 10,.d (D.I ((i:Int)))),(.box 4,.bx (some (Box.mk false (cellsOf (Yag b))))),(.box 5,.bx (some (Box.mk false [D.I (Tr1.t0 u),D.I (Tr1.t1 u),D.I (Tr1.w0 u),D.I (Tr1.w1 u)])))]):=by kernel_rfl
theorem rRight_0_oth (b:Book)(k:Nat)(u:Tr1)(i:Nat)(o:Nat)(z:Int) :
  runK (mk PR (Yac types) glob 64) [(15,true),(29,true),(34,true),(39,true),(46,false)] [(27,.I (o:Int)),(44,.I (o:Int)),(54,.I z),(62,.bool true)] [] (k_138 [1,0,1,0,0]) (Ya5 b k u i) Ydw =
   let Z0:=List.getD b.svs (Int.toNat ((i:Int))) (E.z E.sv);let Z1:=Sv.s Z0 != (k:Int);let Z2:=Sv.s Z0==(o:Int);let Z3:Prop:=Contract PR glob 137 [Yag b,D.I ((k:Int))] (D.I ((o:Int)));let Z4:Prop:=0+0+1≤4;some ([decide ((i:Int)<((b.svs.length:Nat):Int))=true,(0:Int)≤(i:Int)∧(i:Int)<((b.svs.length:Nat):Int),0+4≤4,Z4,Z3,Z2=true,Z2=true,Z4,Z2=true,Z2=true,Z2=true,Z1=true,Z4,Z1=true,Z1=true,Z4,Z1=true,Z1=true,Z1=true,Z3,Z1=true,Z1=true,(Sv.s Z0 != (o:Int))=false,0+2+1≤4,0+4≤4,0+1+1≤4,Contract PR glob 139 [Yag b,D.agg [D.I (Tr1.t0 u),D.I (Tr1.t1 u),D.I (Tr1.w0 u),D.I (Tr1.w1 u)],D.I 1,D.I (Sv.d Z0)] (D.I z),Yae (Sv.r Z0-z),0+3+1≤4,Yae ((0:Int)-Sv.e Z0),0+3+1≤4,Contract PR glob 51 [D.I (Sv.r Z0-z),D.I ((0:Int)-Sv.e Z0),D.I (Sv.e Z0)] (D.bool true),Yae ((i:Int)+(1:Int))],Ex.normal,[(.tmp 1,.d (D.I ((k:Int)))),(.tmp 3,.d (D.ptr 3 0)),(.tmp 5,.d (D.ptr 5 0)),(.tmp 7,.d (D.I ((i:Int)+(1:Int)))),(.box 3,.bx (some (Box.mk false (cellsOf (Yag b))))),(.box 5,.bx (some (Box.mk false [D.I (Tr1.t0 u),D.I (Tr1.t1 u),D.I (Tr1.w0 u),D.I (Tr1.w1 u)])))]):=by kernel_rfl
theorem rRight_0_othx (b:Book)(k:Nat)(u:Tr1)(i:Nat)(o:Nat)(z:Int) :
  runK (mk PR (Yac types) glob 64) [(15,true),(29,true),(34,true),(39,true),(46,false)] [(27,.I (o:Int)),(44,.I (o:Int)),(54,.I z),(62,.bool false)] [] (k_138 [1,0,1,0,0]) (Ya5 b k u i) [.tmp 1,.tmp 3,.tmp 5,.tmp 7,.box 3,.box 5,.tmp 6] =
   let Z0:=List.getD b.svs (Int.toNat ((i:Int))) (E.z E.sv);let Z1:=Sv.s Z0 != (k:Int);let Z2:=Sv.s Z0==(o:Int);let Z3:Prop:=Contract PR glob 137 [Yag b,D.I ((k:Int))] (D.I ((o:Int)));let Z4:Prop:=0+0+1≤4;some ([decide ((i:Int)<((b.svs.length:Nat):Int))=true,(0:Int)≤(i:Int)∧(i:Int)<((b.svs.length:Nat):Int),0+4≤4,Z4,Z3,Z2=true,Z2=true,Z4,Z2=true,Z2=true,Z2=true,Z1=true,Z4,Z1=true,Z1=true,Z4,Z1=true,Z1=true,Z1=true,Z3,Z1=true,Z1=true,(Sv.s Z0 != (o:Int))=false,0+2+1≤4,0+4≤4,0+1+1≤4,Contract PR glob 139 [Yag b,D.agg [D.I (Tr1.t0 u),D.I (Tr1.t1 u),D.I (Tr1.w0 u),D.I (Tr1.w1 u)],D.I 1,D.I (Sv.d Z0)] (D.I z),Yae (Sv.r Z0-z),0+3+1≤4,Yae ((0:Int)-Sv.e Z0),0+3+1≤4,Contract PR glob 51 [D.I (Sv.r Z0-z),D.I ((0:Int)-Sv.e Z0),D.I (Sv.e Z0)] (D.bool false)],Ex.ret,[(.tmp 1,.d (D.I ((k:Int)))),(.tmp 3,.d (D.ptr 3 0)),(.tmp 5,.d (D.ptr 5 0)),(.tmp 7,.d (D.I ((i:Int)))),(.box 3,.bx (some (Box.mk false (cellsOf (Yag b))))),(.box 5,.bx (some (Box.mk false [D.I (Tr1.t0 u),D.I (Tr1.t1 u),D.I (Tr1.w0 u),D.I (Tr1.w1 u)]))),(.tmp 6,.d (D.bool false))]):=by kernel_rfl
theorem rRight_0_slf (b:Book)(k:Nat)(u:Tr1)(i:Nat)(o:Nat)(z:Int) :
  runK (mk PR (Yac types) glob 64) [(15,true),(29,false),(39,false)] [(27,.I (o:Int)),(44,.I (o:Int)),(54,.I z),(62,.bool true)] [] (k_138 [1,0,1,0,0]) (Ya5 b k u i) Ydw =
   let Z0:=List.getD b.svs (Int.toNat ((i:Int))) (E.z E.sv);let Z1:=Sv.s Z0 != (k:Int);let Z2:=Sv.s Z0==(o:Int);some ([decide ((i:Int)<((b.svs.length:Nat):Int))=true,(0:Int)≤(i:Int)∧(i:Int)<((b.svs.length:Nat):Int),0+4≤4,0+0+1≤4,Contract PR glob 137 [Yag b,D.I ((k:Int))] (D.I ((o:Int))),Z2=false,Z2=false,Z2=false,Z2=false,Z2=false,0+0+1≤4,Z1=false,Z1=false,Z1=false,Z1=false,Z1=false,Z1=false,Z1=false,0+2+1≤4,0+4≤4,0+1+1≤4,Contract PR glob 139 [Yag b,D.agg [D.I (Tr1.t0 u),D.I (Tr1.t1 u),D.I (Tr1.w0 u),D.I (Tr1.w1 u)],D.I 0,D.I (Sv.d Z0)] (D.I z),Yae (Sv.r Z0-z),0+3+1≤4,Yae ((0:Int)-Sv.e Z0),0+3+1≤4,Contract PR glob 51 [D.I (Sv.r Z0-z),D.I ((0:Int)-Sv.e Z0),D.I (Sv.e Z0)] (D.bool true),Yae ((i:Int)+(1:Int))],Ex.normal,[(.tmp 1,.d (D.I ((k:Int)))),(.tmp 3,.d (D.ptr 3 0)),(.tmp 5,.d (D.ptr 5 0)),(.tmp 7,.d (D.I ((i:Int)+(1:Int)))),(.box 3,.bx (some (Box.mk false (cellsOf (Yag b))))),(.box 5,.bx (some (Box.mk false [D.I (Tr1.t0 u),D.I (Tr1.t1 u),D.I (Tr1.w0 u),D.I (Tr1.w1 u)])))]):=by kernel_rfl
theorem rRight_0_slfx (b:Book)(k:Nat)(u:Tr1)(i:Nat)(o:Nat)(z:Int) :
  runK (mk PR (Yac types) glob 64) [(15,true),(29,false),(39,false)] [(27,.I (o:Int)),(44,.I (o:Int)),(54,.I z),(62,.bool false)] [] (k_138 [1,0,1,0,0]) (Ya5 b k u i) [.tmp 1,.tmp 3,.tmp 5,.tmp 7,.box 3,.box 5,.tmp 6] =
   let Z0:=List.getD b.svs (Int.toNat ((i:Int))) (E.z E.sv);let Z1:=Sv.s Z0 != (k:Int);let Z2:=Sv.s Z0==(o:Int);some ([decide ((i:Int)<((b.svs.length:Nat):Int))=true,(0:Int)≤(i:Int)∧(i:Int)<((b.svs.length:Nat):Int),0+4≤4,0+0+1≤4,Contract PR glob 137 [Yag b,D.I ((k:Int))] (D.I ((o:Int))),Z2=false,Z2=false,Z2=false,Z2=false,Z2=false,0+0+1≤4,Z1=false,Z1=false,Z1=false,Z1=false,Z1=false,Z1=false,Z1=false,0+2+1≤4,0+4≤4,0+1+1≤4,Contract PR glob 139 [Yag b,D.agg [D.I (Tr1.t0 u),D.I (Tr1.t1 u),D.I (Tr1.w0 u),D.I (Tr1.w1 u)],D.I 0,D.I (Sv.d Z0)] (D.I z),Yae (Sv.r Z0-z),0+3+1≤4,Yae ((0:Int)-Sv.e Z0),0+3+1≤4,Contract PR glob 51 [D.I (Sv.r Z0-z),D.I ((0:Int)-Sv.e Z0),D.I (Sv.e Z0)] (D.bool false)],Ex.ret,[(.tmp 1,.d (D.I ((k:Int)))),(.tmp 3,.d (D.ptr 3 0)),(.tmp 5,.d (D.ptr 5 0)),(.tmp 7,.d (D.I ((i:Int)))),(.box 3,.bx (some (Box.mk false (cellsOf (Yag b))))),(.box 5,.bx (some (Box.mk false [D.I (Tr1.t0 u),D.I (Tr1.t1 u),D.I (Tr1.w0 u),D.I (Tr1.w1 u)]))),(.tmp 6,.d (D.bool false))]):=by kernel_rfl
theorem rRight_0_mid (b:Book)(k:Nat)(u:Tr1)(i:Nat)(o:Nat)(z:Int) :
  runK (mk PR (Yac types) glob 64) [(15,true),(29,true),(34,false),(39,false)] [(27,.I (o:Int)),(44,.I (o:Int)),(54,.I z),(62,.bool true)] [] (k_138 [1,0,1,0,0]) (Ya5 b k u i) Ydw =
   let Z0:=List.getD b.svs (Int.toNat ((i:Int))) (E.z E.sv);let Z1:=Sv.s Z0 != (k:Int);let Z2:=Sv.s Z0==(o:Int);some ([decide ((i:Int)<((b.svs.length:Nat):Int))=true,(0:Int)≤(i:Int)∧(i:Int)<((b.svs.length:Nat):Int),0+4≤4,0+0+1≤4,Contract PR glob 137 [Yag b,D.I ((k:Int))] (D.I ((o:Int))),Z2=true,Z2=true,0+0+1≤4,Z2=true,Z2=true,Z2=true,Z1=false,0+0+1≤4,Z1=false,Z1=false,Z1=false,Z1=false,Z1=false,Z1=false,Z1=false,0+2+1≤4,0+4≤4,0+1+1≤4,Contract PR glob 139 [Yag b,D.agg [D.I (Tr1.t0 u),D.I (Tr1.t1 u),D.I (Tr1.w0 u),D.I (Tr1.w1 u)],D.I 0,D.I (Sv.d Z0)] (D.I z),Yae (Sv.r Z0-z),0+3+1≤4,Yae ((0:Int)-Sv.e Z0),0+3+1≤4,Contract PR glob 51 [D.I (Sv.r Z0-z),D.I ((0:Int)-Sv.e Z0),D.I (Sv.e Z0)] (D.bool true),Yae ((i:Int)+(1:Int))],Ex.normal,[(.tmp 1,.d (D.I ((k:Int)))),(.tmp 3,.d (D.ptr 3 0)),(.tmp 5,.d (D.ptr 5 0)),(.tmp 7,.d (D.I ((i:Int)+(1:Int)))),(.box 3,.bx (some (Box.mk false (cellsOf (Yag b))))),(.box 5,.bx (some (Box.mk false [D.I (Tr1.t0 u),D.I (Tr1.t1 u),D.I (Tr1.w0 u),D.I (Tr1.w1 u)])))]):=by kernel_rfl
theorem rRight_0_midx (b:Book)(k:Nat)(u:Tr1)(i:Nat)(o:Nat)(z:Int) :
  runK (mk PR (Yac types) glob 64) [(15,true),(29,true),(34,false),(39,false)] [(27,.I (o:Int)),(44,.I (o:Int)),(54,.I z),(62,.bool false)] [] (k_138 [1,0,1,0,0]) (Ya5 b k u i) [.tmp 1,.tmp 3,.tmp 5,.tmp 7,.box 3,.box 5,.tmp 6] =
   let Z0:=List.getD b.svs (Int.toNat ((i:Int))) (E.z E.sv);let Z1:=Sv.s Z0 != (k:Int);let Z2:=Sv.s Z0==(o:Int);some ([decide ((i:Int)<((b.svs.length:Nat):Int))=true,(0:Int)≤(i:Int)∧(i:Int)<((b.svs.length:Nat):Int),0+4≤4,0+0+1≤4,Contract PR glob 137 [Yag b,D.I ((k:Int))] (D.I ((o:Int))),Z2=true,Z2=true,0+0+1≤4,Z2=true,Z2=true,Z2=true,Z1=false,0+0+1≤4,Z1=false,Z1=false,Z1=false,Z1=false,Z1=false,Z1=false,Z1=false,0+2+1≤4,0+4≤4,0+1+1≤4,Contract PR glob 139 [Yag b,D.agg [D.I (Tr1.t0 u),D.I (Tr1.t1 u),D.I (Tr1.w0 u),D.I (Tr1.w1 u)],D.I 0,D.I (Sv.d Z0)] (D.I z),Yae (Sv.r Z0-z),0+3+1≤4,Yae ((0:Int)-Sv.e Z0),0+3+1≤4,Contract PR glob 51 [D.I (Sv.r Z0-z),D.I ((0:Int)-Sv.e Z0),D.I (Sv.e Z0)] (D.bool false)],Ex.ret,[(.tmp 1,.d (D.I ((k:Int)))),(.tmp 3,.d (D.ptr 3 0)),(.tmp 5,.d (D.ptr 5 0)),(.tmp 7,.d (D.I ((i:Int)))),(.box 3,.bx (some (Box.mk false (cellsOf (Yag b))))),(.box 5,.bx (some (Box.mk false [D.I (Tr1.t0 u),D.I (Tr1.t1 u),D.I (Tr1.w0 u),D.I (Tr1.w1 u)]))),(.tmp 6,.d (D.bool false))]):=by kernel_rfl
theorem rRight_0_skip (b:Book)(k:Nat)(u:Tr1)(i:Nat)(o:Nat)(z:Int) :
  runK (mk PR (Yac types) glob 64) [(15,true),(29,false),(39,true),(46,true)] [(27,.I (o:Int)),(44,.I (o:Int)),(54,.I z)] [] (k_138 [1,0,1,0,0]) (Ya5 b k u i) Ydw =
   let Z0:=List.getD b.svs (Int.toNat ((i:Int))) (E.z E.sv);let Z1:=Sv.s Z0 != (k:Int);let Z2:=Sv.s Z0==(o:Int);let Z3:Prop:=Contract PR glob 137 [Yag b,D.I ((k:Int))] (D.I ((o:Int)));some ([decide ((i:Int)<((b.svs.length:Nat):Int))=true,(0:Int)≤(i:Int)∧(i:Int)<((b.svs.length:Nat):Int),0+4≤4,0+0+1≤4,Z3,Z2=false,Z2=false,Z2=false,Z2=false,Z2=false,0+0+1≤4,Z1=true,Z1=true,0+0+1≤4,Z1=true,Z1=true,Z1=true,Z3,Z1=true,Z1=true,(Sv.s Z0 != (o:Int))=true,Yae ((i:Int)+(1:Int))],Ex.normal,[(.tmp 1,.d (D.I ((k:Int)))),(.tmp 3,.d (D.ptr 3 0)),(.tmp 5,.d (D.ptr 5 0)),(.tmp 7,.d (D.I ((i:Int)+(1:Int)))),(.box 3,.bx (some (Box.mk false (cellsOf (Yag b))))),(.box 5,.bx (some (Box.mk false [D.I (Tr1.t0 u),D.I (Tr1.t1 u),D.I (Tr1.w0 u),D.I (Tr1.w1 u)])))]):=by kernel_rfl
theorem rRight_0_end (b:Book)(k:Nat)(u:Tr1)(i:Nat) :
  runK (mk PR (Yac types) glob 64) [(15,false)] [] [] (k_138 [1,0,1,0,0]) (Ya5 b k u i) Ydw =
   some ([decide ((i:Int)<((b.svs.length:Nat):Int))=false],Ex.exit 0,[(.tmp 1,.d (D.I ((k:Int)))),(.tmp 3,.d (D.ptr 3 0)),(.tmp 5,.d (D.ptr 5 0)),(.tmp 7,.d (D.I ((i:Int)))),(.box 3,.bx (some (Box.mk false (cellsOf (Yag b))))),(.box 5,.bx (some (Box.mk false [D.I (Tr1.t0 u),D.I (Tr1.t1 u),D.I (Tr1.w0 u),D.I (Tr1.w1 u)])))]):=by kernel_rfl
theorem trA_6_skip1 (b:Book)(k:Nat)(o:Nat)(t0 t1 w0 w1:Int) :
  runK (mk PR (Yac types) glob 96) [(62,true),(70,true),(74,true)] [(22,.I (o:Int)),(68,.I (o:Int))] [] (Ybx [1,1,1,0,1,0,0,1,0,0,1,0,0,1,0,0,1,0,0,1,0,0,1,0,0]) (trA_S6 b k o t0 t1 w0 w1) trA_K6 =
   let Z0:=List.getD b.secs o sec0;let Z1:=List.getD b.secs k sec0;some ([0+2+1+1≤4,decide (w1≤Span.hi (Sec.w Z0))=true,Contract PR glob 137 [Yag b,D.I ((k:Int))] (D.I ((o:Int))),((k:Int)==(o:Int))=true,((k:Int)==(o:Int))=true,((k:Int)==(o:Int))=true,((k:Int)==(o:Int))=true,(t0 != t1)=true,(t0 != t1)=true,(t0 != t1)=true,((k:Int)==(o:Int))=true,(t0 != t1)=true,((k:Int)==(o:Int))=true,Yae (w1+(1:Int))],Ex.normal,[(.tmp 1,.d (D.I ((k:Int)))),(.tmp 2,.d (D.ptr 2 0)),(.tmp 5,.d (D.sl true E.tr1 [])),(.tmp 6,.d (D.ptr 6 0)),(.tmp 7,.d (D.ptr 7 0)),(.tmp 8,.d (D.I t0)),(.tmp 9,.d (D.I t1)),(.tmp 10,.d (D.I w0)),(.tmp 11,.d (D.I (w1+(1:Int)))),(.box 2,.bx (some (Box.mk false (cellsOf (Yag b))))),(.box 6,.bx (some (Box.mk false [D.I (Span.lo (Sec.t Z1)),D.I (Span.hi (Sec.t Z1)),D.I (Span.lo (Sec.w Z1)),D.I (Span.hi (Sec.w Z1))]))),(.box 7,.bx (some (Box.mk false [D.I (Span.lo (Sec.t Z0)),D.I (Span.hi (Sec.t Z0)),D.I (Span.lo (Sec.w Z0)),D.I (Span.hi (Sec.w Z0))]))),(.obj 94,.ob Option.none)]):=by kernel_rfl
theorem trA_6_skip2 (b:Book)(k:Nat)(o:Nat)(t0 t1 w0 w1:Int) :
  runK (mk PR (Yac types) glob 96) [(62,true),(70,true),(74,false),(79,true)] [(22,.I (o:Int)),(68,.I (o:Int))] [] (Ybx [1,1,1,0,1,0,0,1,0,0,1,0,0,1,0,0,1,0,0,1,0,0,1,0,0]) (trA_S6 b k o t0 t1 w0 w1) trA_K6 =
   let Z0:=List.getD b.secs o sec0;let Z1:=List.getD b.secs k sec0;some ([0+2+1+1≤4,decide (w1≤Span.hi (Sec.w Z0))=true,Contract PR glob 137 [Yag b,D.I ((k:Int))] (D.I ((o:Int))),((k:Int)==(o:Int))=true,((k:Int)==(o:Int))=true,((k:Int)==(o:Int))=true,((k:Int)==(o:Int))=true,(t0 != t1)=false,(t0 != t1)=false,(t0 != t1)=false,((k:Int)==(o:Int))=true,(t0 != t1)=false,((k:Int)==(o:Int))=true,(w0 != w1)=true,Yae (w1+(1:Int))],Ex.normal,[(.tmp 1,.d (D.I ((k:Int)))),(.tmp 2,.d (D.ptr 2 0)),(.tmp 5,.d (D.sl true E.tr1 [])),(.tmp 6,.d (D.ptr 6 0)),(.tmp 7,.d (D.ptr 7 0)),(.tmp 8,.d (D.I t0)),(.tmp 9,.d (D.I t1)),(.tmp 10,.d (D.I w0)),(.tmp 11,.d (D.I (w1+(1:Int)))),(.box 2,.bx (some (Box.mk false (cellsOf (Yag b))))),(.box 6,.bx (some (Box.mk false [D.I (Span.lo (Sec.t Z1)),D.I (Span.hi (Sec.t Z1)),D.I (Span.lo (Sec.w Z1)),D.I (Span.hi (Sec.w Z1))]))),(.box 7,.bx (some (Box.mk false [D.I (Span.lo (Sec.t Z0)),D.I (Span.hi (Sec.t Z0)),D.I (Span.lo (Sec.w Z0)),D.I (Span.hi (Sec.w Z0))]))),(.obj 94,.ob Option.none)]):=by kernel_rfl
theorem trA_6_n1 (b:Book)(k:Nat)(o:Nat)(t0 t1 w0 w1:Int) :
  runK (mk PR (Yac types) glob 96) [(62,true),(70,false)] [(22,.I (o:Int)),(68,.I (o:Int)),(90,.bool true)] [] (Ybx [1,1,1,0,1,0,0,1,0,0,1,0,0,1,0,0,1,0,0,1,0,0,1,0,0]) (trA_S6 b k o t0 t1 w0 w1) trB_K6 =
   let Z0:=List.getD b.secs o sec0;let Z1:=List.getD b.secs k sec0;some ([0+2+1+1≤4,decide (w1≤Span.hi (Sec.w Z0))=true,Contract PR glob 137 [Yag b,D.I ((k:Int))] (D.I ((o:Int))),((k:Int)==(o:Int))=false,((k:Int)==(o:Int))=false,((k:Int)==(o:Int))=false,((k:Int)==(o:Int))=false,((k:Int)==(o:Int))=false,((k:Int)==(o:Int))=false,0+4≤4,Contract PR glob 138 [Yag b,D.I ((k:Int)),D.agg [D.I t0,D.I t1,D.I w0,D.I w1]] (D.bool true),0+4≤4,1*(32+1)≤140737488355328,Yae (w1+(1:Int))],Ex.normal,[(.tmp 1,.d (D.I ((k:Int)))),(.tmp 2,.d (D.ptr 2 0)),(.tmp 5,.d (D.own 94 1)),(.tmp 6,.d (D.ptr 6 0)),(.tmp 7,.d (D.ptr 7 0)),(.tmp 8,.d (D.I t0)),(.tmp 9,.d (D.I t1)),(.tmp 10,.d (D.I w0)),(.tmp 11,.d (D.I (w1+(1:Int)))),(.box 2,.bx (some (Box.mk false (cellsOf (Yag b))))),(.box 6,.bx (some (Box.mk false [D.I (Span.lo (Sec.t Z1)),D.I (Span.hi (Sec.t Z1)),D.I (Span.lo (Sec.w Z1)),D.I (Span.hi (Sec.w Z1))]))),(.box 7,.bx (some (Box.mk false [D.I (Span.lo (Sec.t Z0)),D.I (Span.hi (Sec.t Z0)),D.I (Span.lo (Sec.w Z0)),D.I (Span.hi (Sec.w Z0))]))),(.obj 94,.ob (some (Ob.mk E.tr1 ([]++[Tr1.mk t0 t1 w0 w1]))))]):=by kernel_rfl
theorem trA_6_n0 (b:Book)(k:Nat)(o:Nat)(t0 t1 w0 w1:Int) :
  runK (mk PR (Yac types) glob 96) [(62,true),(70,false)] [(22,.I (o:Int)),(68,.I (o:Int)),(90,.bool false)] [] (Ybx [1,1,1,0,1,0,0,1,0,0,1,0,0,1,0,0,1,0,0,1,0,0,1,0,0]) (trA_S6 b k o t0 t1 w0 w1) trA_K6 =
   let Z0:=List.getD b.secs o sec0;let Z1:=List.getD b.secs k sec0;some ([0+2+1+1≤4,decide (w1≤Span.hi (Sec.w Z0))=true,Contract PR glob 137 [Yag b,D.I ((k:Int))] (D.I ((o:Int))),((k:Int)==(o:Int))=false,((k:Int)==(o:Int))=false,((k:Int)==(o:Int))=false,((k:Int)==(o:Int))=false,((k:Int)==(o:Int))=false,((k:Int)==(o:Int))=false,0+4≤4,Contract PR glob 138 [Yag b,D.I ((k:Int)),D.agg [D.I t0,D.I t1,D.I w0,D.I w1]] (D.bool false),Yae (w1+(1:Int))],Ex.normal,[(.tmp 1,.d (D.I ((k:Int)))),(.tmp 2,.d (D.ptr 2 0)),(.tmp 5,.d (D.sl true E.tr1 [])),(.tmp 6,.d (D.ptr 6 0)),(.tmp 7,.d (D.ptr 7 0)),(.tmp 8,.d (D.I t0)),(.tmp 9,.d (D.I t1)),(.tmp 10,.d (D.I w0)),(.tmp 11,.d (D.I (w1+(1:Int)))),(.box 2,.bx (some (Box.mk false (cellsOf (Yag b))))),(.box 6,.bx (some (Box.mk false [D.I (Span.lo (Sec.t Z1)),D.I (Span.hi (Sec.t Z1)),D.I (Span.lo (Sec.w Z1)),D.I (Span.hi (Sec.w Z1))]))),(.box 7,.bx (some (Box.mk false [D.I (Span.lo (Sec.t Z0)),D.I (Span.hi (Sec.t Z0)),D.I (Span.lo (Sec.w Z0)),D.I (Span.hi (Sec.w Z0))]))),(.obj 94,.ob Option.none)]):=by kernel_rfl
theorem trA_6_e1 (b:Book)(k:Nat)(o:Nat)(t0 t1 w0 w1:Int) :
  runK (mk PR (Yac types) glob 96) [(62,true),(70,true),(74,false),(79,false)] [(22,.I (o:Int)),(68,.I (o:Int)),(90,.bool true)] [] (Ybx [1,1,1,0,1,0,0,1,0,0,1,0,0,1,0,0,1,0,0,1,0,0,1,0,0]) (trA_S6 b k o t0 t1 w0 w1) trB_K6 =
   let Z0:=List.getD b.secs o sec0;let Z1:=List.getD b.secs k sec0;some ([0+2+1+1≤4,decide (w1≤Span.hi (Sec.w Z0))=true,Contract PR glob 137 [Yag b,D.I ((k:Int))] (D.I ((o:Int))),((k:Int)==(o:Int))=true,((k:Int)==(o:Int))=true,((k:Int)==(o:Int))=true,((k:Int)==(o:Int))=true,(t0 != t1)=false,(t0 != t1)=false,(t0 != t1)=false,((k:Int)==(o:Int))=true,(t0 != t1)=false,((k:Int)==(o:Int))=true,(w0 != w1)=false,0+4≤4,Contract PR glob 138 [Yag b,D.I ((k:Int)),D.agg [D.I t0,D.I t1,D.I w0,D.I w1]] (D.bool true),0+4≤4,1*(32+1)≤140737488355328,Yae (w1+(1:Int))],Ex.normal,[(.tmp 1,.d (D.I ((k:Int)))),(.tmp 2,.d (D.ptr 2 0)),(.tmp 5,.d (D.own 94 1)),(.tmp 6,.d (D.ptr 6 0)),(.tmp 7,.d (D.ptr 7 0)),(.tmp 8,.d (D.I t0)),(.tmp 9,.d (D.I t1)),(.tmp 10,.d (D.I w0)),(.tmp 11,.d (D.I (w1+(1:Int)))),(.box 2,.bx (some (Box.mk false (cellsOf (Yag b))))),(.box 6,.bx (some (Box.mk false [D.I (Span.lo (Sec.t Z1)),D.I (Span.hi (Sec.t Z1)),D.I (Span.lo (Sec.w Z1)),D.I (Span.hi (Sec.w Z1))]))),(.box 7,.bx (some (Box.mk false [D.I (Span.lo (Sec.t Z0)),D.I (Span.hi (Sec.t Z0)),D.I (Span.lo (Sec.w Z0)),D.I (Span.hi (Sec.w Z0))]))),(.obj 94,.ob (some (Ob.mk E.tr1 ([]++[Tr1.mk t0 t1 w0 w1]))))]):=by kernel_rfl
theorem trA_6_e0 (b:Book)(k:Nat)(o:Nat)(t0 t1 w0 w1:Int) :
  runK (mk PR (Yac types) glob 96) [(62,true),(70,true),(74,false),(79,false)] [(22,.I (o:Int)),(68,.I (o:Int)),(90,.bool false)] [] (Ybx [1,1,1,0,1,0,0,1,0,0,1,0,0,1,0,0,1,0,0,1,0,0,1,0,0]) (trA_S6 b k o t0 t1 w0 w1) trA_K6 =
   let Z0:=List.getD b.secs o sec0;let Z1:=List.getD b.secs k sec0;some ([0+2+1+1≤4,decide (w1≤Span.hi (Sec.w Z0))=true,Contract PR glob 137 [Yag b,D.I ((k:Int))] (D.I ((o:Int))),((k:Int)==(o:Int))=true,((k:Int)==(o:Int))=true,((k:Int)==(o:Int))=true,((k:Int)==(o:Int))=true,(t0 != t1)=false,(t0 != t1)=false,(t0 != t1)=false,((k:Int)==(o:Int))=true,(t0 != t1)=false,((k:Int)==(o:Int))=true,(w0 != w1)=false,0+4≤4,Contract PR glob 138 [Yag b,D.I ((k:Int)),D.agg [D.I t0,D.I t1,D.I w0,D.I w1]] (D.bool false),Yae (w1+(1:Int))],Ex.normal,[(.tmp 1,.d (D.I ((k:Int)))),(.tmp 2,.d (D.ptr 2 0)),(.tmp 5,.d (D.sl true E.tr1 [])),(.tmp 6,.d (D.ptr 6 0)),(.tmp 7,.d (D.ptr 7 0)),(.tmp 8,.d (D.I t0)),(.tmp 9,.d (D.I t1)),(.tmp 10,.d (D.I w0)),(.tmp 11,.d (D.I (w1+(1:Int)))),(.box 2,.bx (some (Box.mk false (cellsOf (Yag b))))),(.box 6,.bx (some (Box.mk false [D.I (Span.lo (Sec.t Z1)),D.I (Span.hi (Sec.t Z1)),D.I (Span.lo (Sec.w Z1)),D.I (Span.hi (Sec.w Z1))]))),(.box 7,.bx (some (Box.mk false [D.I (Span.lo (Sec.t Z0)),D.I (Span.hi (Sec.t Z0)),D.I (Span.lo (Sec.w Z0)),D.I (Span.hi (Sec.w Z0))]))),(.obj 94,.ob Option.none)]):=by kernel_rfl
theorem trA_6_end (b:Book)(k:Nat)(o:Nat)(t0 t1 w0 w1:Int) :
  runK (mk PR (Yac types) glob 96) [(62,false)] [] [] (Ybx [1,1,1,0,1,0,0,1,0,0,1,0,0,1,0,0,1,0,0,1,0,0,1,0,0]) (trA_S6 b k o t0 t1 w0 w1) trA_K6 =
   let Z0:=List.getD b.secs o sec0;let Z1:=List.getD b.secs k sec0;some ([0+2+1+1≤4,decide (w1≤Span.hi (Sec.w Z0))=false],Ex.exit 6,[(.tmp 1,.d (D.I ((k:Int)))),(.tmp 2,.d (D.ptr 2 0)),(.tmp 5,.d (D.sl true E.tr1 [])),(.tmp 6,.d (D.ptr 6 0)),(.tmp 7,.d (D.ptr 7 0)),(.tmp 8,.d (D.I t0)),(.tmp 9,.d (D.I t1)),(.tmp 10,.d (D.I w0)),(.tmp 11,.d (D.I w1)),(.box 2,.bx (some (Box.mk false (cellsOf (Yag b))))),(.box 6,.bx (some (Box.mk false [D.I (Span.lo (Sec.t Z1)),D.I (Span.hi (Sec.t Z1)),D.I (Span.lo (Sec.w Z1)),D.I (Span.hi (Sec.w Z1))]))),(.box 7,.bx (some (Box.mk false [D.I (Span.lo (Sec.t Z0)),D.I (Span.hi (Sec.t Z0)),D.I (Span.lo (Sec.w Z0)),D.I (Span.hi (Sec.w Z0))]))),(.obj 94,.ob Option.none)]):=by kernel_rfl
theorem trA_4_nil (b:Book)(k:Nat)(o:Nat)(t0 t1 w0:Int)(w1:Int) :
  runK (mk PR (Yac types) glob 96) [(52,true)] [(22,.I (o:Int)),(68,.I (o:Int))] [(6,(trA_K6,(.normal,trA_S6 b k o t0 t1 w0 w1)))] (Ybx [1,1,1,0,1,0,0,1,0,0,1,0,0,1,0,0,1,0,0]) (trA_S4 b k o t0 t1 w0) trA_K4 =
   let Z0:=List.getD b.secs k sec0;let Z1:=List.getD b.secs o sec0;let Z2:=Span.lo (Sec.w Z1);some ([0+2+1+1≤4,decide (w0≤Span.hi (Sec.w Z0))=true,0+2+0+1≤4,LoopT PR glob 96 (Ybx [1,1,1,0,1,0,0,1,0,0,1,0,0,1,0,0,1,0,0,1,0,0,1]) [(.tmp 1,.d (D.I ((k:Int)))),(.tmp 2,.d (D.ptr 2 0)),(.tmp 5,.d (D.sl true E.tr1 [])),(.tmp 6,.d (D.ptr 6 0)),(.tmp 7,.d (D.ptr 7 0)),(.tmp 8,.d (D.I t0)),(.tmp 9,.d (D.I t1)),(.tmp 10,.d (D.I w0)),(.tmp 11,.d (D.I Z2)),(.box 2,.bx (some (Box.mk false (cellsOf (Yag b))))),(.box 6,.bx (some (Box.mk false [D.I (Span.lo (Sec.t Z0)),D.I (Span.hi (Sec.t Z0)),D.I (Span.lo (Sec.w Z0)),D.I (Span.hi (Sec.w Z0))]))),(.box 7,.bx (some (Box.mk false [D.I (Span.lo (Sec.t Z1)),D.I (Span.hi (Sec.t Z1)),D.I Z2,D.I (Span.hi (Sec.w Z1))]))),(.obj 94,.ob Option.none)] Ex.normal (trA_S6 b k o t0 t1 w0 w1),Yae (w0+(1:Int))],Ex.normal,[(.tmp 1,.d (D.I ((k:Int)))),(.tmp 2,.d (D.ptr 2 0)),(.tmp 5,.d (D.sl true E.tr1 [])),(.tmp 6,.d (D.ptr 6 0)),(.tmp 7,.d (D.ptr 7 0)),(.tmp 8,.d (D.I t0)),(.tmp 9,.d (D.I t1)),(.tmp 10,.d (D.I (w0+(1:Int)))),(.box 2,.bx (some (Box.mk false (cellsOf (Yag b))))),(.box 6,.bx (some (Box.mk false [D.I (Span.lo (Sec.t Z0)),D.I (Span.hi (Sec.t Z0)),D.I (Span.lo (Sec.w Z0)),D.I (Span.hi (Sec.w Z0))]))),(.box 7,.bx (some (Box.mk false [D.I (Span.lo (Sec.t Z1)),D.I (Span.hi (Sec.t Z1)),D.I Z2,D.I (Span.hi (Sec.w Z1))]))),(.obj 94,.ob Option.none)]):=by kernel_rfl
theorem trA_4_on (b:Book)(k:Nat)(o:Nat)(t0 t1 w0:Int)(w1:Int)(y2:Tr1)(r2:List Tr1) :
  runK (mk PR (Yac types) glob 96) [(52,true)] [(22,.I (o:Int)),(68,.I (o:Int))] [(6,(trB_K6,(.normal,trB_S6 b k o t0 t1 w0 w1 y2 r2)))] (Ybx [1,1,1,0,1,0,0,1,0,0,1,0,0,1,0,0,1,0,0]) (trA_S4 b k o t0 t1 w0) trB_K4 =
   let Z0:=List.getD b.secs k sec0;let Z1:=List.getD b.secs o sec0;let Z2:=Span.lo (Sec.w Z1);some ([0+2+1+1≤4,decide (w0≤Span.hi (Sec.w Z0))=true,0+2+0+1≤4,LoopT PR glob 96 (Ybx [1,1,1,0,1,0,0,1,0,0,1,0,0,1,0,0,1,0,0,1,0,0,1]) [(.tmp 1,.d (D.I ((k:Int)))),(.tmp 2,.d (D.ptr 2 0)),(.tmp 5,.d (D.sl true E.tr1 [])),(.tmp 6,.d (D.ptr 6 0)),(.tmp 7,.d (D.ptr 7 0)),(.tmp 8,.d (D.I t0)),(.tmp 9,.d (D.I t1)),(.tmp 10,.d (D.I w0)),(.tmp 11,.d (D.I Z2)),(.box 2,.bx (some (Box.mk false (cellsOf (Yag b))))),(.box 6,.bx (some (Box.mk false [D.I (Span.lo (Sec.t Z0)),D.I (Span.hi (Sec.t Z0)),D.I (Span.lo (Sec.w Z0)),D.I (Span.hi (Sec.w Z0))]))),(.box 7,.bx (some (Box.mk false [D.I (Span.lo (Sec.t Z1)),D.I (Span.hi (Sec.t Z1)),D.I Z2,D.I (Span.hi (Sec.w Z1))]))),(.obj 94,.ob Option.none)] Ex.normal (trB_S6 b k o t0 t1 w0 w1 y2 r2),Yae (w0+(1:Int))],Ex.normal,[(.tmp 1,.d (D.I ((k:Int)))),(.tmp 2,.d (D.ptr 2 0)),(.tmp 5,.d (D.own 94 ((y2::r2).length))),(.tmp 6,.d (D.ptr 6 0)),(.tmp 7,.d (D.ptr 7 0)),(.tmp 8,.d (D.I t0)),(.tmp 9,.d (D.I t1)),(.tmp 10,.d (D.I (w0+(1:Int)))),(.box 2,.bx (some (Box.mk false (cellsOf (Yag b))))),(.box 6,.bx (some (Box.mk false [D.I (Span.lo (Sec.t Z0)),D.I (Span.hi (Sec.t Z0)),D.I (Span.lo (Sec.w Z0)),D.I (Span.hi (Sec.w Z0))]))),(.box 7,.bx (some (Box.mk false [D.I (Span.lo (Sec.t Z1)),D.I (Span.hi (Sec.t Z1)),D.I Z2,D.I (Span.hi (Sec.w Z1))]))),(.obj 94,.ob (some (Ob.mk E.tr1 (y2::r2))))]):=by kernel_rfl
theorem trA_4_end (b:Book)(k:Nat)(o:Nat)(t0 t1 w0:Int) :
  runK (mk PR (Yac types) glob 96) [(52,false)] [] [] (Ybx [1,1,1,0,1,0,0,1,0,0,1,0,0,1,0,0,1,0,0]) (trA_S4 b k o t0 t1 w0) trA_K4 =
   let Z0:=List.getD b.secs k sec0;let Z1:=List.getD b.secs o sec0;some ([0+2+1+1≤4,decide (w0≤Span.hi (Sec.w Z0))=false],Ex.exit 4,[(.tmp 1,.d (D.I ((k:Int)))),(.tmp 2,.d (D.ptr 2 0)),(.tmp 5,.d (D.sl true E.tr1 [])),(.tmp 6,.d (D.ptr 6 0)),(.tmp 7,.d (D.ptr 7 0)),(.tmp 8,.d (D.I t0)),(.tmp 9,.d (D.I t1)),(.tmp 10,.d (D.I w0)),(.box 2,.bx (some (Box.mk false (cellsOf (Yag b))))),(.box 6,.bx (some (Box.mk false [D.I (Span.lo (Sec.t Z0)),D.I (Span.hi (Sec.t Z0)),D.I (Span.lo (Sec.w Z0)),D.I (Span.hi (Sec.w Z0))]))),(.box 7,.bx (some (Box.mk false [D.I (Span.lo (Sec.t Z1)),D.I (Span.hi (Sec.t Z1)),D.I (Span.lo (Sec.w Z1)),D.I (Span.hi (Sec.w Z1))]))),(.obj 94,.ob Option.none)]):=by kernel_rfl
theorem trA_2_nil (b:Book)(k:Nat)(o:Nat)(t0 t1:Int)(w0:Int) :
  runK (mk PR (Yac types) glob 96) [(42,true)] [(22,.I (o:Int)),(68,.I (o:Int))] [(4,(trA_K4,(.normal,trA_S4 b k o t0 t1 w0)))] (Ybx [1,1,1,0,1,0,0,1,0,0,1,0,0]) (trA_S2 b k o t0 t1) trA_K2 =
   let Z0:=List.getD b.secs o sec0;let Z1:=List.getD b.secs k sec0;let Z2:=Span.lo (Sec.w Z1);some ([0+0+1+1≤4,decide (t1≤Span.hi (Sec.t Z0))=true,0+2+0+1≤4,LoopT PR glob 96 (Ybx [1,1,1,0,1,0,0,1,0,0,1,0,0,1,0,0,1]) [(.tmp 1,.d (D.I ((k:Int)))),(.tmp 2,.d (D.ptr 2 0)),(.tmp 5,.d (D.sl true E.tr1 [])),(.tmp 6,.d (D.ptr 6 0)),(.tmp 7,.d (D.ptr 7 0)),(.tmp 8,.d (D.I t0)),(.tmp 9,.d (D.I t1)),(.tmp 10,.d (D.I Z2)),(.box 2,.bx (some (Box.mk false (cellsOf (Yag b))))),(.box 6,.bx (some (Box.mk false [D.I (Span.lo (Sec.t Z1)),D.I (Span.hi (Sec.t Z1)),D.I Z2,D.I (Span.hi (Sec.w Z1))]))),(.box 7,.bx (some (Box.mk false [D.I (Span.lo (Sec.t Z0)),D.I (Span.hi (Sec.t Z0)),D.I (Span.lo (Sec.w Z0)),D.I (Span.hi (Sec.w Z0))]))),(.obj 94,.ob Option.none)] Ex.normal (trA_S4 b k o t0 t1 w0),Yae (t1+(1:Int))],Ex.normal,[(.tmp 1,.d (D.I ((k:Int)))),(.tmp 2,.d (D.ptr 2 0)),(.tmp 5,.d (D.sl true E.tr1 [])),(.tmp 6,.d (D.ptr 6 0)),(.tmp 7,.d (D.ptr 7 0)),(.tmp 8,.d (D.I t0)),(.tmp 9,.d (D.I (t1+(1:Int)))),(.box 2,.bx (some (Box.mk false (cellsOf (Yag b))))),(.box 6,.bx (some (Box.mk false [D.I (Span.lo (Sec.t Z1)),D.I (Span.hi (Sec.t Z1)),D.I Z2,D.I (Span.hi (Sec.w Z1))]))),(.box 7,.bx (some (Box.mk false [D.I (Span.lo (Sec.t Z0)),D.I (Span.hi (Sec.t Z0)),D.I (Span.lo (Sec.w Z0)),D.I (Span.hi (Sec.w Z0))]))),(.obj 94,.ob Option.none)]):=by kernel_rfl
theorem trA_2_on (b:Book)(k:Nat)(o:Nat)(t0 t1:Int)(w0:Int)(y2:Tr1)(r2:List Tr1) :
  runK (mk PR (Yac types) glob 96) [(42,true)] [(22,.I (o:Int)),(68,.I (o:Int))] [(4,(trB_K4,(.normal,trB_S4 b k o t0 t1 w0 y2 r2)))] (Ybx [1,1,1,0,1,0,0,1,0,0,1,0,0]) (trA_S2 b k o t0 t1) trB_K2 =
   let Z0:=List.getD b.secs o sec0;let Z1:=List.getD b.secs k sec0;let Z2:=Span.lo (Sec.w Z1);some ([0+0+1+1≤4,decide (t1≤Span.hi (Sec.t Z0))=true,0+2+0+1≤4,LoopT PR glob 96 (Ybx [1,1,1,0,1,0,0,1,0,0,1,0,0,1,0,0,1]) [(.tmp 1,.d (D.I ((k:Int)))),(.tmp 2,.d (D.ptr 2 0)),(.tmp 5,.d (D.sl true E.tr1 [])),(.tmp 6,.d (D.ptr 6 0)),(.tmp 7,.d (D.ptr 7 0)),(.tmp 8,.d (D.I t0)),(.tmp 9,.d (D.I t1)),(.tmp 10,.d (D.I Z2)),(.box 2,.bx (some (Box.mk false (cellsOf (Yag b))))),(.box 6,.bx (some (Box.mk false [D.I (Span.lo (Sec.t Z1)),D.I (Span.hi (Sec.t Z1)),D.I Z2,D.I (Span.hi (Sec.w Z1))]))),(.box 7,.bx (some (Box.mk false [D.I (Span.lo (Sec.t Z0)),D.I (Span.hi (Sec.t Z0)),D.I (Span.lo (Sec.w Z0)),D.I (Span.hi (Sec.w Z0))]))),(.obj 94,.ob Option.none)] Ex.normal (trB_S4 b k o t0 t1 w0 y2 r2),Yae (t1+(1:Int))],Ex.normal,[(.tmp 1,.d (D.I ((k:Int)))),(.tmp 2,.d (D.ptr 2 0)),(.tmp 5,.d (D.own 94 ((y2::r2).length))),(.tmp 6,.d (D.ptr 6 0)),(.tmp 7,.d (D.ptr 7 0)),(.tmp 8,.d (D.I t0)),(.tmp 9,.d (D.I (t1+(1:Int)))),(.box 2,.bx (some (Box.mk false (cellsOf (Yag b))))),(.box 6,.bx (some (Box.mk false [D.I (Span.lo (Sec.t Z1)),D.I (Span.hi (Sec.t Z1)),D.I Z2,D.I (Span.hi (Sec.w Z1))]))),(.box 7,.bx (some (Box.mk false [D.I (Span.lo (Sec.t Z0)),D.I (Span.hi (Sec.t Z0)),D.I (Span.lo (Sec.w Z0)),D.I (Span.hi (Sec.w Z0))]))),(.obj 94,.ob (some (Ob.mk E.tr1 (y2::r2))))]):=by kernel_rfl
theorem trA_2_end (b:Book)(k:Nat)(o:Nat)(t0 t1:Int) :
  runK (mk PR (Yac types) glob 96) [(42,false)] [] [] (Ybx [1,1,1,0,1,0,0,1,0,0,1,0,0]) (trA_S2 b k o t0 t1) trA_K2 =
   let Z0:=List.getD b.secs o sec0;let Z1:=List.getD b.secs k sec0;some ([0+0+1+1≤4,decide (t1≤Span.hi (Sec.t Z0))=false],Ex.exit 2,[(.tmp 1,.d (D.I ((k:Int)))),(.tmp 2,.d (D.ptr 2 0)),(.tmp 5,.d (D.sl true E.tr1 [])),(.tmp 6,.d (D.ptr 6 0)),(.tmp 7,.d (D.ptr 7 0)),(.tmp 8,.d (D.I t0)),(.tmp 9,.d (D.I t1)),(.box 2,.bx (some (Box.mk false (cellsOf (Yag b))))),(.box 6,.bx (some (Box.mk false [D.I (Span.lo (Sec.t Z1)),D.I (Span.hi (Sec.t Z1)),D.I (Span.lo (Sec.w Z1)),D.I (Span.hi (Sec.w Z1))]))),(.box 7,.bx (some (Box.mk false [D.I (Span.lo (Sec.t Z0)),D.I (Span.hi (Sec.t Z0)),D.I (Span.lo (Sec.w Z0)),D.I (Span.hi (Sec.w Z0))]))),(.obj 94,.ob Option.none)]):=by kernel_rfl
theorem trA_0_nil (b:Book)(k:Nat)(o:Nat)(t0:Int)(t1:Int) :
  runK (mk PR (Yac types) glob 96) [(32,true)] [(22,.I (o:Int)),(68,.I (o:Int))] [(2,(trA_K2,(.normal,trA_S2 b k o t0 t1)))] (Ybx [1,1,1,0,1,0,0]) (trA_S0 b k o t0) trA_K0 =
   let Z0:=List.getD b.secs k sec0;let Z1:=List.getD b.secs o sec0;let Z2:=Span.lo (Sec.t Z1);some ([0+0+1+1≤4,decide (t0≤Span.hi (Sec.t Z0))=true,0+0+0+1≤4,LoopT PR glob 96 (Ybx [1,1,1,0,1,0,0,1,0,0,1]) [(.tmp 1,.d (D.I ((k:Int)))),(.tmp 2,.d (D.ptr 2 0)),(.tmp 5,.d (D.sl true E.tr1 [])),(.tmp 6,.d (D.ptr 6 0)),(.tmp 7,.d (D.ptr 7 0)),(.tmp 8,.d (D.I t0)),(.tmp 9,.d (D.I Z2)),(.box 2,.bx (some (Box.mk false (cellsOf (Yag b))))),(.box 6,.bx (some (Box.mk false [D.I (Span.lo (Sec.t Z0)),D.I (Span.hi (Sec.t Z0)),D.I (Span.lo (Sec.w Z0)),D.I (Span.hi (Sec.w Z0))]))),(.box 7,.bx (some (Box.mk false [D.I Z2,D.I (Span.hi (Sec.t Z1)),D.I (Span.lo (Sec.w Z1)),D.I (Span.hi (Sec.w Z1))]))),(.obj 94,.ob Option.none)] Ex.normal (trA_S2 b k o t0 t1),Yae (t0+(1:Int))],Ex.normal,[(.tmp 1,.d (D.I ((k:Int)))),(.tmp 2,.d (D.ptr 2 0)),(.tmp 5,.d (D.sl true E.tr1 [])),(.tmp 6,.d (D.ptr 6 0)),(.tmp 7,.d (D.ptr 7 0)),(.tmp 8,.d (D.I (t0+(1:Int)))),(.box 2,.bx (some (Box.mk false (cellsOf (Yag b))))),(.box 6,.bx (some (Box.mk false [D.I (Span.lo (Sec.t Z0)),D.I (Span.hi (Sec.t Z0)),D.I (Span.lo (Sec.w Z0)),D.I (Span.hi (Sec.w Z0))]))),(.box 7,.bx (some (Box.mk false [D.I Z2,D.I (Span.hi (Sec.t Z1)),D.I (Span.lo (Sec.w Z1)),D.I (Span.hi (Sec.w Z1))]))),(.obj 94,.ob Option.none)]):=by kernel_rfl
theorem trA_0_on (b:Book)(k:Nat)(o:Nat)(t0:Int)(t1:Int)(y2:Tr1)(r2:List Tr1) :
  runK (mk PR (Yac types) glob 96) [(32,true)] [(22,.I (o:Int)),(68,.I (o:Int))] [(2,(trB_K2,(.normal,trB_S2 b k o t0 t1 y2 r2)))] (Ybx [1,1,1,0,1,0,0]) (trA_S0 b k o t0) trB_K0 =
   let Z0:=List.getD b.secs k sec0;let Z1:=List.getD b.secs o sec0;let Z2:=Span.lo (Sec.t Z1);some ([0+0+1+1≤4,decide (t0≤Span.hi (Sec.t Z0))=true,0+0+0+1≤4,LoopT PR glob 96 (Ybx [1,1,1,0,1,0,0,1,0,0,1]) [(.tmp 1,.d (D.I ((k:Int)))),(.tmp 2,.d (D.ptr 2 0)),(.tmp 5,.d (D.sl true E.tr1 [])),(.tmp 6,.d (D.ptr 6 0)),(.tmp 7,.d (D.ptr 7 0)),(.tmp 8,.d (D.I t0)),(.tmp 9,.d (D.I Z2)),(.box 2,.bx (some (Box.mk false (cellsOf (Yag b))))),(.box 6,.bx (some (Box.mk false [D.I (Span.lo (Sec.t Z0)),D.I (Span.hi (Sec.t Z0)),D.I (Span.lo (Sec.w Z0)),D.I (Span.hi (Sec.w Z0))]))),(.box 7,.bx (some (Box.mk false [D.I Z2,D.I (Span.hi (Sec.t Z1)),D.I (Span.lo (Sec.w Z1)),D.I (Span.hi (Sec.w Z1))]))),(.obj 94,.ob Option.none)] Ex.normal (trB_S2 b k o t0 t1 y2 r2),Yae (t0+(1:Int))],Ex.normal,[(.tmp 1,.d (D.I ((k:Int)))),(.tmp 2,.d (D.ptr 2 0)),(.tmp 5,.d (D.own 94 ((y2::r2).length))),(.tmp 6,.d (D.ptr 6 0)),(.tmp 7,.d (D.ptr 7 0)),(.tmp 8,.d (D.I (t0+(1:Int)))),(.box 2,.bx (some (Box.mk false (cellsOf (Yag b))))),(.box 6,.bx (some (Box.mk false [D.I (Span.lo (Sec.t Z0)),D.I (Span.hi (Sec.t Z0)),D.I (Span.lo (Sec.w Z0)),D.I (Span.hi (Sec.w Z0))]))),(.box 7,.bx (some (Box.mk false [D.I Z2,D.I (Span.hi (Sec.t Z1)),D.I (Span.lo (Sec.w Z1)),D.I (Span.hi (Sec.w Z1))]))),(.obj 94,.ob (some (Ob.mk E.tr1 (y2::r2))))]):=by kernel_rfl
theorem trA_0_end (b:Book)(k:Nat)(o:Nat)(t0:Int) :
  runK (mk PR (Yac types) glob 96) [(32,false)] [] [] (Ybx [1,1,1,0,1,0,0]) (trA_S0 b k o t0) trA_K0 =
   let Z0:=List.getD b.secs k sec0;let Z1:=List.getD b.secs o sec0;some ([0+0+1+1≤4,decide (t0≤Span.hi (Sec.t Z0))=false],Ex.exit 0,[(.tmp 1,.d (D.I ((k:Int)))),(.tmp 2,.d (D.ptr 2 0)),(.tmp 5,.d (D.sl true E.tr1 [])),(.tmp 6,.d (D.ptr 6 0)),(.tmp 7,.d (D.ptr 7 0)),(.tmp 8,.d (D.I t0)),(.box 2,.bx (some (Box.mk false (cellsOf (Yag b))))),(.box 6,.bx (some (Box.mk false [D.I (Span.lo (Sec.t Z0)),D.I (Span.hi (Sec.t Z0)),D.I (Span.lo (Sec.w Z0)),D.I (Span.hi (Sec.w Z0))]))),(.box 7,.bx (some (Box.mk false [D.I (Span.lo (Sec.t Z1)),D.I (Span.hi (Sec.t Z1)),D.I (Span.lo (Sec.w Z1)),D.I (Span.hi (Sec.w Z1))]))),(.obj 94,.ob Option.none)]):=by kernel_rfl
theorem trB_6_skip1 (b:Book)(k:Nat)(o:Nat)(t0 t1 w0 w1:Int)(y:Tr1)(r:List Tr1) :
  runK (mk PR (Yac types) glob 96) [(62,true),(70,true),(74,true)] [(22,.I (o:Int)),(68,.I (o:Int))] [] (Ybx [1,1,1,0,1,0,0,1,0,0,1,0,0,1,0,0,1,0,0,1,0,0,1,0,0]) (trB_S6 b k o t0 t1 w0 w1 y r) trB_K6 =
   let Z0:=List.getD b.secs o sec0;let Z1:=List.getD b.secs k sec0;some ([0+2+1+1≤4,decide (w1≤Span.hi (Sec.w Z0))=true,Contract PR glob 137 [Yag b,D.I ((k:Int))] (D.I ((o:Int))),((k:Int)==(o:Int))=true,((k:Int)==(o:Int))=true,((k:Int)==(o:Int))=true,((k:Int)==(o:Int))=true,(t0 != t1)=true,(t0 != t1)=true,(t0 != t1)=true,((k:Int)==(o:Int))=true,(t0 != t1)=true,((k:Int)==(o:Int))=true,Yae (w1+(1:Int))],Ex.normal,[(.tmp 1,.d (D.I ((k:Int)))),(.tmp 2,.d (D.ptr 2 0)),(.tmp 5,.d (D.own 94 ((y::r).length))),(.tmp 6,.d (D.ptr 6 0)),(.tmp 7,.d (D.ptr 7 0)),(.tmp 8,.d (D.I t0)),(.tmp 9,.d (D.I t1)),(.tmp 10,.d (D.I w0)),(.tmp 11,.d (D.I (w1+(1:Int)))),(.box 2,.bx (some (Box.mk false (cellsOf (Yag b))))),(.box 6,.bx (some (Box.mk false [D.I (Span.lo (Sec.t Z1)),D.I (Span.hi (Sec.t Z1)),D.I (Span.lo (Sec.w Z1)),D.I (Span.hi (Sec.w Z1))]))),(.box 7,.bx (some (Box.mk false [D.I (Span.lo (Sec.t Z0)),D.I (Span.hi (Sec.t Z0)),D.I (Span.lo (Sec.w Z0)),D.I (Span.hi (Sec.w Z0))]))),(.obj 94,.ob (some (Ob.mk E.tr1 (y::r))))]):=by kernel_rfl
theorem trB_6_skip2 (b:Book)(k:Nat)(o:Nat)(t0 t1 w0 w1:Int)(y:Tr1)(r:List Tr1) :
  runK (mk PR (Yac types) glob 96) [(62,true),(70,true),(74,false),(79,true)] [(22,.I (o:Int)),(68,.I (o:Int))] [] (Ybx [1,1,1,0,1,0,0,1,0,0,1,0,0,1,0,0,1,0,0,1,0,0,1,0,0]) (trB_S6 b k o t0 t1 w0 w1 y r) trB_K6 =
   let Z0:=List.getD b.secs o sec0;let Z1:=List.getD b.secs k sec0;some ([0+2+1+1≤4,decide (w1≤Span.hi (Sec.w Z0))=true,Contract PR glob 137 [Yag b,D.I ((k:Int))] (D.I ((o:Int))),((k:Int)==(o:Int))=true,((k:Int)==(o:Int))=true,((k:Int)==(o:Int))=true,((k:Int)==(o:Int))=true,(t0 != t1)=false,(t0 != t1)=false,(t0 != t1)=false,((k:Int)==(o:Int))=true,(t0 != t1)=false,((k:Int)==(o:Int))=true,(w0 != w1)=true,Yae (w1+(1:Int))],Ex.normal,[(.tmp 1,.d (D.I ((k:Int)))),(.tmp 2,.d (D.ptr 2 0)),(.tmp 5,.d (D.own 94 ((y::r).length))),(.tmp 6,.d (D.ptr 6 0)),(.tmp 7,.d (D.ptr 7 0)),(.tmp 8,.d (D.I t0)),(.tmp 9,.d (D.I t1)),(.tmp 10,.d (D.I w0)),(.tmp 11,.d (D.I (w1+(1:Int)))),(.box 2,.bx (some (Box.mk false (cellsOf (Yag b))))),(.box 6,.bx (some (Box.mk false [D.I (Span.lo (Sec.t Z1)),D.I (Span.hi (Sec.t Z1)),D.I (Span.lo (Sec.w Z1)),D.I (Span.hi (Sec.w Z1))]))),(.box 7,.bx (some (Box.mk false [D.I (Span.lo (Sec.t Z0)),D.I (Span.hi (Sec.t Z0)),D.I (Span.lo (Sec.w Z0)),D.I (Span.hi (Sec.w Z0))]))),(.obj 94,.ob (some (Ob.mk E.tr1 (y::r))))]):=by kernel_rfl
theorem trB_6_n1 (b:Book)(k:Nat)(o:Nat)(t0 t1 w0 w1:Int)(y:Tr1)(r:List Tr1) :
  runK (mk PR (Yac types) glob 96) [(62,true),(70,false)] [(22,.I (o:Int)),(68,.I (o:Int)),(90,.bool true)] [] (Ybx [1,1,1,0,1,0,0,1,0,0,1,0,0,1,0,0,1,0,0,1,0,0,1,0,0]) (trB_S6 b k o t0 t1 w0 w1 y r) trB_K6 =
   let Z0:=List.getD b.secs o sec0;let Z1:=List.getD b.secs k sec0;some ([0+2+1+1≤4,decide (w1≤Span.hi (Sec.w Z0))=true,Contract PR glob 137 [Yag b,D.I ((k:Int))] (D.I ((o:Int))),((k:Int)==(o:Int))=false,((k:Int)==(o:Int))=false,((k:Int)==(o:Int))=false,((k:Int)==(o:Int))=false,((k:Int)==(o:Int))=false,((k:Int)==(o:Int))=false,0+4≤4,Contract PR glob 138 [Yag b,D.I ((k:Int)),D.agg [D.I t0,D.I t1,D.I w0,D.I w1]] (D.bool true),0+4≤4,(y::r).length=List.length ((y::r)),List.length ((y::r)++[Tr1.mk t0 t1 w0 w1])*(32+1)≤140737488355328,Yae (w1+(1:Int))],Ex.normal,[(.tmp 1,.d (D.I ((k:Int)))),(.tmp 2,.d (D.ptr 2 0)),(.tmp 5,.d (D.own 94 (List.length ((y::r)++[Tr1.mk t0 t1 w0 w1])))),(.tmp 6,.d (D.ptr 6 0)),(.tmp 7,.d (D.ptr 7 0)),(.tmp 8,.d (D.I t0)),(.tmp 9,.d (D.I t1)),(.tmp 10,.d (D.I w0)),(.tmp 11,.d (D.I (w1+(1:Int)))),(.box 2,.bx (some (Box.mk false (cellsOf (Yag b))))),(.box 6,.bx (some (Box.mk false [D.I (Span.lo (Sec.t Z1)),D.I (Span.hi (Sec.t Z1)),D.I (Span.lo (Sec.w Z1)),D.I (Span.hi (Sec.w Z1))]))),(.box 7,.bx (some (Box.mk false [D.I (Span.lo (Sec.t Z0)),D.I (Span.hi (Sec.t Z0)),D.I (Span.lo (Sec.w Z0)),D.I (Span.hi (Sec.w Z0))]))),(.obj 94,.ob (some (Ob.mk E.tr1 ((y::r)++[Tr1.mk t0 t1 w0 w1]))))]):=by kernel_rfl
theorem trB_6_n0 (b:Book)(k:Nat)(o:Nat)(t0 t1 w0 w1:Int)(y:Tr1)(r:List Tr1) :
  runK (mk PR (Yac types) glob 96) [(62,true),(70,false)] [(22,.I (o:Int)),(68,.I (o:Int)),(90,.bool false)] [] (Ybx [1,1,1,0,1,0,0,1,0,0,1,0,0,1,0,0,1,0,0,1,0,0,1,0,0]) (trB_S6 b k o t0 t1 w0 w1 y r) trB_K6 =
   let Z0:=List.getD b.secs o sec0;let Z1:=List.getD b.secs k sec0;some ([0+2+1+1≤4,decide (w1≤Span.hi (Sec.w Z0))=true,Contract PR glob 137 [Yag b,D.I ((k:Int))] (D.I ((o:Int))),((k:Int)==(o:Int))=false,((k:Int)==(o:Int))=false,((k:Int)==(o:Int))=false,((k:Int)==(o:Int))=false,((k:Int)==(o:Int))=false,((k:Int)==(o:Int))=false,0+4≤4,Contract PR glob 138 [Yag b,D.I ((k:Int)),D.agg [D.I t0,D.I t1,D.I w0,D.I w1]] (D.bool false),Yae (w1+(1:Int))],Ex.normal,[(.tmp 1,.d (D.I ((k:Int)))),(.tmp 2,.d (D.ptr 2 0)),(.tmp 5,.d (D.own 94 ((y::r).length))),(.tmp 6,.d (D.ptr 6 0)),(.tmp 7,.d (D.ptr 7 0)),(.tmp 8,.d (D.I t0)),(.tmp 9,.d (D.I t1)),(.tmp 10,.d (D.I w0)),(.tmp 11,.d (D.I (w1+(1:Int)))),(.box 2,.bx (some (Box.mk false (cellsOf (Yag b))))),(.box 6,.bx (some (Box.mk false [D.I (Span.lo (Sec.t Z1)),D.I (Span.hi (Sec.t Z1)),D.I (Span.lo (Sec.w Z1)),D.I (Span.hi (Sec.w Z1))]))),(.box 7,.bx (some (Box.mk false [D.I (Span.lo (Sec.t Z0)),D.I (Span.hi (Sec.t Z0)),D.I (Span.lo (Sec.w Z0)),D.I (Span.hi (Sec.w Z0))]))),(.obj 94,.ob (some (Ob.mk E.tr1 (y::r))))]):=by kernel_rfl
theorem trB_6_e1 (b:Book)(k:Nat)(o:Nat)(t0 t1 w0 w1:Int)(y:Tr1)(r:List Tr1) :
  runK (mk PR (Yac types) glob 96) [(62,true),(70,true),(74,false),(79,false)] [(22,.I (o:Int)),(68,.I (o:Int)),(90,.bool true)] [] (Ybx [1,1,1,0,1,0,0,1,0,0,1,0,0,1,0,0,1,0,0,1,0,0,1,0,0]) (trB_S6 b k o t0 t1 w0 w1 y r) trB_K6 =
   let Z0:=List.getD b.secs o sec0;let Z1:=List.getD b.secs k sec0;some ([0+2+1+1≤4,decide (w1≤Span.hi (Sec.w Z0))=true,Contract PR glob 137 [Yag b,D.I ((k:Int))] (D.I ((o:Int))),((k:Int)==(o:Int))=true,((k:Int)==(o:Int))=true,((k:Int)==(o:Int))=true,((k:Int)==(o:Int))=true,(t0 != t1)=false,(t0 != t1)=false,(t0 != t1)=false,((k:Int)==(o:Int))=true,(t0 != t1)=false,((k:Int)==(o:Int))=true,(w0 != w1)=false,0+4≤4,Contract PR glob 138 [Yag b,D.I ((k:Int)),D.agg [D.I t0,D.I t1,D.I w0,D.I w1]] (D.bool true),0+4≤4,(y::r).length=List.length ((y::r)),List.length ((y::r)++[Tr1.mk t0 t1 w0 w1])*(32+1)≤140737488355328,Yae (w1+(1:Int))],Ex.normal,[(.tmp 1,.d (D.I ((k:Int)))),(.tmp 2,.d (D.ptr 2 0)),(.tmp 5,.d (D.own 94 (List.length ((y::r)++[Tr1.mk t0 t1 w0 w1])))),(.tmp 6,.d (D.ptr 6 0)),(.tmp 7,.d (D.ptr 7 0)),(.tmp 8,.d (D.I t0)),(.tmp 9,.d (D.I t1)),(.tmp 10,.d (D.I w0)),(.tmp 11,.d (D.I (w1+(1:Int)))),(.box 2,.bx (some (Box.mk false (cellsOf (Yag b))))),(.box 6,.bx (some (Box.mk false [D.I (Span.lo (Sec.t Z1)),D.I (Span.hi (Sec.t Z1)),D.I (Span.lo (Sec.w Z1)),D.I (Span.hi (Sec.w Z1))]))),(.box 7,.bx (some (Box.mk false [D.I (Span.lo (Sec.t Z0)),D.I (Span.hi (Sec.t Z0)),D.I (Span.lo (Sec.w Z0)),D.I (Span.hi (Sec.w Z0))]))),(.obj 94,.ob (some (Ob.mk E.tr1 ((y::r)++[Tr1.mk t0 t1 w0 w1]))))]):=by kernel_rfl
theorem trB_6_e0 (b:Book)(k:Nat)(o:Nat)(t0 t1 w0 w1:Int)(y:Tr1)(r:List Tr1) :
  runK (mk PR (Yac types) glob 96) [(62,true),(70,true),(74,false),(79,false)] [(22,.I (o:Int)),(68,.I (o:Int)),(90,.bool false)] [] (Ybx [1,1,1,0,1,0,0,1,0,0,1,0,0,1,0,0,1,0,0,1,0,0,1,0,0]) (trB_S6 b k o t0 t1 w0 w1 y r) trB_K6 =
   let Z0:=List.getD b.secs o sec0;let Z1:=List.getD b.secs k sec0;some ([0+2+1+1≤4,decide (w1≤Span.hi (Sec.w Z0))=true,Contract PR glob 137 [Yag b,D.I ((k:Int))] (D.I ((o:Int))),((k:Int)==(o:Int))=true,((k:Int)==(o:Int))=true,((k:Int)==(o:Int))=true,((k:Int)==(o:Int))=true,(t0 != t1)=false,(t0 != t1)=false,(t0 != t1)=false,((k:Int)==(o:Int))=true,(t0 != t1)=false,((k:Int)==(o:Int))=true,(w0 != w1)=false,0+4≤4,Contract PR glob 138 [Yag b,D.I ((k:Int)),D.agg [D.I t0,D.I t1,D.I w0,D.I w1]] (D.bool false),Yae (w1+(1:Int))],Ex.normal,[(.tmp 1,.d (D.I ((k:Int)))),(.tmp 2,.d (D.ptr 2 0)),(.tmp 5,.d (D.own 94 ((y::r).length))),(.tmp 6,.d (D.ptr 6 0)),(.tmp 7,.d (D.ptr 7 0)),(.tmp 8,.d (D.I t0)),(.tmp 9,.d (D.I t1)),(.tmp 10,.d (D.I w0)),(.tmp 11,.d (D.I (w1+(1:Int)))),(.box 2,.bx (some (Box.mk false (cellsOf (Yag b))))),(.box 6,.bx (some (Box.mk false [D.I (Span.lo (Sec.t Z1)),D.I (Span.hi (Sec.t Z1)),D.I (Span.lo (Sec.w Z1)),D.I (Span.hi (Sec.w Z1))]))),(.box 7,.bx (some (Box.mk false [D.I (Span.lo (Sec.t Z0)),D.I (Span.hi (Sec.t Z0)),D.I (Span.lo (Sec.w Z0)),D.I (Span.hi (Sec.w Z0))]))),(.obj 94,.ob (some (Ob.mk E.tr1 (y::r))))]):=by kernel_rfl
theorem trB_6_end (b:Book)(k:Nat)(o:Nat)(t0 t1 w0 w1:Int)(y:Tr1)(r:List Tr1) :
  runK (mk PR (Yac types) glob 96) [(62,false)] [] [] (Ybx [1,1,1,0,1,0,0,1,0,0,1,0,0,1,0,0,1,0,0,1,0,0,1,0,0]) (trB_S6 b k o t0 t1 w0 w1 y r) trB_K6 =
   let Z0:=List.getD b.secs o sec0;let Z1:=List.getD b.secs k sec0;some ([0+2+1+1≤4,decide (w1≤Span.hi (Sec.w Z0))=false],Ex.exit 6,[(.tmp 1,.d (D.I ((k:Int)))),(.tmp 2,.d (D.ptr 2 0)),(.tmp 5,.d (D.own 94 ((y::r).length))),(.tmp 6,.d (D.ptr 6 0)),(.tmp 7,.d (D.ptr 7 0)),(.tmp 8,.d (D.I t0)),(.tmp 9,.d (D.I t1)),(.tmp 10,.d (D.I w0)),(.tmp 11,.d (D.I w1)),(.box 2,.bx (some (Box.mk false (cellsOf (Yag b))))),(.box 6,.bx (some (Box.mk false [D.I (Span.lo (Sec.t Z1)),D.I (Span.hi (Sec.t Z1)),D.I (Span.lo (Sec.w Z1)),D.I (Span.hi (Sec.w Z1))]))),(.box 7,.bx (some (Box.mk false [D.I (Span.lo (Sec.t Z0)),D.I (Span.hi (Sec.t Z0)),D.I (Span.lo (Sec.w Z0)),D.I (Span.hi (Sec.w Z0))]))),(.obj 94,.ob (some (Ob.mk E.tr1 (y::r))))]):=by kernel_rfl
theorem trB_4_on (b:Book)(k:Nat)(o:Nat)(t0 t1 w0:Int)(y:Tr1)(r:List Tr1)(w1:Int)(y2:Tr1)(r2:List Tr1) :
  runK (mk PR (Yac types) glob 96) [(52,true)] [(22,.I (o:Int)),(68,.I (o:Int))] [(6,(trB_K6,(.normal,trB_S6 b k o t0 t1 w0 w1 y2 r2)))] (Ybx [1,1,1,0,1,0,0,1,0,0,1,0,0,1,0,0,1,0,0]) (trB_S4 b k o t0 t1 w0 y r) trB_K4 =
   let Z0:=List.getD b.secs k sec0;let Z1:=List.getD b.secs o sec0;let Z2:=Span.lo (Sec.w Z1);some ([0+2+1+1≤4,decide (w0≤Span.hi (Sec.w Z0))=true,0+2+0+1≤4,LoopT PR glob 96 (Ybx [1,1,1,0,1,0,0,1,0,0,1,0,0,1,0,0,1,0,0,1,0,0,1]) [(.tmp 1,.d (D.I ((k:Int)))),(.tmp 2,.d (D.ptr 2 0)),(.tmp 5,.d (D.own 94 ((y::r).length))),(.tmp 6,.d (D.ptr 6 0)),(.tmp 7,.d (D.ptr 7 0)),(.tmp 8,.d (D.I t0)),(.tmp 9,.d (D.I t1)),(.tmp 10,.d (D.I w0)),(.tmp 11,.d (D.I Z2)),(.box 2,.bx (some (Box.mk false (cellsOf (Yag b))))),(.box 6,.bx (some (Box.mk false [D.I (Span.lo (Sec.t Z0)),D.I (Span.hi (Sec.t Z0)),D.I (Span.lo (Sec.w Z0)),D.I (Span.hi (Sec.w Z0))]))),(.box 7,.bx (some (Box.mk false [D.I (Span.lo (Sec.t Z1)),D.I (Span.hi (Sec.t Z1)),D.I Z2,D.I (Span.hi (Sec.w Z1))]))),(.obj 94,.ob (some (Ob.mk E.tr1 (y::r))))] Ex.normal (trB_S6 b k o t0 t1 w0 w1 y2 r2),Yae (w0+(1:Int))],Ex.normal,[(.tmp 1,.d (D.I ((k:Int)))),(.tmp 2,.d (D.ptr 2 0)),(.tmp 5,.d (D.own 94 ((y2::r2).length))),(.tmp 6,.d (D.ptr 6 0)),(.tmp 7,.d (D.ptr 7 0)),(.tmp 8,.d (D.I t0)),(.tmp 9,.d (D.I t1)),(.tmp 10,.d (D.I (w0+(1:Int)))),(.box 2,.bx (some (Box.mk false (cellsOf (Yag b))))),(.box 6,.bx (some (Box.mk false [D.I (Span.lo (Sec.t Z0)),D.I (Span.hi (Sec.t Z0)),D.I (Span.lo (Sec.w Z0)),D.I (Span.hi (Sec.w Z0))]))),(.box 7,.bx (some (Box.mk false [D.I (Span.lo (Sec.t Z1)),D.I (Span.hi (Sec.t Z1)),D.I Z2,D.I (Span.hi (Sec.w Z1))]))),(.obj 94,.ob (some (Ob.mk E.tr1 (y2::r2))))]):=by kernel_rfl
theorem trB_4_end (b:Book)(k:Nat)(o:Nat)(t0 t1 w0:Int)(y:Tr1)(r:List Tr1) :
  runK (mk PR (Yac types) glob 96) [(52,false)] [] [] (Ybx [1,1,1,0,1,0,0,1,0,0,1,0,0,1,0,0,1,0,0]) (trB_S4 b k o t0 t1 w0 y r) trB_K4 =
   let Z0:=List.getD b.secs k sec0;let Z1:=List.getD b.secs o sec0;some ([0+2+1+1≤4,decide (w0≤Span.hi (Sec.w Z0))=false],Ex.exit 4,[(.tmp 1,.d (D.I ((k:Int)))),(.tmp 2,.d (D.ptr 2 0)),(.tmp 5,.d (D.own 94 ((y::r).length))),(.tmp 6,.d (D.ptr 6 0)),(.tmp 7,.d (D.ptr 7 0)),(.tmp 8,.d (D.I t0)),(.tmp 9,.d (D.I t1)),(.tmp 10,.d (D.I w0)),(.box 2,.bx (some (Box.mk false (cellsOf (Yag b))))),(.box 6,.bx (some (Box.mk false [D.I (Span.lo (Sec.t Z0)),D.I (Span.hi (Sec.t Z0)),D.I (Span.lo (Sec.w Z0)),D.I (Span.hi (Sec.w Z0))]))),(.box 7,.bx (some (Box.mk false [D.I (Span.lo (Sec.t Z1)),D.I (Span.hi (Sec.t Z1)),D.I (Span.lo (Sec.w Z1)),D.I (Span.hi (Sec.w Z1))]))),(.obj 94,.ob (some (Ob.mk E.tr1 (y::r))))]):=by kernel_rfl
theorem trB_2_on (b:Book)(k:Nat)(o:Nat)(t0 t1:Int)(y:Tr1)(r:List Tr1)(w0:Int)(y2:Tr1)(r2:List Tr1) :
  runK (mk PR (Yac types) glob 96) [(42,true)] [(22,.I (o:Int)),(68,.I (o:Int))] [(4,(trB_K4,(.normal,trB_S4 b k o t0 t1 w0 y2 r2)))] (Ybx [1,1,1,0,1,0,0,1,0,0,1,0,0]) (trB_S2 b k o t0 t1 y r) trB_K2 =
   let Z0:=List.getD b.secs o sec0;let Z1:=List.getD b.secs k sec0;let Z2:=Span.lo (Sec.w Z1);some ([0+0+1+1≤4,decide (t1≤Span.hi (Sec.t Z0))=true,0+2+0+1≤4,LoopT PR glob 96 (Ybx [1,1,1,0,1,0,0,1,0,0,1,0,0,1,0,0,1]) [(.tmp 1,.d (D.I ((k:Int)))),(.tmp 2,.d (D.ptr 2 0)),(.tmp 5,.d (D.own 94 ((y::r).length))),(.tmp 6,.d (D.ptr 6 0)),(.tmp 7,.d (D.ptr 7 0)),(.tmp 8,.d (D.I t0)),(.tmp 9,.d (D.I t1)),(.tmp 10,.d (D.I Z2)),(.box 2,.bx (some (Box.mk false (cellsOf (Yag b))))),(.box 6,.bx (some (Box.mk false [D.I (Span.lo (Sec.t Z1)),D.I (Span.hi (Sec.t Z1)),D.I Z2,D.I (Span.hi (Sec.w Z1))]))),(.box 7,.bx (some (Box.mk false [D.I (Span.lo (Sec.t Z0)),D.I (Span.hi (Sec.t Z0)),D.I (Span.lo (Sec.w Z0)),D.I (Span.hi (Sec.w Z0))]))),(.obj 94,.ob (some (Ob.mk E.tr1 (y::r))))] Ex.normal (trB_S4 b k o t0 t1 w0 y2 r2),Yae (t1+(1:Int))],Ex.normal,[(.tmp 1,.d (D.I ((k:Int)))),(.tmp 2,.d (D.ptr 2 0)),(.tmp 5,.d (D.own 94 ((y2::r2).length))),(.tmp 6,.d (D.ptr 6 0)),(.tmp 7,.d (D.ptr 7 0)),(.tmp 8,.d (D.I t0)),(.tmp 9,.d (D.I (t1+(1:Int)))),(.box 2,.bx (some (Box.mk false (cellsOf (Yag b))))),(.box 6,.bx (some (Box.mk false [D.I (Span.lo (Sec.t Z1)),D.I (Span.hi (Sec.t Z1)),D.I Z2,D.I (Span.hi (Sec.w Z1))]))),(.box 7,.bx (some (Box.mk false [D.I (Span.lo (Sec.t Z0)),D.I (Span.hi (Sec.t Z0)),D.I (Span.lo (Sec.w Z0)),D.I (Span.hi (Sec.w Z0))]))),(.obj 94,.ob (some (Ob.mk E.tr1 (y2::r2))))]):=by kernel_rfl
theorem trB_2_end (b:Book)(k:Nat)(o:Nat)(t0 t1:Int)(y:Tr1)(r:List Tr1) :
  runK (mk PR (Yac types) glob 96) [(42,false)] [] [] (Ybx [1,1,1,0,1,0,0,1,0,0,1,0,0]) (trB_S2 b k o t0 t1 y r) trB_K2 =
   let Z0:=List.getD b.secs o sec0;let Z1:=List.getD b.secs k sec0;some ([0+0+1+1≤4,decide (t1≤Span.hi (Sec.t Z0))=false],Ex.exit 2,[(.tmp 1,.d (D.I ((k:Int)))),(.tmp 2,.d (D.ptr 2 0)),(.tmp 5,.d (D.own 94 ((y::r).length))),(.tmp 6,.d (D.ptr 6 0)),(.tmp 7,.d (D.ptr 7 0)),(.tmp 8,.d (D.I t0)),(.tmp 9,.d (D.I t1)),(.box 2,.bx (some (Box.mk false (cellsOf (Yag b))))),(.box 6,.bx (some (Box.mk false [D.I (Span.lo (Sec.t Z1)),D.I (Span.hi (Sec.t Z1)),D.I (Span.lo (Sec.w Z1)),D.I (Span.hi (Sec.w Z1))]))),(.box 7,.bx (some (Box.mk false [D.I (Span.lo (Sec.t Z0)),D.I (Span.hi (Sec.t Z0)),D.I (Span.lo (Sec.w Z0)),D.I (Span.hi (Sec.w Z0))]))),(.obj 94,.ob (some (Ob.mk E.tr1 (y::r))))]):=by kernel_rfl
theorem trB_0_on (b:Book)(k:Nat)(o:Nat)(t0:Int)(y:Tr1)(r:List Tr1)(t1:Int)(y2:Tr1)(r2:List Tr1) :
  runK (mk PR (Yac types) glob 96) [(32,true)] [(22,.I (o:Int)),(68,.I (o:Int))] [(2,(trB_K2,(.normal,trB_S2 b k o t0 t1 y2 r2)))] (Ybx [1,1,1,0,1,0,0]) (trB_S0 b k o t0 y r) trB_K0 =
   let Z0:=List.getD b.secs k sec0;let Z1:=List.getD b.secs o sec0;let Z2:=Span.lo (Sec.t Z1);some ([0+0+1+1≤4,decide (t0≤Span.hi (Sec.t Z0))=true,0+0+0+1≤4,LoopT PR glob 96 (Ybx [1,1,1,0,1,0,0,1,0,0,1]) [(.tmp 1,.d (D.I ((k:Int)))),(.tmp 2,.d (D.ptr 2 0)),(.tmp 5,.d (D.own 94 ((y::r).length))),(.tmp 6,.d (D.ptr 6 0)),(.tmp 7,.d (D.ptr 7 0)),(.tmp 8,.d (D.I t0)),(.tmp 9,.d (D.I Z2)),(.box 2,.bx (some (Box.mk false (cellsOf (Yag b))))),(.box 6,.bx (some (Box.mk false [D.I (Span.lo (Sec.t Z0)),D.I (Span.hi (Sec.t Z0)),D.I (Span.lo (Sec.w Z0)),D.I (Span.hi (Sec.w Z0))]))),(.box 7,.bx (some (Box.mk false [D.I Z2,D.I (Span.hi (Sec.t Z1)),D.I (Span.lo (Sec.w Z1)),D.I (Span.hi (Sec.w Z1))]))),(.obj 94,.ob (some (Ob.mk E.tr1 (y::r))))] Ex.normal (trB_S2 b k o t0 t1 y2 r2),Yae (t0+(1:Int))],Ex.normal,[(.tmp 1,.d (D.I ((k:Int)))),(.tmp 2,.d (D.ptr 2 0)),(.tmp 5,.d (D.own 94 ((y2::r2).length))),(.tmp 6,.d (D.ptr 6 0)),(.tmp 7,.d (D.ptr 7 0)),(.tmp 8,.d (D.I (t0+(1:Int)))),(.box 2,.bx (some (Box.mk false (cellsOf (Yag b))))),(.box 6,.bx (some (Box.mk false [D.I (Span.lo (Sec.t Z0)),D.I (Span.hi (Sec.t Z0)),D.I (Span.lo (Sec.w Z0)),D.I (Span.hi (Sec.w Z0))]))),(.box 7,.bx (some (Box.mk false [D.I Z2,D.I (Span.hi (Sec.t Z1)),D.I (Span.lo (Sec.w Z1)),D.I (Span.hi (Sec.w Z1))]))),(.obj 94,.ob (some (Ob.mk E.tr1 (y2::r2))))]):=by kernel_rfl
theorem trB_0_end (b:Book)(k:Nat)(o:Nat)(t0:Int)(y:Tr1)(r:List Tr1) :
  runK (mk PR (Yac types) glob 96) [(32,false)] [] [] (Ybx [1,1,1,0,1,0,0]) (trB_S0 b k o t0 y r) trB_K0 =
   let Z0:=List.getD b.secs k sec0;let Z1:=List.getD b.secs o sec0;some ([0+0+1+1≤4,decide (t0≤Span.hi (Sec.t Z0))=false],Ex.exit 0,[(.tmp 1,.d (D.I ((k:Int)))),(.tmp 2,.d (D.ptr 2 0)),(.tmp 5,.d (D.own 94 ((y::r).length))),(.tmp 6,.d (D.ptr 6 0)),(.tmp 7,.d (D.ptr 7 0)),(.tmp 8,.d (D.I t0)),(.box 2,.bx (some (Box.mk false (cellsOf (Yag b))))),(.box 6,.bx (some (Box.mk false [D.I (Span.lo (Sec.t Z0)),D.I (Span.hi (Sec.t Z0)),D.I (Span.lo (Sec.w Z0)),D.I (Span.hi (Sec.w Z0))]))),(.box 7,.bx (some (Box.mk false [D.I (Span.lo (Sec.t Z1)),D.I (Span.hi (Sec.t Z1)),D.I (Span.lo (Sec.w Z1)),D.I (Span.hi (Sec.w Z1))]))),(.obj 94,.ob (some (Ob.mk E.tr1 (y::r))))]):=by kernel_rfl
theorem rCan_0_on (b:Book)(i:Nat)(ts:List Tr1) :
  runK (mk PR (Yac types) glob 16) [(8,true),(15,false)] [(13,.sl false .tr1 ts)] [] (k_112 [1,0,1,0,0]) (Ydx b i) rCan_K0 =
   some ([decide ((i:Int)<((b.secs.length:Nat):Int))=true,Contract PR glob 115 [Yag b,D.I ((i:Int))] (D.sl false E.tr1 ts),(((ts.length:Nat):Int)==(0:Int))=false,Yae ((i:Int)+(1:Int))],Ex.normal,[(.tmp 1,.d (D.ptr 1 0)),(.tmp 3,.d (D.I ((i:Int)+(1:Int)))),(.box 1,.bx (some (Box.mk false (cellsOf (Yag b)))))]):=by kernel_rfl
theorem rCan_0_bad (b:Book)(i:Nat)(ts:List Tr1) :
  runK (mk PR (Yac types) glob 16) [(8,true),(15,true)] [(13,.sl false .tr1 ts)] [] (k_112 [1,0,1,0,0]) (Ydx b i) [.tmp 1,.tmp 3,.box 1,.tmp 2] =
   some ([decide ((i:Int)<((b.secs.length:Nat):Int))=true,Contract PR glob 115 [Yag b,D.I ((i:Int))] (D.sl false E.tr1 ts),(((ts.length:Nat):Int)==(0:Int))=true],Ex.ret,[(.tmp 1,.d (D.ptr 1 0)),(.tmp 3,.d (D.I ((i:Int)))),(.box 1,.bx (some (Box.mk false (cellsOf (Yag b))))),(.tmp 2,.d (D.bool false))]):=by kernel_rfl
theorem rCan_0_end (b:Book)(i:Nat) :
  runK (mk PR (Yac types) glob 16) [(8,false)] [] [] (k_112 [1,0,1,0,0]) (Ydx b i) rCan_K0 =
   some ([decide ((i:Int)<((b.secs.length:Nat):Int))=false],Ex.exit 0,[(.tmp 1,.d (D.ptr 1 0)),(.tmp 3,.d (D.I ((i:Int)))),(.box 1,.bx (some (Box.mk false (cellsOf (Yag b)))))]):=by kernel_rfl
theorem rSpan_0_on (b:Book)(ts:List Tr1)(d:Int)(s:Span)(i:Nat)(z:Int)(v:Span) :
  runK (mk PR (Yac types) glob 33) [(19,true)] [(29,.I z),(30,spD ⟨z,z⟩),(31,spD v)] [] (k_119 [1,1,0,1,0,0]) (Yg9 b ts d s i) rSpan_K0 =
   let Z0:=List.getD ts (Int.toNat ((i:Int))) (E.z E.tr1);some ([decide ((i:Int)<((ts.length:Nat):Int))=true,0+2≤2,(0:Int)≤(i:Int)∧(i:Int)<((ts.length:Nat):Int),0+4≤4,Contract PR glob 139 [Yag b,D.agg [D.I (Tr1.t0 Z0),D.I (Tr1.t1 Z0),D.I (Tr1.w0 Z0),D.I (Tr1.w1 Z0)],D.I 0,D.I d] (D.I z),Contract PR glob 116 [D.I z] (D.agg [D.I (Span.lo (Span.mk z z)),D.I (Span.hi (Span.mk z z))]),Contract PR glob 117 [D.agg [D.I s.lo,D.I s.hi],D.agg [D.I (Span.lo (Span.mk z z)),D.I (Span.hi (Span.mk z z))]] (D.agg [D.I v.lo,D.I v.hi]),Yae ((i:Int)+(1:Int))],Ex.normal,[(.tmp 1,.d (D.sl false E.tr1 ts)),(.tmp 2,.d (D.I d)),(.tmp 3,.d (D.ptr 3 0)),(.tmp 6,.d (D.ptr 6 0)),(.tmp 7,.d (D.ptr 7 0)),(.tmp 8,.d (D.I ((i:Int)+(1:Int)))),(.box 3,.bx (some (Box.mk false (cellsOf (Yag b))))),(.box 6,.bx (some (Box.mk false [D.I 0,D.I 0]))),(.box 7,.bx (some (Box.mk false [D.I v.lo,D.I v.hi])))]):=by kernel_rfl
theorem rSpan_0_end (b:Book)(ts:List Tr1)(d:Int)(s:Span)(i:Nat) :
  runK (mk PR (Yac types) glob 33) [(19,false)] [] [] (k_119 [1,1,0,1,0,0]) (Yg9 b ts d s i) rSpan_K0 =
   some ([decide ((i:Int)<((ts.length:Nat):Int))=false],Ex.exit 0,[(.tmp 1,.d (D.sl false E.tr1 ts)),(.tmp 2,.d (D.I d)),(.tmp 3,.d (D.ptr 3 0)),(.tmp 6,.d (D.ptr 6 0)),(.tmp 7,.d (D.ptr 7 0)),(.tmp 8,.d (D.I ((i:Int)))),(.box 3,.bx (some (Box.mk false (cellsOf (Yag b))))),(.box 6,.bx (some (Box.mk false [D.I 0,D.I 0]))),(.box 7,.bx (some (Box.mk false [D.I s.lo,D.I s.hi])))]):=by kernel_rfl
theorem rWearA_0_on (b:Book)(n:Int)(ts:List Tr1)(s:Span)(i:Nat)(z:Int)(v:Span) :
  runK (mk PR (Yac types) glob 44) [(31,true)] [(41,spD ⟨z,z⟩),(42,spD v)] [] (k_86 [1,1,1,1,0,1,0,0]) (Yfi b n ts s i) rWearA_K0 =
   some ([decide ((i:Int)<((ts.length:Nat):Int))=true,0+2≤2,(0:Int)≤(i:Int)∧(i:Int)<((ts.length:Nat):Int),(0:Int)≤(0:Int)∧(0:Int)<(Nat.cast:Nat→Int) 2,0+2+Int.toNat (0:Int)*1+1≤4,Contract PR glob 116 [D.I (Tr1.w0 (List.getD ts (Int.toNat ((i:Int))) (E.z E.tr1)))] (D.agg [D.I (Span.lo (Span.mk z z)),D.I (Span.hi (Span.mk z z))]),Contract PR glob 117 [D.agg [D.I s.lo,D.I s.hi],D.agg [D.I (Span.lo (Span.mk z z)),D.I (Span.hi (Span.mk z z))]] (D.agg [D.I v.lo,D.I v.hi]),Yae ((i:Int)+(1:Int))],Ex.normal,[(.tmp 4,.d (D.ptr 4 0)),(.tmp 7,.d (D.sl false E.tr1 ts)),(.tmp 8,.d (D.ptr 8 0)),(.tmp 9,.d (D.I ((i:Int)+(1:Int)))),(.box 4,.bx (some (Box.mk false [D.I 0,D.I 0]))),(.box 8,.bx (some (Box.mk false [D.I v.lo,D.I v.hi])))]):=by kernel_rfl
theorem rWearA_0_end (b:Book)(n:Int)(ts:List Tr1)(s:Span)(i:Nat) :
  runK (mk PR (Yac types) glob 44) [(31,false)] [] [] (k_86 [1,1,1,1,0,1,0,0]) (Yfi b n ts s i) rWearA_K0 =
   some ([decide ((i:Int)<((ts.length:Nat):Int))=false],Ex.exit 0,[(.tmp 4,.d (D.ptr 4 0)),(.tmp 7,.d (D.sl false E.tr1 ts)),(.tmp 8,.d (D.ptr 8 0)),(.tmp 9,.d (D.I ((i:Int)))),(.box 4,.bx (some (Box.mk false [D.I 0,D.I 0]))),(.box 8,.bx (some (Box.mk false [D.I s.lo,D.I s.hi])))]):=by kernel_rfl
theorem rCheck_R1_a (b:Book) :
  runK (mk PR (Yac types) glob 161) [(14,false)] [(13,.bool (Yab b.secs.length 1 4)),(17,.bool (Yab b.days 1 30)),(22,.bool (Yab b.rule 0 200))] [] (k_56 [1,0]) (Ygm b ) Ygl =
   let Z0:Prop:=Yab (((b.secs.length:Nat):Int)) (1:Int) (4:Int)=false;some ([Contract PR glob 51 [D.I (((b.secs.length:Nat):Int)),D.I 1,D.I 4] (D.bool (Yab (((b.secs.length:Nat):Int)) (1:Int) (4:Int))),Z0,Z0,Z0,Z0],Ex.normal,[(.tmp 1,.d (D.ptr 1 0)),(.tmp 3,.d (D.bool false)),(.box 1,.bx (some (Box.mk false (cellsOf (Yag b)))))]):=by kernel_rfl
theorem rCheck_R1_b (b:Book) :
  runK (mk PR (Yac types) glob 161) [(14,true),(19,false)] [(13,.bool (Yab b.secs.length 1 4)),(17,.bool (Yab b.days 1 30)),(22,.bool (Yab b.rule 0 200))] [] (k_56 [1,0]) (Ygm b ) Ygl =
   let Z0:Prop:=Yab (((b.secs.length:Nat):Int)) (1:Int) (4:Int)=true;let Z1:Prop:=Yab b.days (1:Int) (30:Int)=false;some ([Contract PR glob 51 [D.I (((b.secs.length:Nat):Int)),D.I 1,D.I 4] (D.bool (Yab (((b.secs.length:Nat):Int)) (1:Int) (4:Int))),Z0,Z0,Z0,Contract PR glob 51 [D.I b.days,D.I 1,D.I 30] (D.bool (Yab b.days (1:Int) (30:Int))),Z0,Z1,Z1,Z1,Z1],Ex.normal,[(.tmp 1,.d (D.ptr 1 0)),(.tmp 3,.d (D.bool false)),(.box 1,.bx (some (Box.mk false (cellsOf (Yag b)))))]):=by kernel_rfl
theorem rCheck_R1_c (b:Book) :
  runK (mk PR (Yac types) glob 161) [(14,true),(19,true),(24,false)] [(13,.bool (Yab b.secs.length 1 4)),(17,.bool (Yab b.days 1 30)),(22,.bool (Yab b.rule 0 200))] [] (k_56 [1,0]) (Ygm b ) Ygl =
   let Z0:Prop:=Yab (((b.secs.length:Nat):Int)) (1:Int) (4:Int)=true;let Z1:Prop:=Yab b.rule (0:Int) (200:Int)=false;let Z2:Prop:=Yab b.days (1:Int) (30:Int)=true;some ([Contract PR glob 51 [D.I (((b.secs.length:Nat):Int)),D.I 1,D.I 4] (D.bool (Yab (((b.secs.length:Nat):Int)) (1:Int) (4:Int))),Z0,Z0,Z0,Contract PR glob 51 [D.I b.days,D.I 1,D.I 30] (D.bool (Yab b.days (1:Int) (30:Int))),Z0,Z2,Z2,Z2,Contract PR glob 51 [D.I b.rule,D.I 0,D.I 200] (D.bool (Yab b.rule (0:Int) (200:Int))),Z2,Z1,Z1,Z1,Z1,Z1],Ex.normal,[(.tmp 1,.d (D.ptr 1 0)),(.tmp 3,.d (D.bool false)),(.box 1,.bx (some (Box.mk false (cellsOf (Yag b)))))]):=by kernel_rfl
theorem rCheck_R1_d (b:Book) :
  runK (mk PR (Yac types) glob 161) [(14,true),(19,true),(24,true),(30,false)] [(13,.bool (Yab b.secs.length 1 4)),(17,.bool (Yab b.days 1 30)),(22,.bool (Yab b.rule 0 200))] [] (k_56 [1,0]) (Ygm b ) Ygl =
   let Z0:Prop:=decide (((b.turns.length:Nat):Int)≤(4:Int))=false;let Z1:Prop:=Yab (((b.secs.length:Nat):Int)) (1:Int) (4:Int)=true;let Z2:Prop:=Yab b.rule (0:Int) (200:Int)=true;let Z3:Prop:=Yab b.days (1:Int) (30:Int)=true;some ([Contract PR glob 51 [D.I (((b.secs.length:Nat):Int)),D.I 1,D.I 4] (D.bool (Yab (((b.secs.length:Nat):Int)) (1:Int) (4:Int))),Z1,Z1,Z1,Contract PR glob 51 [D.I b.days,D.I 1,D.I 30] (D.bool (Yab b.days (1:Int) (30:Int))),Z1,Z3,Z3,Z3,Contract PR glob 51 [D.I b.rule,D.I 0,D.I 200] (D.bool (Yab b.rule (0:Int) (200:Int))),Z3,Z2,Z2,Z2,Z2,Z2,Z0,Z0,Z0,Z0,Z0],Ex.normal,[(.tmp 1,.d (D.ptr 1 0)),(.tmp 3,.d (D.bool false)),(.box 1,.bx (some (Box.mk false (cellsOf (Yag b)))))]):=by kernel_rfl
theorem rCheck_R1_e (b:Book) :
  runK (mk PR (Yac types) glob 161) [(14,true),(19,true),(24,true),(30,true)] [(13,.bool (Yab b.secs.length 1 4)),(17,.bool (Yab b.days 1 30)),(22,.bool (Yab b.rule 0 200))] [] (k_56 [1,0]) (Ygm b ) Ygl =
   let Z0:Prop:=decide (((b.turns.length:Nat):Int)≤(4:Int))=true;let Z1:Prop:=Yab (((b.secs.length:Nat):Int)) (1:Int) (4:Int)=true;let Z2:Prop:=Yab b.rule (0:Int) (200:Int)=true;let Z3:Prop:=Yab b.days (1:Int) (30:Int)=true;some ([Contract PR glob 51 [D.I (((b.secs.length:Nat):Int)),D.I 1,D.I 4] (D.bool (Yab (((b.secs.length:Nat):Int)) (1:Int) (4:Int))),Z1,Z1,Z1,Contract PR glob 51 [D.I b.days,D.I 1,D.I 30] (D.bool (Yab b.days (1:Int) (30:Int))),Z1,Z3,Z3,Z3,Contract PR glob 51 [D.I b.rule,D.I 0,D.I 200] (D.bool (Yab b.rule (0:Int) (200:Int))),Z3,Z2,Z2,Z2,Z2,Z2,Z0,Z0,Z0,Z0,Z0],Ex.normal,[(.tmp 1,.d (D.ptr 1 0)),(.tmp 3,.d (D.bool (decide (((b.svs.length:Nat):Int)≤(8:Int))))),(.box 1,.bx (some (Box.mk false (cellsOf (Yag b)))))]):=by kernel_rfl
theorem rCheck_R7_a (b:Book)(ok:Bool)(most:Int)(i:Nat) :
  runK (mk PR (Yac types) glob 161) [(54,false)] [(53,.bool (Ybg (b.secs.getD i sec0).t 0 200)),(67,.bool (Ybg (b.secs.getD i sec0).w 0 3))] [] (k_56 [1,1,1,0,1,0,0,1,0,0,1,0]) (rCheck_R7 b ok most i) rCheck_RO7 =
   let Z0:Prop:=Ybg (Sec.t (List.getD b.secs i sec0)) (0:Int) (200:Int)=false;let Z1:=List.getD b.secs i sec0;some ([0+0+2≤4,Contract PR glob 91 [D.agg [D.I (Span.lo (Sec.t Z1)),D.I (Span.hi (Sec.t Z1))],D.I 0,D.I 200] (D.bool (Ybg (Sec.t Z1) (0:Int) (200:Int))),Z0,Z0,Z0,Z0,Z0,Z0,Z0,Z0,Z0],Ex.normal,[(.tmp 1,.d (D.ptr 1 0)),(.tmp 3,.d (D.bool false)),(.tmp 4,.d (D.I most)),(.tmp 5,.d (D.I ((i:Int)))),(.tmp 6,.d (D.ptr 6 0)),(.box 1,.bx (some (Box.mk false (cellsOf (Yag b))))),(.box 6,.bx (some (Box.mk false [D.I (Span.lo (Sec.t Z1)),D.I (Span.hi (Sec.t Z1)),D.I (Span.lo (Sec.w Z1)),D.I (Span.hi (Sec.w Z1))])))]):=by kernel_rfl
theorem rCheck_R7_b (b:Book)(ok:Bool)(most:Int)(i:Nat) :
  runK (mk PR (Yac types) glob 161) [(54,true),(64,false)] [(53,.bool (Ybg (b.secs.getD i sec0).t 0 200)),(67,.bool (Ybg (b.secs.getD i sec0).w 0 3))] [] (k_56 [1,1,1,0,1,0,0,1,0,0,1,0]) (rCheck_R7 b ok most i) rCheck_RO7 =
   let Z0:=Sec.t (List.getD b.secs i sec0);let Z1:Prop:=Ybg Z0 (0:Int) (200:Int)=true;let Z2:Prop:=decide (Span.hi Z0-Span.lo Z0≤(3:Int))=false;let Z3:=Sec.w (List.getD b.secs i sec0);some ([0+0+2≤4,Contract PR glob 91 [D.agg [D.I (Span.lo Z0),D.I (Span.hi Z0)],D.I 0,D.I 200] (D.bool (Ybg Z0 (0:Int) (200:Int))),Z1,Z1,Z1,0+0+1+1≤4,Z1,Z1,Z1,0+0+0+1≤4,Z1,Yae (Span.hi Z0-Span.lo Z0),Z1,Z1,Z2,Z2,Z2,Z2],Ex.normal,[(.tmp 1,.d (D.ptr 1 0)),(.tmp 3,.d (D.bool false)),(.tmp 4,.d (D.I most)),(.tmp 5,.d (D.I ((i:Int)))),(.tmp 6,.d (D.ptr 6 0)),(.box 1,.bx (some (Box.mk false (cellsOf (Yag b))))),(.box 6,.bx (some (Box.mk false [D.I (Span.lo Z0),D.I (Span.hi Z0),D.I (Span.lo Z3),D.I (Span.hi Z3)])))]):=by kernel_rfl
theorem rCheck_R7_c (b:Book)(ok:Bool)(most:Int)(i:Nat) :
  runK (mk PR (Yac types) glob 161) [(54,true),(64,true),(69,false)] [(53,.bool (Ybg (b.secs.getD i sec0).t 0 200)),(67,.bool (Ybg (b.secs.getD i sec0).w 0 3))] [] (k_56 [1,1,1,0,1,0,0,1,0,0,1,0]) (rCheck_R7 b ok most i) rCheck_RO7 =
   let Z0:=List.getD b.secs i sec0;let Z1:Prop:=Ybg (Sec.t Z0) (0:Int) (200:Int)=true;let Z2:Prop:=Ybg (Sec.w Z0) (0:Int) (3:Int)=false;let Z3:Prop:=decide (Span.hi (Sec.t Z0)-Span.lo (Sec.t Z0)≤(3:Int))=true;some ([0+0+2≤4,Contract PR glob 91 [D.agg [D.I (Span.lo (Sec.t Z0)),D.I (Span.hi (Sec.t Z0))],D.I 0,D.I 200] (D.bool (Ybg (Sec.t Z0) (0:Int) (200:Int))),Z1,Z1,Z1,0+0+1+1≤4,Z1,Z1,Z1,0+0+0+1≤4,Z1,Yae (Span.hi (Sec.t Z0)-Span.lo (Sec.t Z0)),Z1,Z1,Z3,Z3,0+2+2≤4,Z3,Contract PR glob 91 [D.agg [D.I (Span.lo (Sec.w Z0)),D.I (Span.hi (Sec.w Z0))],D.I 0,D.I 3] (D.bool (Ybg (Sec.w Z0) (0:Int) (3:Int))),Z3,Z2,Z2,Z2,Z2,Z2,Z2,Z2,Z2,Z2],Ex.normal,[(.tmp 1,.d (D.ptr 1 0)),(.tmp 3,.d (D.bool false)),(.tmp 4,.d (D.I most)),(.tmp 5,.d (D.I ((i:Int)))),(.tmp 6,.d (D.ptr 6 0)),(.box 1,.bx (some (Box.mk false (cellsOf (Yag b))))),(.box 6,.bx (some (Box.mk false [D.I (Span.lo (Sec.t Z0)),D.I (Span.hi (Sec.t Z0)),D.I (Span.lo (Sec.w Z0)),D.I (Span.hi (Sec.w Z0))])))]):=by kernel_rfl
theorem rCheck_R7_e (b:Book)(ok:Bool)(most:Int)(i:Nat) :
  runK (mk PR (Yac types) glob 161) [(54,true),(64,true),(69,true)] [(53,.bool (Ybg (b.secs.getD i sec0).t 0 200)),(67,.bool (Ybg (b.secs.getD i sec0).w 0 3))] [] (k_56 [1,1,1,0,1,0,0,1,0,0,1,0]) (rCheck_R7 b ok most i) rCheck_RO7 =
   let Z0:=List.getD b.secs i sec0;let Z1:Prop:=Ybg (Sec.t Z0) (0:Int) (200:Int)=true;let Z2:Prop:=Ybg (Sec.w Z0) (0:Int) (3:Int)=true;let Z3:Prop:=decide (Span.hi (Sec.t Z0)-Span.lo (Sec.t Z0)≤(3:Int))=true;some ([0+0+2≤4,Contract PR glob 91 [D.agg [D.I (Span.lo (Sec.t Z0)),D.I (Span.hi (Sec.t Z0))],D.I 0,D.I 200] (D.bool (Ybg (Sec.t Z0) (0:Int) (200:Int))),Z1,Z1,Z1,0+0+1+1≤4,Z1,Z1,Z1,0+0+0+1≤4,Z1,Yae (Span.hi (Sec.t Z0)-Span.lo (Sec.t Z0)),Z1,Z1,Z3,Z3,0+2+2≤4,Z3,Contract PR glob 91 [D.agg [D.I (Span.lo (Sec.w Z0)),D.I (Span.hi (Sec.w Z0))],D.I 0,D.I 3] (D.bool (Ybg (Sec.w Z0) (0:Int) (3:Int))),Z3,Z2,Z2,Z2,0+2+1+1≤4,Z2,Z2,Z2,0+2+0+1≤4,Z2,Yae (Span.hi (Sec.w Z0)-Span.lo (Sec.w Z0)),Z2,Z2],Ex.normal,[(.tmp 1,.d (D.ptr 1 0)),(.tmp 3,.d (D.bool (decide (Span.hi (Sec.w Z0)-Span.lo (Sec.w Z0)≤(2:Int))))),(.tmp 4,.d (D.I most)),(.tmp 5,.d (D.I ((i:Int)))),(.tmp 6,.d (D.ptr 6 0)),(.box 1,.bx (some (Box.mk false (cellsOf (Yag b))))),(.box 6,.bx (some (Box.mk false [D.I (Span.lo (Sec.t Z0)),D.I (Span.hi (Sec.t Z0)),D.I (Span.lo (Sec.w Z0)),D.I (Span.hi (Sec.w Z0))])))]):=by kernel_rfl
theorem rCheck_0_on (b:Book)(ok:Bool)(most:Int)(i:Nat)(ok2:Bool) :
  runK (mk PR (Yac types) glob 161) [(37,true),(43,true)] [] [(1007,(rCheck_RK7,(.normal,rCheck_RS7 b ok most i ok2)))] (k_56 [1,1,1,0,1,0,0]) (Yck b ok most i) rCheck_K0 =
   let Z0:=List.getD b.secs (Int.toNat ((i:Int))) (E.z E.sec);some ([ok=true,ok=true,ok=true,ok=true,ok=true,ok=true,decide ((i:Int)<((b.secs.length:Nat):Int))=true,(0:Int)≤(i:Int)∧(i:Int)<((b.secs.length:Nat):Int),0+4≤4,LoopT PR glob 161 (k_56 [1,1,1,0,1,0,0,1,0,0,1,0]) [(.tmp 1,.d (D.ptr 1 0)),(.tmp 4,.d (D.I most)),(.tmp 5,.d (D.I ((i:Int)))),(.tmp 6,.d (D.ptr 6 0)),(.box 1,.bx (some (Box.mk false (cellsOf (Yag b))))),(.box 6,.bx (some (Box.mk false [D.I (Span.lo (Sec.t Z0)),D.I (Span.hi (Sec.t Z0)),D.I (Span.lo (Sec.w Z0)),D.I (Span.hi (Sec.w Z0))])))] Ex.normal (rCheck_RS7 b ok most i ok2),0+2+1+1≤4,Yae ((i:Int)+(1:Int))],Ex.normal,[(.tmp 1,.d (D.ptr 1 0)),(.tmp 3,.d (D.bool ok2)),(.tmp 4,.d (D.I (List.foldl mx most [Span.hi (Sec.w (List.getD b.secs i sec0))]))),(.tmp 5,.d (D.I ((i:Int)+(1:Int)))),(.box 1,.bx (some (Box.mk false (cellsOf (Yag b)))))]):=by kernel_rfl
theorem rCheck_0_no (b:Book)(ok:Bool)(most:Int)(i:Nat) :
  runK (mk PR (Yac types) glob 161) [(37,false)] [] [] (k_56 [1,1,1,0,1,0,0]) (Yck b ok most i) rCheck_K0 =
   some ([ok=false,ok=false,ok=false,ok=false,ok=false,ok=false],Ex.exit 0,[(.tmp 1,.d (D.ptr 1 0)),(.tmp 3,.d (D.bool ok)),(.tmp 4,.d (D.I most)),(.tmp 5,.d (D.I ((i:Int)))),(.box 1,.bx (some (Box.mk false (cellsOf (Yag b)))))]):=by kernel_rfl
theorem rCheck_0_end (b:Book)(ok:Bool)(most:Int)(i:Nat) :
  runK (mk PR (Yac types) glob 161) [(37,true),(43,false)] [] [] (k_56 [1,1,1,0,1,0,0]) (Yck b ok most i) rCheck_K0 =
   some ([ok=true,ok=true,ok=true,ok=true,ok=true,ok=true,decide ((i:Int)<((b.secs.length:Nat):Int))=false],Ex.exit 0,[(.tmp 1,.d (D.ptr 1 0)),(.tmp 3,.d (D.bool ok)),(.tmp 4,.d (D.I most)),(.tmp 5,.d (D.I ((i:Int)))),(.box 1,.bx (some (Box.mk false (cellsOf (Yag b)))))]):=by kernel_rfl
theorem rCheck_2_on (b:Book)(ok:Bool)(most:Int)(i:Nat) :
  runK (mk PR (Yac types) glob 161) [(85,true),(91,true)] [] [] (k_56 [1,1,1,1,0,1,0,0]) (Ycj b ok most i) rCheck_K2 =
   some ([ok=true,ok=true,ok=true,ok=true,ok=true,ok=true,decide ((i:Int)<((b.secs.length:Nat):Int))=true,(0:Int)≤(i:Int)∧(i:Int)<((b.secs.length:Nat):Int),0+0+0+1≤4,Yae (b.days*most),Yae ((i:Int)+(1:Int))],Ex.normal,[(.tmp 1,.d (D.ptr 1 0)),(.tmp 3,.d (D.bool (decide (Span.lo (Sec.t (List.getD b.secs (Int.toNat ((i:Int))) (E.z E.sec)))≥b.days*most)))),(.tmp 4,.d (D.I most)),(.tmp 7,.d (D.I ((i:Int)+(1:Int)))),(.box 1,.bx (some (Box.mk false (cellsOf (Yag b)))))]):=by kernel_rfl
theorem rCheck_2_no (b:Book)(ok:Bool)(most:Int)(i:Nat) :
  runK (mk PR (Yac types) glob 161) [(85,false)] [] [] (k_56 [1,1,1,1,0,1,0,0]) (Ycj b ok most i) rCheck_K2 =
   some ([ok=false,ok=false,ok=false,ok=false,ok=false,ok=false],Ex.exit 2,[(.tmp 1,.d (D.ptr 1 0)),(.tmp 3,.d (D.bool ok)),(.tmp 4,.d (D.I most)),(.tmp 7,.d (D.I ((i:Int)))),(.box 1,.bx (some (Box.mk false (cellsOf (Yag b)))))]):=by kernel_rfl
theorem rCheck_2_end (b:Book)(ok:Bool)(most:Int)(i:Nat) :
  runK (mk PR (Yac types) glob 161) [(85,true),(91,false)] [] [] (k_56 [1,1,1,1,0,1,0,0]) (Ycj b ok most i) rCheck_K2 =
   some ([ok=true,ok=true,ok=true,ok=true,ok=true,ok=true,decide ((i:Int)<((b.secs.length:Nat):Int))=false],Ex.exit 2,[(.tmp 1,.d (D.ptr 1 0)),(.tmp 3,.d (D.bool ok)),(.tmp 4,.d (D.I most)),(.tmp 7,.d (D.I ((i:Int)))),(.box 1,.bx (some (Box.mk false (cellsOf (Yag b)))))]):=by kernel_rfl
theorem rCheck_4_a (b:Book)(ok:Bool)(i:Nat) :
  runK (mk PR (Yac types) glob 161) [(107,true),(113,true),(124,false)] [(123,.bool (Yab (b.turns.getD i 0) 1 b.days))] [] (k_56 [1,1,1,1,1,0,1,0,0]) (Yb1 b ok i) Yfj =
   let Z0:Prop:=Yab (List.getD b.turns i (0:Int)) (1:Int) b.days=false;some ([ok=true,ok=true,ok=true,ok=true,ok=true,ok=true,decide ((i:Int)<((b.turns.length:Nat):Int))=true,(0:Int)≤(i:Int)∧(i:Int)<((b.turns.length:Nat):Int),0+1≤1,Contract PR glob 51 [D.I (List.getD b.turns (Int.toNat ((i:Int))) (E.z E.int)),D.I 1,D.I b.days] (D.bool (Yab (List.getD b.turns i (0:Int)) (1:Int) b.days)),Z0,Z0,Z0,Z0,Z0,Yae ((i:Int)+(1:Int))],Ex.normal,[(.tmp 1,.d (D.ptr 1 0)),(.tmp 3,.d (D.bool false)),(.tmp 8,.d (D.I ((i:Int)+(1:Int)))),(.box 1,.bx (some (Box.mk false (cellsOf (Yag b)))))]):=by kernel_rfl
theorem rCheck_4_b (b:Book)(ok:Bool)(i:Nat) :
  runK (mk PR (Yac types) glob 161) [(107,true),(113,true),(124,true),(127,true)] [(123,.bool (Yab (b.turns.getD i 0) 1 b.days))] [] (k_56 [1,1,1,1,1,0,1,0,0]) (Yb1 b ok i) Yfj =
   let Z0:Prop:=Yab (List.getD b.turns i (0:Int)) (1:Int) b.days=true;some ([ok=true,ok=true,ok=true,ok=true,ok=true,ok=true,decide ((i:Int)<((b.turns.length:Nat):Int))=true,(0:Int)≤(i:Int)∧(i:Int)<((b.turns.length:Nat):Int),0+1≤1,Contract PR glob 51 [D.I (List.getD b.turns (Int.toNat ((i:Int))) (E.z E.int)),D.I 1,D.I b.days] (D.bool (Yab (List.getD b.turns i (0:Int)) (1:Int) b.days)),Z0,Z0,Z0,((i:Int)==(0:Int))=true,((i:Int)==(0:Int))=true,((i:Int)==(0:Int))=true,((i:Int)==(0:Int))=true,((i:Int)==(0:Int))=true,((i:Int)==(0:Int))=true,((i:Int)==(0:Int))=true,((i:Int)==(0:Int))=true,((i:Int)==(0:Int))=true,((i:Int)==(0:Int))=true,((i:Int)==(0:Int))=true,((i:Int)==(0:Int))=true,Z0,((i:Int)==(0:Int))=true,Z0,Yae ((i:Int)+(1:Int))],Ex.normal,[(.tmp 1,.d (D.ptr 1 0)),(.tmp 3,.d (D.bool true)),(.tmp 8,.d (D.I ((i:Int)+(1:Int)))),(.box 1,.bx (some (Box.mk false (cellsOf (Yag b)))))]):=by kernel_rfl
theorem rCheck_4_c (b:Book)(ok:Bool)(i:Nat) :
  runK (mk PR (Yac types) glob 161) [(107,true),(113,true),(124,true),(127,false)] [(123,.bool (Yab (b.turns.getD i 0) 1 b.days))] [] (k_56 [1,1,1,1,1,0,1,0,0]) (Yb1 b ok i) Yfj =
   let Z0:Prop:=Yab (List.getD b.turns i (0:Int)) (1:Int) b.days=true;some ([ok=true,ok=true,ok=true,ok=true,ok=true,ok=true,decide ((i:Int)<((b.turns.length:Nat):Int))=true,(0:Int)≤(i:Int)∧(i:Int)<((b.turns.length:Nat):Int),0+1≤1,Contract PR glob 51 [D.I (List.getD b.turns (Int.toNat ((i:Int))) (E.z E.int)),D.I 1,D.I b.days] (D.bool (Yab (List.getD b.turns i (0:Int)) (1:Int) b.days)),Z0,Z0,Z0,((i:Int)==(0:Int))=false,((i:Int)==(0:Int))=false,((i:Int)==(0:Int))=false,((i:Int)==(0:Int))=false,(0:Int)≤(i:Int)∧(i:Int)<((b.turns.length:Nat):Int),((i:Int)==(0:Int))=false,0+1≤1,((i:Int)==(0:Int))=false,((i:Int)==(0:Int))=false,((i:Int)==(0:Int))=false,((i:Int)==(0:Int))=false,Yae ((i:Int)-(1:Int)),((i:Int)==(0:Int))=false,(0:Int)≤(i:Int)-(1:Int)∧(i:Int)-(1:Int)<((b.turns.length:Nat):Int),((i:Int)==(0:Int))=false,0+1≤1,((i:Int)==(0:Int))=false,Z0,((i:Int)==(0:Int))=false,Z0,Yae ((i:Int)+(1:Int))],Ex.normal,[(.tmp 1,.d (D.ptr 1 0)),(.tmp 3,.d (D.bool (decide (List.getD b.turns (Int.toNat ((i:Int))) (E.z E.int)>List.getD b.turns (Int.toNat ((i:Int)-(1:Int))) (E.z E.int))))),(.tmp 8,.d (D.I ((i:Int)+(1:Int)))),(.box 1,.bx (some (Box.mk false (cellsOf (Yag b)))))]):=by kernel_rfl
theorem rCheck_4_no (b:Book)(ok:Bool)(i:Nat) :
  runK (mk PR (Yac types) glob 161) [(107,false)] [] [] (k_56 [1,1,1,1,1,0,1,0,0]) (Yb1 b ok i) Yfj =
   some ([ok=false,ok=false,ok=false,ok=false,ok=false,ok=false],Ex.exit 4,[(.tmp 1,.d (D.ptr 1 0)),(.tmp 3,.d (D.bool ok)),(.tmp 8,.d (D.I ((i:Int)))),(.box 1,.bx (some (Box.mk false (cellsOf (Yag b)))))]):=by kernel_rfl
theorem rCheck_4_end (b:Book)(ok:Bool)(i:Nat) :
  runK (mk PR (Yac types) glob 161) [(107,true),(113,false)] [] [] (k_56 [1,1,1,1,1,0,1,0,0]) (Yb1 b ok i) Yfj =
   some ([ok=true,ok=true,ok=true,ok=true,ok=true,ok=true,decide ((i:Int)<((b.turns.length:Nat):Int))=false],Ex.exit 4,[(.tmp 1,.d (D.ptr 1 0)),(.tmp 3,.d (D.bool ok)),(.tmp 8,.d (D.I ((i:Int)))),(.box 1,.bx (some (Box.mk false (cellsOf (Yag b)))))]):=by kernel_rfl
theorem rCheck_6_on (b:Book)(ok:Bool)(i:Nat)(ok2:Bool) :
  runK (mk PR (Yac types) glob 161) [(143,true),(149,true)] [(158,.bool ok2)] [] (k_56 [1,1,1,1,1,1,0,1,0,0]) (Yci b ok i) rCheck_K6 =
   let Z0:=List.getD b.svs (Int.toNat ((i:Int))) (E.z E.sv);some ([ok=true,ok=true,ok=true,ok=true,ok=true,ok=true,decide ((i:Int)<((b.svs.length:Nat):Int))=true,(0:Int)≤(i:Int)∧(i:Int)<((b.svs.length:Nat):Int),0+4≤4,Contract PR glob 92 [Yag b,D.agg [D.I (Sv.s Z0),D.I (Sv.d Z0),D.I (Sv.r Z0),D.I (Sv.e Z0)]] (D.bool ok2),Yae ((i:Int)+(1:Int))],Ex.normal,[(.tmp 1,.d (D.ptr 1 0)),(.tmp 3,.d (D.bool ok2)),(.tmp 9,.d (D.I ((i:Int)+(1:Int)))),(.box 1,.bx (some (Box.mk false (cellsOf (Yag b)))))]):=by kernel_rfl
theorem rCheck_6_no (b:Book)(ok:Bool)(i:Nat) :
  runK (mk PR (Yac types) glob 161) [(143,false)] [] [] (k_56 [1,1,1,1,1,1,0,1,0,0]) (Yci b ok i) rCheck_K6 =
   some ([ok=false,ok=false,ok=false,ok=false,ok=false,ok=false],Ex.exit 6,[(.tmp 1,.d (D.ptr 1 0)),(.tmp 3,.d (D.bool ok)),(.tmp 9,.d (D.I ((i:Int)))),(.box 1,.bx (some (Box.mk false (cellsOf (Yag b)))))]):=by kernel_rfl
theorem rCheck_6_end (b:Book)(ok:Bool)(i:Nat) :
  runK (mk PR (Yac types) glob 161) [(143,true),(149,false)] [] [] (k_56 [1,1,1,1,1,1,0,1,0,0]) (Yci b ok i) rCheck_K6 =
   some ([ok=true,ok=true,ok=true,ok=true,ok=true,ok=true,decide ((i:Int)<((b.svs.length:Nat):Int))=false],Ex.exit 6,[(.tmp 1,.d (D.ptr 1 0)),(.tmp 3,.d (D.bool ok)),(.tmp 9,.d (D.I ((i:Int)))),(.box 1,.bx (some (Box.mk false (cellsOf (Yag b)))))]):=by kernel_rfl
def Yf9 (b:Book)(k:Nat)(u:Tr1)(i:Nat)(o:Nat)(z:Int):List (Key×Val) :=
 [(.tmp 1,.d (D.I ((k:Int)))),(.tmp 3,.d (D.ptr 3 0)),(.tmp 5,.d (D.ptr 5 0)),(.tmp 7,.d (D.I ((i:Int)))),(.box 3,.bx (some (Box.mk false (cellsOf (Yag b))))),(.box 5,.bx (some (Box.mk false [D.I (Tr1.t0 u),D.I (Tr1.t1 u),D.I (Tr1.w0 u),D.I (Tr1.w1 u)]))),(.tmp 6,.d (D.bool false))]
def Yf8 (b:Book)(k:Nat)(u:Tr1)(i:Nat)(o:Nat)(z:Int):List (Key×Val) :=
 [(.tmp 1,.d (D.I ((k:Int)))),(.tmp 3,.d (D.ptr 3 0)),(.tmp 5,.d (D.ptr 5 0)),(.tmp 7,.d (D.I ((i:Int)))),(.box 3,.bx (some (Box.mk false (cellsOf (Yag b))))),(.box 5,.bx (some (Box.mk false [D.I (Tr1.t0 u),D.I (Tr1.t1 u),D.I (Tr1.w0 u),D.I (Tr1.w1 u)]))),(.tmp 6,.d (D.bool false))]
def Yga (b:Book)(k:Nat)(u:Tr1)(i:Nat)(o:Nat)(z:Int):List (Key×Val) :=
 [(.tmp 1,.d (D.I ((k:Int)))),(.tmp 3,.d (D.ptr 3 0)),(.tmp 5,.d (D.ptr 5 0)),(.tmp 7,.d (D.I ((i:Int)))),(.box 3,.bx (some (Box.mk false (cellsOf (Yag b))))),(.box 5,.bx (some (Box.mk false [D.I (Tr1.t0 u),D.I (Tr1.t1 u),D.I (Tr1.w0 u),D.I (Tr1.w1 u)]))),(.tmp 6,.d (D.bool false))]
def rCan_T0_bad (b:Book)(i:Nat)(ts:List Tr1):List (Key×Val) :=
 [(.tmp 1,.d (D.ptr 1 0)),(.tmp 3,.d (D.I ((i:Int)))),(.box 1,.bx (some (Box.mk false (cellsOf (Yag b))))),(.tmp 2,.d (D.bool false))]
theorem oSec_all (xs:List Sec) :
  Yai (mk PR (Yac types) glob 7) [] [(6,.nil)] [] (body Tryz.f42) [.tmp 2] [.sl false .sec xs] =
   some ([(0:Int)≤(0:Int)∧(0:Int)≤(0:Int)∧(0:Int)≤((xs.length:Nat):Int)∧(0:Int)=(0:Int),xs.length*32≤140737488355328∧xs.length≤140737488355328,xs.length=List.length (xs)],D.sl false E.sec (xs)):=by kernel_rfl
theorem oInt_all (xs:List Int) :
  Yai (mk PR (Yac types) glob 7) [] [(6,.nil)] [] (body Tryz.f15) [.tmp 2] [.sl false .int xs] =
   some ([(0:Int)≤(0:Int)∧(0:Int)≤(0:Int)∧(0:Int)≤((xs.length:Nat):Int)∧(0:Int)=(0:Int),xs.length*8≤140737488355328∧xs.length≤140737488355328,xs.length=List.length (xs)],D.sl false E.int (xs)):=by kernel_rfl
theorem oSv_all (xs:List Sv) :
  Yai (mk PR (Yac types) glob 7) [] [(6,.nil)] [] (body Tryz.f43) [.tmp 2] [.sl false .sv xs] =
   some ([(0:Int)≤(0:Int)∧(0:Int)≤(0:Int)∧(0:Int)≤((xs.length:Nat):Int)∧(0:Int)=(0:Int),xs.length*32≤140737488355328∧xs.length≤140737488355328,xs.length=List.length (xs)],D.sl false E.sv (xs)):=by kernel_rfl
theorem oChain_all (b:Book) :
  Yai (mk PR (Yac types) glob 16) [] [(5,.sl false .sec b.secs),(8,.sl false .int b.turns),(11,.sl false .sv b.svs)] [] (body Tryz.f14) [.cell 2 26] [Yag b] =
   some ([Contract PR glob 42 [D.sl false E.sec b.secs] (D.sl false E.sec b.secs),Contract PR glob 15 [D.sl false E.int b.turns] (D.sl false E.int b.turns),Contract PR glob 43 [D.sl false E.sv b.svs] (D.sl false E.sv b.svs)],Yag b):=by kernel_rfl
theorem kSec_all (xs:List Sec)(i:Nat) :
  Yai (mk PR (Yac types) glob 31) [] [] [(0,(kSec_K0,(.normal,Yfl xs true i)))] (body Tryz.f61) [.tmp 4] [.sl false .sec xs,.sl false .sec xs] =
   some ([LoopT PR glob 31 (k_61 [1,1,0,1]) (Yfl xs (((xs.length:Nat):Int)==((xs.length:Nat):Int)) 0) Ex.normal (Yfl xs true i)],D.bool true):=by kernel_rfl
theorem kSv_all (xs:List Sv)(i:Nat) :
  Yai (mk PR (Yac types) glob 31) [] [] [(0,(kSv_K0,(.normal,kSv_S0 xs true i)))] (body Tryz.f62) [.tmp 4] [.sl false .sv xs,.sl false .sv xs] =
   some ([LoopT PR glob 31 (k_62 [1,1,0,1]) (kSv_S0 xs (((xs.length:Nat):Int)==((xs.length:Nat):Int)) 0) Ex.normal (kSv_S0 xs true i)],D.bool true):=by kernel_rfl
theorem kChain_all (b:Book) :
  Yai (mk PR (Yac types) glob 38) [(31,true)] [(9,.bool true),(15,.bool true),(22,.bool true)] [] (body Tryz.f24) [.tmp 4] [Yag b,Yag b] =
   some ([Contract PR glob 61 [D.sl false E.sec b.secs,D.sl false E.sec b.secs] (D.bool true),Contract PR glob 25 [D.sl false E.int b.turns,D.sl false E.int b.turns] (D.bool true),Contract PR glob 62 [D.sl false E.sv b.svs,D.sl false E.sv b.svs] (D.bool true),(b.rule==b.rule)=true,(b.rule==b.rule)=true,(b.rule==b.rule)=true,(b.rule==b.rule)=true,(b.rule==b.rule)=true,(b.rule==b.rule)=true],D.bool (b.days==b.days)):=by kernel_rfl
theorem rSection_all (b:Book)(n:Int) :
  Yai (mk PR (Yac types) glob 11) [] [(10,.bool (Yaf b n))] [] (body Tryz.f114) [.tmp 4] [Yag b,.I n] =
   some ([Yae (((b.secs.length:Nat):Int)-(1:Int)),Contract PR glob 51 [D.I n,D.I 0,D.I (((b.secs.length:Nat):Int)-(1:Int))] (D.bool (Yaf b n))],D.bool (Yaf b n)):=by kernel_rfl
theorem rDay_all (b:Book)(n:Int) :
  Yai (mk PR (Yac types) glob 9) [] [(8,.bool (Yaw b n))] [] (body Tryz.f118) [.tmp 4] [Yag b,.I n] =
   some ([Contract PR glob 51 [D.I n,D.I 0,D.I b.days] (D.bool (Yaw b n))],D.bool (Yaw b n)):=by kernel_rfl
theorem rSurvey_a (b:Book)(x:Sv) :
  Yai (mk PR (Yac types) glob 25) [(9,false)] [(8,.bool (Yaf b x.s)),(13,.bool (Yaw b x.d)),(18,.bool (Yab x.r 0 200)),(23,.bool (Yab x.e 0 5))] [] (body Tryz.f92) [.tmp 4] [Yag b,svD x] =
   let Z0:Prop:=Yaf b x.s=false;some ([0+0+1≤4,Contract PR glob 114 [Yag b,D.I x.s] (D.bool (Yaf b x.s)),Z0,Z0,Z0,Z0,Z0],D.bool false):=by kernel_rfl
theorem rSurvey_b (b:Book)(x:Sv) :
  Yai (mk PR (Yac types) glob 25) [(9,true),(15,false)] [(8,.bool (Yaf b x.s)),(13,.bool (Yaw b x.d)),(18,.bool (Yab x.r 0 200)),(23,.bool (Yab x.e 0 5))] [] (body Tryz.f92) [.tmp 4] [Yag b,svD x] =
   let Z0:Prop:=Yaf b x.s=true;let Z1:Prop:=Yaw b x.d=false;some ([0+0+1≤4,Contract PR glob 114 [Yag b,D.I x.s] (D.bool (Yaf b x.s)),Z0,Z0,Z0,0+1+1≤4,Z0,Contract PR glob 118 [Yag b,D.I x.d] (D.bool (Yaw b x.d)),Z0,Z1,Z1,Z1,Z1],D.bool false):=by kernel_rfl
theorem rSurvey_c (b:Book)(x:Sv) :
  Yai (mk PR (Yac types) glob 25) [(9,true),(15,true),(20,false)] [(8,.bool (Yaf b x.s)),(13,.bool (Yaw b x.d)),(18,.bool (Yab x.r 0 200)),(23,.bool (Yab x.e 0 5))] [] (body Tryz.f92) [.tmp 4] [Yag b,svD x] =
   let Z0:Prop:=Yab x.r (0:Int) (200:Int)=false;let Z1:Prop:=Yaf b x.s=true;let Z2:Prop:=Yaw b x.d=true;some ([0+0+1≤4,Contract PR glob 114 [Yag b,D.I x.s] (D.bool (Yaf b x.s)),Z1,Z1,Z1,0+1+1≤4,Z1,Contract PR glob 118 [Yag b,D.I x.d] (D.bool (Yaw b x.d)),Z1,Z2,Z2,0+2+1≤4,Z2,Contract PR glob 51 [D.I x.r,D.I 0,D.I 200] (D.bool (Yab x.r (0:Int) (200:Int))),Z2,Z0,Z0,Z0,Z0],D.bool false):=by kernel_rfl
theorem rSurvey_d (b:Book)(x:Sv) :
  Yai (mk PR (Yac types) glob 25) [(9,true),(15,true),(20,true)] [(8,.bool (Yaf b x.s)),(13,.bool (Yaw b x.d)),(18,.bool (Yab x.r 0 200)),(23,.bool (Yab x.e 0 5))] [] (body Tryz.f92) [.tmp 4] [Yag b,svD x] =
   let Z0:Prop:=Yab x.r (0:Int) (200:Int)=true;let Z1:Prop:=Yaf b x.s=true;let Z2:Prop:=Yaw b x.d=true;some ([0+0+1≤4,Contract PR glob 114 [Yag b,D.I x.s] (D.bool (Yaf b x.s)),Z1,Z1,Z1,0+1+1≤4,Z1,Contract PR glob 118 [Yag b,D.I x.d] (D.bool (Yaw b x.d)),Z1,Z2,Z2,0+2+1≤4,Z2,Contract PR glob 51 [D.I x.r,D.I 0,D.I 200] (D.bool (Yab x.r (0:Int) (200:Int))),Z2,Z0,Z0,0+3+1≤4,Z0,Contract PR glob 51 [D.I x.e,D.I 0,D.I 5] (D.bool (Yab x.e (0:Int) (5:Int))),Z0],D.bool (Yab x.e (0:Int) (5:Int))):=by kernel_rfl
theorem rOther_all (b:Book)(k:Int) :
  Yai (mk PR (Yac types) glob 11) [] [] [] (body Tryz.f137) [.tmp 4] [Yag b,.I k] =
   some ([Yae (((b.secs.length:Nat):Int)-(1:Int)),Yae (((b.secs.length:Nat):Int)-(1:Int)-k)],D.I (((b.secs.length:Nat):Int)-(1:Int)-k)):=by kernel_rfl
theorem rTurned_all (b:Book)(d:Int)(p:Bool)(i:Nat) :
  Yai (mk PR (Yac types) glob 24) [] [] [(0,(rTurned_K0,(.normal,Yc7 b d p i)))] (body Tryz.f153) [.tmp 4] [Yag b,.I d] =
   some ([LoopT PR glob 24 (k_153 [1,1,0,1]) (Yc7 b d false 0) Ex.normal (Yc7 b d p i)],D.bool p):=by kernel_rfl
theorem rThk0_all (b:Book)(u:Tr1)(d:Int)(t:Int)(i:Nat) :
  Yai (mk PR (Yac types) glob 37) [] [] [(0,(rThk0_K0,(.normal,Yey b u d t i)))] (body Tryz.f139) [.tmp 8] [Yag b,tr1D u,.I 0,.I d] =
   some ([(0:Int)≤(0:Int)∧(0:Int)<(Nat.cast:Nat→Int) 2,0+0+Int.toNat (0:Int)*1+1≤4,LoopT PR glob 37 (k_139 [1,1,0,1]) (Yey b u d (Tr1.t0 u) 0) Ex.normal (Yey b u d t i)],D.I t):=by kernel_rfl
theorem rThk1_all (b:Book)(u:Tr1)(d:Int)(t:Int)(i:Nat) :
  Yai (mk PR (Yac types) glob 37) [] [] [(0,(rThk1_K0,(.normal,Yex b u d t i)))] (body Tryz.f139) [.tmp 8] [Yag b,tr1D u,.I 1,.I d] =
   some ([(0:Int)≤(1:Int)∧(1:Int)<(Nat.cast:Nat→Int) 2,0+0+Int.toNat (1:Int)*1+1≤4,LoopT PR glob 37 (k_139 [1,1,0,1]) (Yex b u d (Tr1.t1 u) 0) Ex.normal (Yex b u d t i)],D.I t):=by kernel_rfl
theorem rRight_yes (b:Book)(k:Nat)(u:Tr1)(i:Nat) :
  Yai (mk PR (Yac types) glob 64) [] [] [(0,(Ydw,(.normal,Ya5 b k u i)))] (body Tryz.f138) [.tmp 6] [Yag b,.I (k:Int),tr1D u] =
   some ([LoopT PR glob 64 (k_138 [1,0,1]) (Ya5 b k u 0) Ex.normal (Ya5 b k u i)],D.bool true):=by kernel_rfl
theorem rRight_oth (b:Book)(k:Nat)(u:Tr1)(i:Nat)(o:Nat)(z:Int) :
  Yai (mk PR (Yac types) glob 64) [] [] [(0,(Ydw,(.ret,Yf9 b k u i o z)))] (body Tryz.f138) [.tmp 6] [Yag b,.I (k:Int),tr1D u] =
   some ([LoopT PR glob 64 (k_138 [1,0,1]) (Ya5 b k u 0) Ex.ret (Yf9 b k u i o z)],D.bool false):=by kernel_rfl
theorem rRight_slf (b:Book)(k:Nat)(u:Tr1)(i:Nat)(o:Nat)(z:Int) :
  Yai (mk PR (Yac types) glob 64) [] [] [(0,(Ydw,(.ret,Yf8 b k u i o z)))] (body Tryz.f138) [.tmp 6] [Yag b,.I (k:Int),tr1D u] =
   some ([LoopT PR glob 64 (k_138 [1,0,1]) (Ya5 b k u 0) Ex.ret (Yf8 b k u i o z)],D.bool false):=by kernel_rfl
theorem rRight_mid (b:Book)(k:Nat)(u:Tr1)(i:Nat)(o:Nat)(z:Int) :
  Yai (mk PR (Yac types) glob 64) [] [] [(0,(Ydw,(.ret,Yga b k u i o z)))] (body Tryz.f138) [.tmp 6] [Yag b,.I (k:Int),tr1D u] =
   some ([LoopT PR glob 64 (k_138 [1,0,1]) (Ya5 b k u 0) Ex.ret (Yga b k u i o z)],D.bool false):=by kernel_rfl
theorem trA_none (b:Book)(k:Nat)(o:Nat)(t0:Int) :
  Yai (mk PR (Yac types) glob 96) [] [(22,.I (o:Int))] [(0,(trA_K0,(.normal,trA_S0 b k o t0)))] (body Tryz.f115) [.tmp 4] [Yag b,.I (k:Int)] =
   let Z0:=List.getD b.secs (Int.toNat ((k:Int))) (E.z E.sec);let Z1:=List.getD b.secs (Int.toNat ((o:Int))) (E.z E.sec);some ([(0:Int)≤(k:Int)∧(k:Int)<((b.secs.length:Nat):Int),0+4≤4,Contract PR glob 137 [Yag b,D.I ((k:Int))] (D.I ((o:Int))),(0:Int)≤(o:Int)∧(o:Int)<((b.secs.length:Nat):Int),0+4≤4,0+0+0+1≤4,LoopT PR glob 96 (Ybx [1,1,1,0,1]) [(.tmp 1,.d (D.I ((k:Int)))),(.tmp 2,.d (D.ptr 2 0)),(.tmp 5,.d (D.sl true E.tr1 [])),(.tmp 6,.d (D.ptr 6 0)),(.tmp 7,.d (D.ptr 7 0)),(.tmp 8,.d (D.I (Span.lo (Sec.t Z0)))),(.box 2,.bx (some (Box.mk false (cellsOf (Yag b))))),(.box 6,.bx (some (Box.mk false [D.I (Span.lo (Sec.t Z0)),D.I (Span.hi (Sec.t Z0)),D.I (Span.lo (Sec.w Z0)),D.I (Span.hi (Sec.w Z0))]))),(.box 7,.bx (some (Box.mk false [D.I (Span.lo (Sec.t Z1)),D.I (Span.hi (Sec.t Z1)),D.I (Span.lo (Sec.w Z1)),D.I (Span.hi (Sec.w Z1))]))),(.obj 94,.ob Option.none)] Ex.normal (trA_S0 b k o t0)],D.sl true E.tr1 []):=by kernel_rfl
theorem trA_some (b:Book)(k:Nat)(o:Nat)(t0:Int)(y:Tr1)(r:List Tr1) :
  Yai (mk PR (Yac types) glob 96) [] [(22,.I (o:Int))] [(0,(trB_K0,(.normal,trB_S0 b k o t0 y r)))] (body Tryz.f115) [.tmp 4] [Yag b,.I (k:Int)] =
   let Z0:=List.getD b.secs (Int.toNat ((k:Int))) (E.z E.sec);let Z1:=List.getD b.secs (Int.toNat ((o:Int))) (E.z E.sec);some ([(0:Int)≤(k:Int)∧(k:Int)<((b.secs.length:Nat):Int),0+4≤4,Contract PR glob 137 [Yag b,D.I ((k:Int))] (D.I ((o:Int))),(0:Int)≤(o:Int)∧(o:Int)<((b.secs.length:Nat):Int),0+4≤4,0+0+0+1≤4,LoopT PR glob 96 (Ybx [1,1,1,0,1]) [(.tmp 1,.d (D.I ((k:Int)))),(.tmp 2,.d (D.ptr 2 0)),(.tmp 5,.d (D.sl true E.tr1 [])),(.tmp 6,.d (D.ptr 6 0)),(.tmp 7,.d (D.ptr 7 0)),(.tmp 8,.d (D.I (Span.lo (Sec.t Z0)))),(.box 2,.bx (some (Box.mk false (cellsOf (Yag b))))),(.box 6,.bx (some (Box.mk false [D.I (Span.lo (Sec.t Z0)),D.I (Span.hi (Sec.t Z0)),D.I (Span.lo (Sec.w Z0)),D.I (Span.hi (Sec.w Z0))]))),(.box 7,.bx (some (Box.mk false [D.I (Span.lo (Sec.t Z1)),D.I (Span.hi (Sec.t Z1)),D.I (Span.lo (Sec.w Z1)),D.I (Span.hi (Sec.w Z1))]))),(.obj 94,.ob Option.none)] Ex.normal (trB_S0 b k o t0 y r),(y::r).length=List.length ((y::r))],D.sl false E.tr1 ((y::r))):=by kernel_rfl
theorem rCan_yes (b:Book)(i:Nat) :
  Yai (mk PR (Yac types) glob 16) [] [] [(0,(rCan_K0,(.normal,Ydx b i)))] (body Tryz.f112) [.tmp 2] [Yag b] =
   some ([LoopT PR glob 16 (k_112 [1,0,1]) (Ydx b 0) Ex.normal (Ydx b i)],D.bool true):=by kernel_rfl
theorem rCan_no (b:Book)(i:Nat)(ts:List Tr1) :
  Yai (mk PR (Yac types) glob 16) [] [] [(0,(rCan_K0,(.ret,rCan_T0_bad b i ts)))] (body Tryz.f112) [.tmp 2] [Yag b] =
   some ([LoopT PR glob 16 (k_112 [1,0,1]) (Ydx b 0) Ex.ret (rCan_T0_bad b i ts)],D.bool false):=by kernel_rfl
theorem rAsked_bad (b:Book)(is:Bool) :
  Yai (mk PR (Yac types) glob 16) [] [(7,.I 10)] [] (body Tryz.f113) [.tmp 4] [Yag b,.bool is] =
   some ([Contract PR glob 56 [Yag b] (D.I 10)],D.I 10):=by kernel_rfl
theorem rAsked_ask (b:Book)(is:Bool) :
  Yai (mk PR (Yac types) glob 16) [(12,true)] [(7,.I 0)] [] (body Tryz.f113) [.tmp 4] [Yag b,.bool is] =
   some ([Contract PR glob 56 [Yag b] (D.I 0),(!is)=true],D.I 11):=by kernel_rfl
theorem rAsked_false (b:Book)(is:Bool) :
  Yai (mk PR (Yac types) glob 16) [(12,false)] [(7,.I 0),(14,.bool false)] [] (body Tryz.f113) [.tmp 4] [Yag b,.bool is] =
   some ([Contract PR glob 56 [Yag b] (D.I 0),(!is)=false,Contract PR glob 112 [Yag b] (D.bool false)],D.I 12):=by kernel_rfl
theorem rAsked_ok (b:Book)(is:Bool) :
  Yai (mk PR (Yac types) glob 16) [(12,false)] [(7,.I 0),(14,.bool true)] [] (body Tryz.f113) [.tmp 4] [Yag b,.bool is] =
   some ([Contract PR glob 56 [Yag b] (D.I 0),(!is)=false,Contract PR glob 112 [Yag b] (D.bool true)],D.I 0):=by kernel_rfl
theorem rHull_all (s u:Span) :
  Yai (mk PR (Yac types) glob 16) [] [(15,spD (Ycg s u))] [] (body Tryz.f117) [.cell 4 113] [spD s,spD u] =
   some ([0+0+1≤2,0+0+1≤2,0+1+1≤2,0+1+1≤2,Contract PR glob 94 [D.I (List.foldl mn s.lo [u.lo]),D.I (List.foldl mx s.hi [u.hi])] (D.agg [D.I (Span.lo (Ycg s u)),D.I (Span.hi (Ycg s u))]),0+2≤2],D.agg [D.I (Span.lo (Ycg s u)),D.I (Span.hi (Ycg s u))]):=by kernel_rfl
theorem rSpan_all (b:Book)(ts:List Tr1)(d:Int)(z:Int)(s:Span)(i:Nat) :
  Yai (mk PR (Yac types) glob 33) [] [(14,.I z),(15,spD ⟨z,z⟩)] [(0,(rSpan_K0,(.normal,Yg9 b ts d s i)))] (body Tryz.f119) [.cell 6 113] [Yag b,.sl false .tr1 ts,.I d] =
   let Z0:=List.getD ts (Int.toNat (0:Int)) (E.z E.tr1);some ([(0:Int)≤(0:Int)∧(0:Int)<((ts.length:Nat):Int),0+4≤4,Contract PR glob 139 [Yag b,D.agg [D.I (Tr1.t0 Z0),D.I (Tr1.t1 Z0),D.I (Tr1.w0 Z0),D.I (Tr1.w1 Z0)],D.I 0,D.I d] (D.I z),Contract PR glob 116 [D.I z] (D.agg [D.I (Span.lo (Span.mk z z)),D.I (Span.hi (Span.mk z z))]),LoopT PR glob 33 (k_119 [1,1,0,1]) [(.tmp 1,.d (D.sl false E.tr1 ts)),(.tmp 2,.d (D.I d)),(.tmp 3,.d (D.ptr 3 0)),(.tmp 6,.d (D.ptr 6 0)),(.tmp 7,.d (D.ptr 7 0)),(.tmp 8,.d (D.I 0)),(.box 3,.bx (some (Box.mk false (cellsOf (Yag b))))),(.box 6,.bx (some (Box.mk false [D.I 0,D.I 0]))),(.box 7,.bx (some (Box.mk false [D.I (Span.lo (Span.mk z z)),D.I (Span.hi (Span.mk z z))])))] Ex.normal (Yg9 b ts d s i),0+2≤2,0+2≤2],D.agg [D.I s.lo,D.I s.hi]):=by kernel_rfl
theorem rRightA_bad (b:Book) :
  Yai (mk PR (Yac types) glob 12) [] [(6,.I 10)] [] (body Tryz.f83) [.tmp 2,.tmp 3] [Yag b] =
   some ([Contract PR glob 56 [Yag b] (D.I 10)],D.tup [D.bool false,D.I 10]):=by kernel_rfl
theorem rRightA_ok (b:Book)(c:Bool) :
  Yai (mk PR (Yac types) glob 12) [] [(6,.I 0),(11,.bool c)] [] (body Tryz.f83) [.tmp 2,.tmp 3] [Yag b] =
   some ([Contract PR glob 56 [Yag b] (D.I 0),Contract PR glob 112 [Yag b] (D.bool c)],D.tup [D.bool c,D.I 0]):=by kernel_rfl
theorem rThickA_no (b:Book)(n d:Int)(e:Int) :
  Yai (mk PR (Yac types) glob 29) [(13,false),(20,true)] [(12,.bool (Yaf b n)),(16,.bool (Yaw b d)),(18,.I e)] [] (body Tryz.f87) [.cell 6 113,.tmp 7] [Yag b,.I n,.I d] =
   let Z0:Prop:=Yaf b n=false;some ([Contract PR glob 114 [Yag b,D.I n] (D.bool (Yaf b n)),Z0,Z0,Z0,Z0,Contract PR glob 113 [Yag b,D.bool false] (D.I e),(e != (0:Int))=true,0+2≤2],D.tup [D.agg [D.I 0,D.I 0],D.I e]):=by kernel_rfl
theorem rThickA_err (b:Book)(n d:Int)(e:Int) :
  Yai (mk PR (Yac types) glob 29) [(13,true),(20,true)] [(12,.bool (Yaf b n)),(16,.bool (Yaw b d)),(18,.I e)] [] (body Tryz.f87) [.cell 6 113,.tmp 7] [Yag b,.I n,.I d] =
   let Z0:Prop:=Yaf b n=true;some ([Contract PR glob 114 [Yag b,D.I n] (D.bool (Yaf b n)),Z0,Z0,Z0,Contract PR glob 118 [Yag b,D.I d] (D.bool (Yaw b d)),Z0,Contract PR glob 113 [Yag b,D.bool (Yaw b d)] (D.I e),(e != (0:Int))=true,0+2≤2],D.tup [D.agg [D.I 0,D.I 0],D.I e]):=by kernel_rfl
theorem rThickA_ok (b:Book)(n d:Int)(ts:List Tr1)(s:Span) :
  Yai (mk PR (Yac types) glob 29) [(13,true)] [(12,.bool (Yaf b n)),(16,.bool (Yaw b d)),(18,.I 0),(26,.sl false .tr1 ts),(28,spD s)] [] (body Tryz.f87) [.cell 6 113,.tmp 7] [Yag b,.I n,.I d] =
   let Z0:Prop:=Yaf b n=true;some ([Contract PR glob 114 [Yag b,D.I n] (D.bool (Yaf b n)),Z0,Z0,Z0,Contract PR glob 118 [Yag b,D.I d] (D.bool (Yaw b d)),Z0,Contract PR glob 113 [Yag b,D.bool (Yaw b d)] (D.I 0),Contract PR glob 115 [Yag b,D.I n] (D.sl false E.tr1 ts),Contract PR glob 119 [Yag b,D.sl false E.tr1 ts,D.I d] (D.agg [D.I s.lo,D.I s.hi]),0+2≤2],D.tup [D.agg [D.I s.lo,D.I s.hi],D.I 0]):=by kernel_rfl
theorem rWearA_err (b:Book)(n:Int)(e:Int) :
  Yai (mk PR (Yac types) glob 44) [(16,true)] [(13,.bool (Yaf b n)),(14,.I e)] [] (body Tryz.f86) [.cell 4 113,.tmp 5] [Yag b,.I n] =
   some ([Contract PR glob 114 [Yag b,D.I n] (D.bool (Yaf b n)),Contract PR glob 113 [Yag b,D.bool (Yaf b n)] (D.I e),(e != (0:Int))=true,0+2≤2],D.tup [D.agg [D.I 0,D.I 0],D.I e]):=by kernel_rfl
theorem rWearA_ok (b:Book)(n:Int)(ts:List Tr1)(z:Int)(s:Span)(i:Nat) :
  Yai (mk PR (Yac types) glob 44) [] [(13,.bool (Yaf b n)),(14,.I 0),(21,.sl false .tr1 ts),(27,spD ⟨z,z⟩)] [(0,(rWearA_K0,(.normal,Yfi b n ts s i)))] (body Tryz.f86) [.cell 4 113,.tmp 5] [Yag b,.I n] =
   some ([Contract PR glob 114 [Yag b,D.I n] (D.bool (Yaf b n)),Contract PR glob 113 [Yag b,D.bool (Yaf b n)] (D.I 0),Contract PR glob 115 [Yag b,D.I n] (D.sl false E.tr1 ts),(0:Int)≤(0:Int)∧(0:Int)<((ts.length:Nat):Int),(0:Int)≤(0:Int)∧(0:Int)<(Nat.cast:Nat→Int) 2,0+2+Int.toNat (0:Int)*1+1≤4,Contract PR glob 116 [D.I (Tr1.w0 (List.getD ts (Int.toNat (0:Int)) (E.z E.tr1)))] (D.agg [D.I (Span.lo (Span.mk z z)),D.I (Span.hi (Span.mk z z))]),LoopT PR glob 44 (k_86 [1,1,1,1,0,1]) [(.tmp 4,.d (D.ptr 4 0)),(.tmp 7,.d (D.sl false E.tr1 ts)),(.tmp 8,.d (D.ptr 8 0)),(.tmp 9,.d (D.I 0)),(.box 4,.bx (some (Box.mk false [D.I 0,D.I 0]))),(.box 8,.bx (some (Box.mk false [D.I (Span.lo (Span.mk z z)),D.I (Span.hi (Span.mk z z))])))] Ex.normal (Yfi b n ts s i),0+2≤2,0+2≤2],D.tup [D.agg [D.I s.lo,D.I s.hi],D.I 0]):=by kernel_rfl
theorem rCheck_bad (b:Book)(ok0 ok1 ok2 ok3 ok4:Bool)(most:Int)(i1 i2 i3 i4:Nat) :
  Yai (mk PR (Yac types) glob 161) [(160,true)] [] [(1001,(rCheck_RK1,(.normal,Ygk b ok0))),(0,(rCheck_K0,(.normal,Yck b ok1 most i1))),(2,(rCheck_K2,(.normal,Ycj b ok2 most i2))),(4,(Yfj,(.normal,Yb1 b ok3 i3))),(6,(rCheck_K6,(.normal,Yci b ok4 i4)))] (body Tryz.f56) [.tmp 2] [Yag b] =
   some ([LoopT PR glob 161 (k_56 [1,0]) [(.tmp 1,.d (D.ptr 1 0)),(.box 1,.bx (some (Box.mk false (cellsOf (Yag b)))))] Ex.normal (Ygk b ok0),LoopT PR glob 161 (k_56 [1,1,1,0,1]) (Yck b ok0 0 0) Ex.normal (Yck b ok1 most i1),LoopT PR glob 161 (k_56 [1,1,1,1,0,1]) (Ycj b ok1 most 0) Ex.normal (Ycj b ok2 most i2),LoopT PR glob 161 (k_56 [1,1,1,1,1,0,1]) (Yb1 b ok2 0) Ex.normal (Yb1 b ok3 i3),LoopT PR glob 161 (k_56 [1,1,1,1,1,1,0,1]) (Yci b ok3 0) Ex.normal (Yci b ok4 i4),(!ok4)=true],D.I 10):=by kernel_rfl
theorem rCheck_good (b:Book)(ok0 ok1 ok2 ok3 ok4:Bool)(most:Int)(i1 i2 i3 i4:Nat) :
  Yai (mk PR (Yac types) glob 161) [(160,false)] [] [(1001,(rCheck_RK1,(.normal,Ygk b ok0))),(0,(rCheck_K0,(.normal,Yck b ok1 most i1))),(2,(rCheck_K2,(.normal,Ycj b ok2 most i2))),(4,(Yfj,(.normal,Yb1 b ok3 i3))),(6,(rCheck_K6,(.normal,Yci b ok4 i4)))] (body Tryz.f56) [.tmp 2] [Yag b] =
   some ([LoopT PR glob 161 (k_56 [1,0]) [(.tmp 1,.d (D.ptr 1 0)),(.box 1,.bx (some (Box.mk false (cellsOf (Yag b)))))] Ex.normal (Ygk b ok0),LoopT PR glob 161 (k_56 [1,1,1,0,1]) (Yck b ok0 0 0) Ex.normal (Yck b ok1 most i1),LoopT PR glob 161 (k_56 [1,1,1,1,0,1]) (Ycj b ok1 most 0) Ex.normal (Ycj b ok2 most i2),LoopT PR glob 161 (k_56 [1,1,1,1,1,0,1]) (Yb1 b ok2 0) Ex.normal (Yb1 b ok3 i3),LoopT PR glob 161 (k_56 [1,1,1,1,1,1,0,1]) (Yci b ok3 0) Ex.normal (Yci b ok4 i4),(!ok4)=false],D.I 0):=by kernel_rfl
end Go.Di

