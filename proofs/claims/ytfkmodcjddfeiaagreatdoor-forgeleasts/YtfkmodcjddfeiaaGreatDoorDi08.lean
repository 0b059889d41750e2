/- Part 8: contracts are proved. No condition. -/
import Derived.Test.YtfkmodcjddfeiaaGreatDoorDi07
set_option linter.unusedVariables false
set_option linter.unusedSimpArgs false
namespace Go.Di
open Proofs
noncomputable abbrev k_142 (p:List Nat):Code:=Code.at p (body Proofs.Tryz.f142)
noncomputable abbrev k_55 (p:List Nat):Code:=Code.at p (body Proofs.Tryz.f55)
theorem within_fn:FnOk PR (mk PR (Yac types) glob 15) 88 (body Tryz.f88) [.tmp 6]:=by refine⟨Tryz.f88,?_,?_,?_,?_,?_⟩<;>kernel_rfl
theorem isSpan_fn:FnOk PR (mk PR (Yac types) glob 32) 89 (body Tryz.f89) [.tmp 6]:=by refine⟨Tryz.f89,?_,?_,?_,?_,?_⟩<;>kernel_rfl
theorem isSection_fn:FnOk PR (mk PR (Yac types) glob 11) 120 (body Tryz.f120) [.tmp 4]:=by refine⟨Tryz.f120,?_,?_,?_,?_,?_⟩<;>kernel_rfl
theorem isDay_fn:FnOk PR (mk PR (Yac types) glob 9) 121 (body Tryz.f121) [.tmp 4]:=by refine⟨Tryz.f121,?_,?_,?_,?_,?_⟩<;>kernel_rfl
theorem Yhe:FnOk PR (mk PR (Yac types) glob 25) 90 (body Tryz.f90) [.tmp 4]:=by refine⟨Tryz.f90,?_,?_,?_,?_,?_⟩<;>kernel_rfl
theorem index_fn:FnOk PR (mk PR (Yac types) glob 19) 142 (body Tryz.f142) [.tmp 4]:=by refine⟨Tryz.f142,?_,?_,?_,?_,?_⟩<;>kernel_rfl
theorem check_fn:FnOk PR (mk PR (Yac types) glob 119) 55 (body Tryz.f55) [.tmp 2]:=by refine⟨Tryz.f55,?_,?_,?_,?_,?_⟩<;>kernel_rfl
theorem contains_fn:FnOk PR (mk PR (Yac types) glob 9) 130 (body Tryz.f130) [.tmp 4]:=by refine⟨Tryz.f130,?_,?_,?_,?_,?_⟩<;>kernel_rfl
def Ye1 (xs:List Int)(v:Int)(i:Nat):List (Key×Val) :=
 [(.tmp 0,.d (D.sl false E.int xs)),
  (.tmp 1,.d (D.I v)),
  (.tmp 7,.d (D.I (((List.length xs:Nat):Int)))),
  (.tmp 8,.d (.I i))]
def index_K0:List Key:=[.tmp 0,.tmp 1,.tmp 7,.tmp 8]
def check_R1 (b:Book)  : List (Key×Val) :=
 [(.tmp 1,.d (D.ptr 1 0)),
  (.box 1,.bx (some (Box.mk false (Yal b))))]
def check_RK1:List Key:=[.tmp 1,.box 1]
def check_RO1:List Key:=[.tmp 1,.tmp 3,.box 1]
def Yfr (b:Book)  (ok:Bool):List (Key×Val) :=
 [(.tmp 1,.d (D.ptr 1 0)),
  (.tmp 3,.d (.bool ok)),
  (.box 1,.bx (some (Box.mk false (Yal b))))]
def Yc1 (b:Book)(ok:Bool)(most:Int)(i:Nat):List (Key×Val) :=
 [(.tmp 1,.d (D.ptr 1 0)),
  (.tmp 3,.d (.bool ok)),
  (.tmp 4,.d (.I most)),
  (.tmp 41,.d (D.sl false E.sec (Book.secs b))),
  (.tmp 42,.d (D.I (((List.length (Book.secs b):Nat):Int)))),
  (.tmp 43,.d (.I i)),
  (.box 1,.bx (some (Box.mk false (Yal b))))]
def check_K0:List Key:=[.tmp 1,.tmp 3,.tmp 4,.tmp 41,.tmp 42,.tmp 43,.box 1]
def check_R6 (b:Book)(ok:Bool)(most:Int)(i:Nat):List (Key×Val) :=
 [(.tmp 1,.d (D.ptr 1 0)),
  (.tmp 3,.d (.bool ok)),
  (.tmp 4,.d (.I most)),
  (.tmp 6,.d (D.ptr 6 0)),
  (.tmp 41,.d (D.sl false E.sec (Book.secs b))),
  (.tmp 42,.d (D.I (((List.length (Book.secs b):Nat):Int)))),
  (.tmp 43,.d (.I i)),
  (.box 1,.bx (some (Box.mk false (Yal b)))),
  (.box 6,.bx (some ⟨false,E.enc .sec (b.secs.getD i sec0)⟩))]
def check_RK6:List Key:=[.tmp 1,.tmp 3,.tmp 4,.tmp 6,.tmp 41,.tmp 42,.tmp 43,.box 1,.box 6]
def check_RO6:List Key:=[.tmp 1,.tmp 3,.tmp 4,.tmp 6,.tmp 41,.tmp 42,.tmp 43,.box 1,.box 6]
def check_RS6 (b:Book)(ok:Bool)(most:Int)(i:Nat)(ok2:Bool):List (Key×Val) :=
 [(.tmp 1,.d (D.ptr 1 0)),
  (.tmp 3,.d (.bool ok2)),
  (.tmp 4,.d (.I most)),
  (.tmp 6,.d (D.ptr 6 0)),
  (.tmp 41,.d (D.sl false E.sec (Book.secs b))),
  (.tmp 42,.d (D.I (((List.length (Book.secs b):Nat):Int)))),
  (.tmp 43,.d (.I i)),
  (.box 1,.bx (some (Box.mk false (Yal b)))),
  (.box 6,.bx (some ⟨false,E.enc .sec (b.secs.getD i sec0)⟩))]
def Ydk (b:Book)(ok:Bool)(most:Int)(i:Nat):List (Key×Val) :=
 [(.tmp 1,.d (D.ptr 1 0)),
  (.tmp 3,.d (.bool ok)),
  (.tmp 4,.d (.I most)),
  (.tmp 67,.d (D.sl false E.sec (Book.secs b))),
  (.tmp 68,.d (D.I (((List.length (Book.secs b):Nat):Int)))),
  (.tmp 69,.d (.I i)),
  (.box 1,.bx (some (Box.mk false (Yal b))))]
def check_K2:List Key:=[.tmp 1,.tmp 3,.tmp 4,.tmp 67,.tmp 68,.tmp 69,.box 1]
def check_R14 (b:Book)(ok:Bool)(most:Int)(i:Nat):List (Key×Val) :=
 [(.tmp 1,.d (D.ptr 1 0)),
  (.tmp 3,.d (.bool ok)),
  (.tmp 4,.d (.I most)),
  (.tmp 8,.d (D.ptr 8 0)),
  (.tmp 67,.d (D.sl false E.sec (Book.secs b))),
  (.tmp 68,.d (D.I (((List.length (Book.secs b):Nat):Int)))),
  (.tmp 69,.d (.I i)),
  (.box 1,.bx (some (Box.mk false (Yal b)))),
  (.box 8,.bx (some ⟨false,E.enc .sec (b.secs.getD i sec0)⟩))]
def check_RK14:List Key:=[.tmp 1,.tmp 3,.tmp 4,.tmp 8,.tmp 67,.tmp 68,.tmp 69,.box 1,.box 8]
def check_RO14:List Key:=[.tmp 1,.tmp 3,.tmp 4,.tmp 67,.tmp 68,.tmp 69,.box 1]
def check_RS14 (b:Book)(ok:Bool)(most:Int)(i:Nat)(ok2:Bool):List (Key×Val) :=
 [(.tmp 1,.d (D.ptr 1 0)),
  (.tmp 3,.d (.bool ok2)),
  (.tmp 4,.d (.I most)),
  (.tmp 67,.d (D.sl false E.sec (Book.secs b))),
  (.tmp 68,.d (D.I (((List.length (Book.secs b):Nat):Int)))),
  (.tmp 69,.d (.I i)),
  (.box 1,.bx (some (Box.mk false (Yal b))))]
def Ydj (b:Book)(ok:Bool)(last:Int)(i:Nat):List (Key×Val) :=
 [(.tmp 1,.d (D.ptr 1 0)),
  (.tmp 3,.d (.bool ok)),
  (.tmp 9,.d (.I last)),
  (.tmp 86,.d (D.sl false E.int (Book.turns b))),
  (.tmp 87,.d (D.I (((List.length (Book.turns b):Nat):Int)))),
  (.tmp 88,.d (.I i)),
  (.box 1,.bx (some (Box.mk false (Yal b))))]
def check_K4:List Key:=[.tmp 1,.tmp 3,.tmp 9,.tmp 86,.tmp 87,.tmp 88,.box 1]
def check_R20 (b:Book)(ok:Bool)(last:Int)(i:Nat):List (Key×Val) :=
 [(.tmp 1,.d (D.ptr 1 0)),
  (.tmp 3,.d (.bool ok)),
  (.tmp 9,.d (.I last)),
  (.tmp 11,.d (.I (b.turns.getD i 0))),
  (.tmp 86,.d (D.sl false E.int (Book.turns b))),
  (.tmp 87,.d (D.I (((List.length (Book.turns b):Nat):Int)))),
  (.tmp 88,.d (.I i)),
  (.box 1,.bx (some (Box.mk false (Yal b))))]
def check_RK20:List Key:=[.tmp 1,.tmp 3,.tmp 9,.tmp 11,.tmp 86,.tmp 87,.tmp 88,.box 1]
def check_RO20:List Key:=[.tmp 1,.tmp 3,.tmp 11,.tmp 86,.tmp 87,.tmp 88,.box 1]
def check_RS20 (b:Book)(ok:Bool)(last:Int)(i:Nat)(ok2:Bool):List (Key×Val) :=
 [(.tmp 1,.d (D.ptr 1 0)),
  (.tmp 3,.d (.bool ok2)),
  (.tmp 11,.d (.I (b.turns.getD i 0))),
  (.tmp 86,.d (D.sl false E.int (Book.turns b))),
  (.tmp 87,.d (D.I (((List.length (Book.turns b):Nat):Int)))),
  (.tmp 88,.d (.I i)),
  (.box 1,.bx (some (Box.mk false (Yal b))))]
def Ydi (b:Book)(ok:Bool)(i:Nat):List (Key×Val) :=
 [(.tmp 1,.d (D.ptr 1 0)),
  (.tmp 3,.d (.bool ok)),
  (.tmp 104,.d (D.sl false E.sv (Book.svs b))),
  (.tmp 105,.d (D.I (((List.length (Book.svs b):Nat):Int)))),
  (.tmp 106,.d (.I i)),
  (.box 1,.bx (some (Box.mk false (Yal b))))]
def check_K6:List Key:=[.tmp 1,.tmp 3,.tmp 104,.tmp 105,.tmp 106,.box 1]
def check_R26 (b:Book)(ok:Bool)(i:Nat):List (Key×Val) :=
 [(.tmp 1,.d (D.ptr 1 0)),
  (.tmp 3,.d (.bool ok)),
  (.tmp 13,.d (D.ptr 13 0)),
  (.tmp 104,.d (D.sl false E.sv (Book.svs b))),
  (.tmp 105,.d (D.I (((List.length (Book.svs b):Nat):Int)))),
  (.tmp 106,.d (.I i)),
  (.box 1,.bx (some (Box.mk false (Yal b)))),
  (.box 13,.bx (some ⟨false,E.enc .sv (b.svs.getD i sv0)⟩))]
def check_RK26:List Key:=[.tmp 1,.tmp 3,.tmp 13,.tmp 104,.tmp 105,.tmp 106,.box 1,.box 13]
def check_RO26:List Key:=[.tmp 1,.tmp 3,.tmp 104,.tmp 105,.tmp 106,.box 1]
def check_RS26 (b:Book)(ok:Bool)(i:Nat)(ok2:Bool):List (Key×Val) :=
 [(.tmp 1,.d (D.ptr 1 0)),
  (.tmp 3,.d (.bool ok2)),
  (.tmp 104,.d (D.sl false E.sv (Book.svs b))),
  (.tmp 105,.d (D.I (((List.length (Book.svs b):Nat):Int)))),
  (.tmp 106,.d (.I i)),
  (.box 1,.bx (some (Box.mk false (Yal b))))]
theorem index_0_on (xs:List Int)(v:Int)(i:Nat) :
  runK (mk PR (Yac types) glob 19) [(9,true),(16,false)] [] [] (k_142 [1,0,1,0,0]) (Ye1 xs v i) index_K0 =
   some ([decide ((i:Int)<((xs.length:Nat):Int))=true,(0:Int)≤(i:Int)∧(i:Int)<((xs.length:Nat):Int),0+1≤1,(v==List.getD xs (Int.toNat ((i:Int))) (E.z E.int))=false,Yae ((i:Int)+(1:Int))],Ex.normal,[(.tmp 0,.d (D.sl false E.int xs)),(.tmp 1,.d (D.I v)),(.tmp 7,.d (D.I (((xs.length:Nat):Int)))),(.tmp 8,.d (D.I ((i:Int)+(1:Int))))]):=by kernel_rfl
theorem index_0_hit (xs:List Int)(v:Int)(i:Nat) :
  runK (mk PR (Yac types) glob 19) [(9,true),(16,true)] [] [] (k_142 [1,0,1,0,0]) (Ye1 xs v i) [.tmp 0,.tmp 1,.tmp 7,.tmp 8,.tmp 4] =
   some ([decide ((i:Int)<((xs.length:Nat):Int))=true,(0:Int)≤(i:Int)∧(i:Int)<((xs.length:Nat):Int),0+1≤1,(v==List.getD xs (Int.toNat ((i:Int))) (E.z E.int))=true],Ex.ret,[(.tmp 0,.d (D.sl false E.int xs)),(.tmp 1,.d (D.I v)),(.tmp 7,.d (D.I (((xs.length:Nat):Int)))),(.tmp 8,.d (D.I ((i:Int)))),(.tmp 4,.d (D.I ((i:Int))))]):=by kernel_rfl
theorem index_0_end (xs:List Int)(v:Int)(i:Nat) :
  runK (mk PR (Yac types) glob 19) [(9,false)] [] [] (k_142 [1,0,1,0,0]) (Ye1 xs v i) index_K0 =
   some ([decide ((i:Int)<((xs.length:Nat):Int))=false],Ex.exit 0,[(.tmp 0,.d (D.sl false E.int xs)),(.tmp 1,.d (D.I v)),(.tmp 7,.d (D.I (((xs.length:Nat):Int)))),(.tmp 8,.d (D.I ((i:Int))))]):=by kernel_rfl
theorem check_R1_a (b:Book) :
  runK (mk PR (Yac types) glob 119) [(18,false)] [(17,.bool (Yab b.secs.length 1 4)),(21,.bool (Yab b.days 1 30)),(26,.bool (Yab b.rule 0 200))] [] (k_55 [1,0]) (check_R1 b ) check_RO1 =
   let Z0:Prop:=Yab (((b.secs.length:Nat):Int)) (1:Int) (4:Int)=false;some ([Contract PR glob 88 [D.I (((b.secs.length:Nat):Int)),D.I 1,D.I 4] (D.bool (Yab (((b.secs.length:Nat):Int)) (1:Int) (4:Int))),Z0,Z0,Z0,Z0],Ex.normal,[(.tmp 1,.d (D.ptr 1 0)),(.tmp 3,.d (D.bool false)),(.box 1,.bx (some (Box.mk false (Yal b))))]):=by kernel_rfl
theorem check_R1_b (b:Book) :
  runK (mk PR (Yac types) glob 119) [(18,true),(23,false)] [(17,.bool (Yab b.secs.length 1 4)),(21,.bool (Yab b.days 1 30)),(26,.bool (Yab b.rule 0 200))] [] (k_55 [1,0]) (check_R1 b ) check_RO1 =
   let Z0:Prop:=Yab (((b.secs.length:Nat):Int)) (1:Int) (4:Int)=true;let Z1:Prop:=Yab b.days (1:Int) (30:Int)=false;some ([Contract PR glob 88 [D.I (((b.secs.length:Nat):Int)),D.I 1,D.I 4] (D.bool (Yab (((b.secs.length:Nat):Int)) (1:Int) (4:Int))),Z0,Z0,Z0,Contract PR glob 88 [D.I b.days,D.I 1,D.I 30] (D.bool (Yab b.days (1:Int) (30:Int))),Z0,Z1,Z1,Z1,Z1],Ex.normal,[(.tmp 1,.d (D.ptr 1 0)),(.tmp 3,.d (D.bool false)),(.box 1,.bx (some (Box.mk false (Yal b))))]):=by kernel_rfl
theorem check_R1_c (b:Book) :
  runK (mk PR (Yac types) glob 119) [(18,true),(23,true),(28,false)] [(17,.bool (Yab b.secs.length 1 4)),(21,.bool (Yab b.days 1 30)),(26,.bool (Yab b.rule 0 200))] [] (k_55 [1,0]) (check_R1 b ) check_RO1 =
   let Z0:Prop:=Yab (((b.secs.length:Nat):Int)) (1:Int) (4:Int)=true;let Z1:Prop:=Yab b.rule (0:Int) (200:Int)=false;let Z2:Prop:=Yab b.days (1:Int) (30:Int)=true;some ([Contract PR glob 88 [D.I (((b.secs.length:Nat):Int)),D.I 1,D.I 4] (D.bool (Yab (((b.secs.length:Nat):Int)) (1:Int) (4:Int))),Z0,Z0,Z0,Contract PR glob 88 [D.I b.days,D.I 1,D.I 30] (D.bool (Yab b.days (1:Int) (30:Int))),Z0,Z2,Z2,Z2,Contract PR glob 88 [D.I b.rule,D.I 0,D.I 200] (D.bool (Yab b.rule (0:Int) (200:Int))),Z2,Z1,Z1,Z1,Z1,Z1],Ex.normal,[(.tmp 1,.d (D.ptr 1 0)),(.tmp 3,.d (D.bool false)),(.box 1,.bx (some (Box.mk false (Yal b))))]):=by kernel_rfl
theorem check_R1_d (b:Book) :
  runK (mk PR (Yac types) glob 119) [(18,true),(23,true),(28,true),(34,false)] [(17,.bool (Yab b.secs.length 1 4)),(21,.bool (Yab b.days 1 30)),(26,.bool (Yab b.rule 0 200))] [] (k_55 [1,0]) (check_R1 b ) check_RO1 =
   let Z0:Prop:=decide (((b.turns.length:Nat):Int)≤(4:Int))=false;let Z1:Prop:=Yab (((b.secs.length:Nat):Int)) (1:Int) (4:Int)=true;let Z2:Prop:=Yab b.rule (0:Int) (200:Int)=true;let Z3:Prop:=Yab b.days (1:Int) (30:Int)=true;some ([Contract PR glob 88 [D.I (((b.secs.length:Nat):Int)),D.I 1,D.I 4] (D.bool (Yab (((b.secs.length:Nat):Int)) (1:Int) (4:Int))),Z1,Z1,Z1,Contract PR glob 88 [D.I b.days,D.I 1,D.I 30] (D.bool (Yab b.days (1:Int) (30:Int))),Z1,Z3,Z3,Z3,Contract PR glob 88 [D.I b.rule,D.I 0,D.I 200] (D.bool (Yab b.rule (0:Int) (200:Int))),Z3,Z2,Z2,Z2,Z2,Z2,Z0,Z0,Z0,Z0,Z0],Ex.normal,[(.tmp 1,.d (D.ptr 1 0)),(.tmp 3,.d (D.bool false)),(.box 1,.bx (some (Box.mk false (Yal b))))]):=by kernel_rfl
theorem check_R1_e (b:Book) :
  runK (mk PR (Yac types) glob 119) [(18,true),(23,true),(28,true),(34,true)] [(17,.bool (Yab b.secs.length 1 4)),(21,.bool (Yab b.days 1 30)),(26,.bool (Yab b.rule 0 200))] [] (k_55 [1,0]) (check_R1 b ) check_RO1 =
   let Z0:Prop:=decide (((b.turns.length:Nat):Int)≤(4:Int))=true;let Z1:Prop:=Yab (((b.secs.length:Nat):Int)) (1:Int) (4:Int)=true;let Z2:Prop:=Yab b.rule (0:Int) (200:Int)=true;let Z3:Prop:=Yab b.days (1:Int) (30:Int)=true;some ([Contract PR glob 88 [D.I (((b.secs.length:Nat):Int)),D.I 1,D.I 4] (D.bool (Yab (((b.secs.length:Nat):Int)) (1:Int) (4:Int))),Z1,Z1,Z1,Contract PR glob 88 [D.I b.days,D.I 1,D.I 30] (D.bool (Yab b.days (1:Int) (30:Int))),Z1,Z3,Z3,Z3,Contract PR glob 88 [D.I b.rule,D.I 0,D.I 200] (D.bool (Yab b.rule (0:Int) (200:Int))),Z3,Z2,Z2,Z2,Z2,Z2,Z0,Z0,Z0,Z0,Z0],Ex.normal,[(.tmp 1,.d (D.ptr 1 0)),(.tmp 3,.d (D.bool (decide (((b.svs.length:Nat):Int)≤(8:Int))))),(.box 1,.bx (some (Box.mk false (Yal b))))]):=by kernel_rfl
theorem check_R6_a (b:Book)(ok:Bool)(most:Int)(i:Nat) :
  runK (mk PR (Yac types) glob 119) [(48,false)] [(51,.bool (Ycw (b.secs.getD i sec0).t 200 3)),(56,.bool (Ycw (b.secs.getD i sec0).w 3 2))] [] (k_55 [1,1,1,0,1,0,0,1,1,0,0,1,0]) (check_R6 b ok most i) check_RO6 =
   let Z0:=List.getD b.secs i sec0;some ([ok=false,ok=false,ok=false,ok=false],Ex.normal,[(.tmp 1,.d (D.ptr 1 0)),(.tmp 3,.d (D.bool false)),(.tmp 4,.d (D.I most)),(.tmp 6,.d (D.ptr 6 0)),(.tmp 41,.d (D.sl false E.sec b.secs)),(.tmp 42,.d (D.I (((b.secs.length:Nat):Int)))),(.tmp 43,.d (D.I ((i:Int)))),(.box 1,.bx (some (Box.mk false (Yal b)))),(.box 6,.bx (some (Box.mk false [D.I (Span.lo (Sec.t Z0)),D.I (Span.hi (Sec.t Z0)),D.I (Span.lo (Sec.w Z0)),D.I (Span.hi (Sec.w Z0))])))]):=by kernel_rfl
theorem check_R6_b (b:Book)(ok:Bool)(most:Int)(i:Nat) :
  runK (mk PR (Yac types) glob 119) [(48,true),(53,false)] [(51,.bool (Ycw (b.secs.getD i sec0).t 200 3)),(56,.bool (Ycw (b.secs.getD i sec0).w 3 2))] [] (k_55 [1,1,1,0,1,0,0,1,1,0,0,1,0]) (check_R6 b ok most i) check_RO6 =
   let Z0:=Sec.t (List.getD b.secs i sec0);let Z1:Prop:=Ycw Z0 (200:Int) (3:Int)=false;let Z2:=Sec.w (List.getD b.secs i sec0);some ([ok=true,ok=true,0+0+2≤4,ok=true,Contract PR glob 89 [D.agg [D.I (Span.lo Z0),D.I (Span.hi Z0)],D.I 200,D.I 3] (D.bool (Ycw Z0 (200:Int) (3:Int))),ok=true,Z1,Z1,Z1,Z1],Ex.normal,[(.tmp 1,.d (D.ptr 1 0)),(.tmp 3,.d (D.bool false)),(.tmp 4,.d (D.I most)),(.tmp 6,.d (D.ptr 6 0)),(.tmp 41,.d (D.sl false E.sec b.secs)),(.tmp 42,.d (D.I (((b.secs.length:Nat):Int)))),(.tmp 43,.d (D.I ((i:Int)))),(.box 1,.bx (some (Box.mk false (Yal b)))),(.box 6,.bx (some (Box.mk false [D.I (Span.lo Z0),D.I (Span.hi Z0),D.I (Span.lo Z2),D.I (Span.hi Z2)])))]):=by kernel_rfl
theorem check_R6_c (b:Book)(ok:Bool)(most:Int)(i:Nat) :
  runK (mk PR (Yac types) glob 119) [(48,true),(53,true)] [(51,.bool (Ycw (b.secs.getD i sec0).t 200 3)),(56,.bool (Ycw (b.secs.getD i sec0).w 3 2))] [] (k_55 [1,1,1,0,1,0,0,1,1,0,0,1,0]) (check_R6 b ok most i) check_RO6 =
   let Z0:=List.getD b.secs i sec0;let Z1:Prop:=Ycw (Sec.t Z0) (200:Int) (3:Int)=true;let Z2:=D.bool (Ycw (Sec.w Z0) (3:Int) (2:Int));some ([ok=true,ok=true,0+0+2≤4,ok=true,Contract PR glob 89 [D.agg [D.I (Span.lo (Sec.t Z0)),D.I (Span.hi (Sec.t Z0))],D.I 200,D.I 3] (D.bool (Ycw (Sec.t Z0) (200:Int) (3:Int))),ok=true,Z1,Z1,0+2+2≤4,Z1,Contract PR glob 89 [D.agg [D.I (Span.lo (Sec.w Z0)),D.I (Span.hi (Sec.w Z0))],D.I 3,D.I 2] Z2,Z1],Ex.normal,[(.tmp 1,.d (D.ptr 1 0)),(.tmp 3,.d Z2),(.tmp 4,.d (D.I most)),(.tmp 6,.d (D.ptr 6 0)),(.tmp 41,.d (D.sl false E.sec b.secs)),(.tmp 42,.d (D.I (((b.secs.length:Nat):Int)))),(.tmp 43,.d (D.I ((i:Int)))),(.box 1,.bx (some (Box.mk false (Yal b)))),(.box 6,.bx (some (Box.mk false [D.I (Span.lo (Sec.t Z0)),D.I (Span.hi (Sec.t Z0)),D.I (Span.lo (Sec.w Z0)),D.I (Span.hi (Sec.w Z0))])))]):=by kernel_rfl
theorem check_R14_a (b:Book)(ok:Bool)(most:Int)(i:Nat) :
  runK (mk PR (Yac types) glob 119) [(74,false)] [] [] (k_55 [1,1,1,1,1,0,1,0,0,1,1,0,0,1]) (check_R14 b ok most i) check_RO14 =
   some ([ok=false,ok=false,ok=false,ok=false,ok=false,ok=false,ok=false,ok=false,ok=false],Ex.normal,[(.tmp 1,.d (D.ptr 1 0)),(.tmp 3,.d (D.bool false)),(.tmp 4,.d (D.I most)),(.tmp 67,.d (D.sl false E.sec b.secs)),(.tmp 68,.d (D.I (((b.secs.length:Nat):Int)))),(.tmp 69,.d (D.I ((i:Int)))),(.box 1,.bx (some (Box.mk false (Yal b))))]):=by kernel_rfl
theorem check_R14_b (b:Book)(ok:Bool)(most:Int)(i:Nat) :
  runK (mk PR (Yac types) glob 119) [(74,true)] [] [] (k_55 [1,1,1,1,1,0,1,0,0,1,1,0,0,1]) (check_R14 b ok most i) check_RO14 =
   some ([ok=true,ok=true,ok=true,0+0+0+1≤4,ok=true,ok=true,ok=true,ok=true,Yae (most*b.days),ok=true,ok=true],Ex.normal,[(.tmp 1,.d (D.ptr 1 0)),(.tmp 3,.d (D.bool (decide (Span.lo (Sec.t (List.getD b.secs i sec0))≥most*b.days)))),(.tmp 4,.d (D.I most)),(.tmp 67,.d (D.sl false E.sec b.secs)),(.tmp 68,.d (D.I (((b.secs.length:Nat):Int)))),(.tmp 69,.d (D.I ((i:Int)))),(.box 1,.bx (some (Box.mk false (Yal b))))]):=by kernel_rfl
theorem check_R20_a (b:Book)(ok:Bool)(last:Int)(i:Nat) :
  runK (mk PR (Yac types) glob 119) [(93,false)] [] [] (k_55 [1,1,1,1,1,1,1,0,1,0,0,1,1,0,0,1,0]) (check_R20 b ok last i) check_RO20 =
   some ([ok=false,ok=false,ok=false,ok=false,ok=false,ok=false,ok=false],Ex.normal,[(.tmp 1,.d (D.ptr 1 0)),(.tmp 3,.d (D.bool false)),(.tmp 11,.d (D.I (List.getD b.turns i (0:Int)))),(.tmp 86,.d (D.sl false E.int b.turns)),(.tmp 87,.d (D.I (((b.turns.length:Nat):Int)))),(.tmp 88,.d (D.I ((i:Int)))),(.box 1,.bx (some (Box.mk false (Yal b))))]):=by kernel_rfl
theorem check_R20_b (b:Book)(ok:Bool)(last:Int)(i:Nat) :
  runK (mk PR (Yac types) glob 119) [(93,true)] [(99,.bool (Yab (b.turns.getD i 0) (last+1) b.days))] [] (k_55 [1,1,1,1,1,1,1,0,1,0,0,1,1,0,0,1,0]) (check_R20 b ok last i) check_RO20 =
   let Z0:=List.getD b.turns i (0:Int);let Z1:=D.bool (Yab Z0 (last+(1:Int)) b.days);some ([ok=true,ok=true,ok=true,Yae (last+(1:Int)),ok=true,ok=true,ok=true,Contract PR glob 88 [D.I Z0,D.I (last+(1:Int)),D.I b.days] Z1,ok=true],Ex.normal,[(.tmp 1,.d (D.ptr 1 0)),(.tmp 3,.d Z1),(.tmp 11,.d (D.I Z0)),(.tmp 86,.d (D.sl false E.int b.turns)),(.tmp 87,.d (D.I (((b.turns.length:Nat):Int)))),(.tmp 88,.d (D.I ((i:Int)))),(.box 1,.bx (some (Box.mk false (Yal b))))]):=by kernel_rfl
theorem check_R26_a (b:Book)(ok:Bool)(i:Nat) :
  runK (mk PR (Yac types) glob 119) [(111,false)] [] [] (k_55 [1,1,1,1,1,1,1,1,0,1,0,0,1,1,0,0,1]) (check_R26 b ok i) check_RO26 =
   some ([ok=false,ok=false,ok=false,ok=false],Ex.normal,[(.tmp 1,.d (D.ptr 1 0)),(.tmp 3,.d (D.bool false)),(.tmp 104,.d (D.sl false E.sv b.svs)),(.tmp 105,.d (D.I (((b.svs.length:Nat):Int)))),(.tmp 106,.d (D.I ((i:Int)))),(.box 1,.bx (some (Box.mk false (Yal b))))]):=by kernel_rfl
theorem check_R26_b (b:Book)(ok:Bool)(i:Nat) :
  runK (mk PR (Yac types) glob 119) [(111,true)] [(114,.bool (Ya6 b (b.svs.getD i sv0)))] [] (k_55 [1,1,1,1,1,1,1,1,0,1,0,0,1,1,0,0,1]) (check_R26 b ok i) check_RO26 =
   let Z0:=List.getD b.svs i sv0;some ([ok=true,ok=true,0+4≤4,ok=true,Contract PR glob 90 [D.agg (Yal b),D.agg [D.I (Sv.s Z0),D.I (Sv.d Z0),D.I (Sv.r Z0),D.I (Sv.e Z0)]] (D.bool (Ya6 b Z0)),ok=true],Ex.normal,[(.tmp 1,.d (D.ptr 1 0)),(.tmp 3,.d (D.bool (Ya6 b Z0))),(.tmp 104,.d (D.sl false E.sv b.svs)),(.tmp 105,.d (D.I (((b.svs.length:Nat):Int)))),(.tmp 106,.d (D.I ((i:Int)))),(.box 1,.bx (some (Box.mk false (Yal b))))]):=by kernel_rfl
theorem check_0_on (b:Book)(ok:Bool)(most:Int)(i:Nat)(ok2:Bool) :
  runK (mk PR (Yac types) glob 119) [(44,true)] [] [(1006,(check_RK6,(.normal,check_RS6 b ok most i ok2)))] (k_55 [1,1,1,0,1,0,0]) (Yc1 b ok most i) check_K0 =
   let Z0:=List.getD b.secs (Int.toNat ((i:Int))) (E.z E.sec);let Z1:=D.I (((b.secs.length:Nat):Int));some ([decide ((i:Int)<((b.secs.length:Nat):Int))=true,(0:Int)≤(i:Int)∧(i:Int)<((b.secs.length:Nat):Int),0+4≤4,LoopT PR glob 119 (k_55 [1,1,1,0,1,0,0,1,1,0,0,1,0]) [(.tmp 1,.d (D.ptr 1 0)),(.tmp 3,.d (D.bool ok)),(.tmp 4,.d (D.I most)),(.tmp 6,.d (D.ptr 6 0)),(.tmp 41,.d (D.sl false E.sec b.secs)),(.tmp 42,.d Z1),(.tmp 43,.d (D.I ((i:Int)))),(.box 1,.bx (some (Box.mk false (Yal b)))),(.box 6,.bx (some (Box.mk false [D.I (Span.lo (Sec.t Z0)),D.I (Span.hi (Sec.t Z0)),D.I (Span.lo (Sec.w Z0)),D.I (Span.hi (Sec.w Z0))])))] Ex.normal (check_RS6 b ok most i ok2),0+2+1+1≤4,Yae ((i:Int)+(1:Int))],Ex.normal,[(.tmp 1,.d (D.ptr 1 0)),(.tmp 3,.d (D.bool ok2)),(.tmp 4,.d (D.I (List.foldl mx most [Span.hi (Sec.w (List.getD b.secs i sec0))]))),(.tmp 41,.d (D.sl false E.sec b.secs)),(.tmp 42,.d Z1),(.tmp 43,.d (D.I ((i:Int)+(1:Int)))),(.box 1,.bx (some (Box.mk false (Yal b))))]):=by kernel_rfl
theorem check_0_end (b:Book)(ok:Bool)(most:Int)(i:Nat) :
  runK (mk PR (Yac types) glob 119) [(44,false)] [] [] (k_55 [1,1,1,0,1,0,0]) (Yc1 b ok most i) check_K0 =
   some ([decide ((i:Int)<((b.secs.length:Nat):Int))=false],Ex.exit 0,[(.tmp 1,.d (D.ptr 1 0)),(.tmp 3,.d (D.bool ok)),(.tmp 4,.d (D.I most)),(.tmp 41,.d (D.sl false E.sec b.secs)),(.tmp 42,.d (D.I (((b.secs.length:Nat):Int)))),(.tmp 43,.d (D.I ((i:Int)))),(.box 1,.bx (some (Box.mk false (Yal b))))]):=by kernel_rfl
theorem check_2_on (b:Book)(ok:Bool)(most:Int)(i:Nat)(ok2:Bool) :
  runK (mk PR (Yac types) glob 119) [(70,true)] [] [(1014,(check_RK14,(.normal,check_RS14 b ok most i ok2)))] (k_55 [1,1,1,1,1,0,1,0,0]) (Ydk b ok most i) check_K2 =
   let Z0:=List.getD b.secs (Int.toNat ((i:Int))) (E.z E.sec);let Z1:=D.I (((b.secs.length:Nat):Int));some ([decide ((i:Int)<((b.secs.length:Nat):Int))=true,(0:Int)≤(i:Int)∧(i:Int)<((b.secs.length:Nat):Int),0+4≤4,LoopT PR glob 119 (k_55 [1,1,1,1,1,0,1,0,0,1,1,0,0,1]) [(.tmp 1,.d (D.ptr 1 0)),(.tmp 3,.d (D.bool ok)),(.tmp 4,.d (D.I most)),(.tmp 8,.d (D.ptr 8 0)),(.tmp 67,.d (D.sl false E.sec b.secs)),(.tmp 68,.d Z1),(.tmp 69,.d (D.I ((i:Int)))),(.box 1,.bx (some (Box.mk false (Yal b)))),(.box 8,.bx (some (Box.mk false [D.I (Span.lo (Sec.t Z0)),D.I (Span.hi (Sec.t Z0)),D.I (Span.lo (Sec.w Z0)),D.I (Span.hi (Sec.w Z0))])))] Ex.normal (check_RS14 b ok most i ok2),Yae ((i:Int)+(1:Int))],Ex.normal,[(.tmp 1,.d (D.ptr 1 0)),(.tmp 3,.d (D.bool ok2)),(.tmp 4,.d (D.I most)),(.tmp 67,.d (D.sl false E.sec b.secs)),(.tmp 68,.d Z1),(.tmp 69,.d (D.I ((i:Int)+(1:Int)))),(.box 1,.bx (some (Box.mk false (Yal b))))]):=by kernel_rfl
theorem check_2_end (b:Book)(ok:Bool)(most:Int)(i:Nat) :
  runK (mk PR (Yac types) glob 119) [(70,false)] [] [] (k_55 [1,1,1,1,1,0,1,0,0]) (Ydk b ok most i) check_K2 =
   some ([decide ((i:Int)<((b.secs.length:Nat):Int))=false],Ex.exit 2,[(.tmp 1,.d (D.ptr 1 0)),(.tmp 3,.d (D.bool ok)),(.tmp 4,.d (D.I most)),(.tmp 67,.d (D.sl false E.sec b.secs)),(.tmp 68,.d (D.I (((b.secs.length:Nat):Int)))),(.tmp 69,.d (D.I ((i:Int)))),(.box 1,.bx (some (Box.mk false (Yal b))))]):=by kernel_rfl
theorem check_4_on (b:Book)(ok:Bool)(last:Int)(i:Nat)(ok2:Bool) :
  runK (mk PR (Yac types) glob 119) [(89,true)] [] [(1020,(check_RK20,(.normal,check_RS20 b ok last i ok2)))] (k_55 [1,1,1,1,1,1,1,0,1,0,0]) (Ydj b ok last i) check_K4 =
   let Z0:=D.I (((b.turns.length:Nat):Int));let Z1:=D.sl false E.int b.turns;some ([decide ((i:Int)<((b.turns.length:Nat):Int))=true,(0:Int)≤(i:Int)∧(i:Int)<((b.turns.length:Nat):Int),0+1≤1,LoopT PR glob 119 (k_55 [1,1,1,1,1,1,1,0,1,0,0,1,1,0,0,1,0]) [(.tmp 1,.d (D.ptr 1 0)),(.tmp 3,.d (D.bool ok)),(.tmp 9,.d (D.I last)),(.tmp 11,.d (D.I (List.getD b.turns (Int.toNat ((i:Int))) (E.z E.int)))),(.tmp 86,.d Z1),(.tmp 87,.d Z0),(.tmp 88,.d (D.I ((i:Int)))),(.box 1,.bx (some (Box.mk false (Yal b))))] Ex.normal (check_RS20 b ok last i ok2),Yae ((i:Int)+(1:Int))],Ex.normal,[(.tmp 1,.d (D.ptr 1 0)),(.tmp 3,.d (D.bool ok2)),(.tmp 9,.d (D.I (List.getD b.turns i (0:Int)))),(.tmp 86,.d Z1),(.tmp 87,.d Z0),(.tmp 88,.d (D.I ((i:Int)+(1:Int)))),(.box 1,.bx (some (Box.mk false (Yal b))))]):=by kernel_rfl
theorem check_4_end (b:Book)(ok:Bool)(last:Int)(i:Nat) :
  runK (mk PR (Yac types) glob 119) [(89,false)] [] [] (k_55 [1,1,1,1,1,1,1,0,1,0,0]) (Ydj b ok last i) check_K4 =
   some ([decide ((i:Int)<((b.turns.length:Nat):Int))=false],Ex.exit 4,[(.tmp 1,.d (D.ptr 1 0)),(.tmp 3,.d (D.bool ok)),(.tmp 9,.d (D.I last)),(.tmp 86,.d (D.sl false E.int b.turns)),(.tmp 87,.d (D.I (((b.turns.length:Nat):Int)))),(.tmp 88,.d (D.I ((i:Int)))),(.box 1,.bx (some (Box.mk false (Yal b))))]):=by kernel_rfl
theorem check_6_on (b:Book)(ok:Bool)(i:Nat)(ok2:Bool) :
  runK (mk PR (Yac types) glob 119) [(107,true)] [] [(1026,(check_RK26,(.normal,check_RS26 b ok i ok2)))] (k_55 [1,1,1,1,1,1,1,1,0,1,0,0]) (Ydi b ok i) check_K6 =
   let Z0:=List.getD b.svs (Int.toNat ((i:Int))) (E.z E.sv);let Z1:=D.I (((b.svs.length:Nat):Int));some ([decide ((i:Int)<((b.svs.length:Nat):Int))=true,(0:Int)≤(i:Int)∧(i:Int)<((b.svs.length:Nat):Int),0+4≤4,LoopT PR glob 119 (k_55 [1,1,1,1,1,1,1,1,0,1,0,0,1,1,0,0,1]) [(.tmp 1,.d (D.ptr 1 0)),(.tmp 3,.d (D.bool ok)),(.tmp 13,.d (D.ptr 13 0)),(.tmp 104,.d (D.sl false E.sv b.svs)),(.tmp 105,.d Z1),(.tmp 106,.d (D.I ((i:Int)))),(.box 1,.bx (some (Box.mk false (Yal b)))),(.box 13,.bx (some (Box.mk false [D.I (Sv.s Z0),D.I (Sv.d Z0),D.I (Sv.r Z0),D.I (Sv.e Z0)])))] Ex.normal (check_RS26 b ok i ok2),Yae ((i:Int)+(1:Int))],Ex.normal,[(.tmp 1,.d (D.ptr 1 0)),(.tmp 3,.d (D.bool ok2)),(.tmp 104,.d (D.sl false E.sv b.svs)),(.tmp 105,.d Z1),(.tmp 106,.d (D.I ((i:Int)+(1:Int)))),(.box 1,.bx (some (Box.mk false (Yal b))))]):=by kernel_rfl
theorem check_6_end (b:Book)(ok:Bool)(i:Nat) :
  runK (mk PR (Yac types) glob 119) [(107,false)] [] [] (k_55 [1,1,1,1,1,1,1,1,0,1,0,0]) (Ydi b ok i) check_K6 =
   some ([decide ((i:Int)<((b.svs.length:Nat):Int))=false],Ex.exit 6,[(.tmp 1,.d (D.ptr 1 0)),(.tmp 3,.d (D.bool ok)),(.tmp 104,.d (D.sl false E.sv b.svs)),(.tmp 105,.d (D.I (((b.svs.length:Nat):Int)))),(.tmp 106,.d (D.I ((i:Int)))),(.box 1,.bx (some (Box.mk false (Yal b))))]):=by kernel_rfl
def index_T0_hit (xs:List Int)(v:Int)(i:Nat)  : List (Key×Val) :=
 [(.tmp 0,.d (D.sl false E.int xs)),(.tmp 1,.d (D.I v)),(.tmp 7,.d (D.I (((List.length xs:Nat):Int)))),(.tmp 8,.d (D.I ((i:Int)))),(.tmp 4,.d (D.I ((i:Int))))]
theorem within_no (n lo hi:Int) :
  Yai (mk PR (Yac types) glob 15) [(10,false)] [] [] (body Tryz.f88) [.tmp 6] [.I n,.I lo,.I hi] =
   let Z0:Prop:=decide (lo≤n)=false;some ([Z0,Z0,Z0,Z0],D.bool false):=by kernel_rfl
theorem within_yes (n lo hi:Int) :
  Yai (mk PR (Yac types) glob 15) [(10,true)] [] [] (body Tryz.f88) [.tmp 6] [.I n,.I lo,.I hi] =
   let Z0:Prop:=decide (lo≤n)=true;some ([Z0,Z0,Z0,Z0],D.bool (decide (n≤hi))):=by kernel_rfl
theorem isSpan_a (s:Span)(hi wide:Int) :
  Yai (mk PR (Yac types) glob 32) [(10,false)] [] [] (body Tryz.f89) [.tmp 6] [spD s,.I hi,.I wide] =
   let Z0:Prop:=decide ((0:Int)≤s.lo)=false;some ([0+0+1≤2,Z0,Z0,Z0,Z0,Z0,Z0],D.bool false):=by kernel_rfl
theorem isSpan_b (s:Span)(hi wide:Int) :
  Yai (mk PR (Yac types) glob 32) [(10,true),(17,false)] [] [] (body Tryz.f89) [.tmp 6] [spD s,.I hi,.I wide] =
   let Z0:Prop:=decide ((0:Int)≤s.lo)=true;let Z1:Prop:=decide (s.lo≤s.hi)=false;some ([0+0+1≤2,Z0,Z0,0+0+1≤2,Z0,Z0,0+1+1≤2,Z0,Z0,Z1,Z1,Z1,Z1,Z1],D.bool false):=by kernel_rfl
theorem isSpan_c (s:Span)(hi wide:Int) :
  Yai (mk PR (Yac types) glob 32) [(10,true),(17,true),(23,false)] [] [] (body Tryz.f89) [.tmp 6] [spD s,.I hi,.I wide] =
   let Z0:Prop:=decide (s.hi≤hi)=false;let Z1:Prop:=decide ((0:Int)≤s.lo)=true;let Z2:Prop:=decide (s.lo≤s.hi)=true;some ([0+0+1≤2,Z1,Z1,0+0+1≤2,Z1,Z1,0+1+1≤2,Z1,Z1,Z2,Z2,0+1+1≤2,Z2,Z2,Z2,Z0,Z0,Z0,Z0,Z0,Z0,Z0,Z0],D.bool false):=by kernel_rfl
theorem isSpan_d (s:Span)(hi wide:Int) :
  Yai (mk PR (Yac types) glob 32) [(10,true),(17,true),(23,true)] [] [] (body Tryz.f89) [.tmp 6] [spD s,.I hi,.I wide] =
   let Z0:Prop:=decide (s.hi≤hi)=true;let Z1:Prop:=decide ((0:Int)≤s.lo)=true;let Z2:Prop:=decide (s.lo≤s.hi)=true;some ([0+0+1≤2,Z1,Z1,0+0+1≤2,Z1,Z1,0+1+1≤2,Z1,Z1,Z2,Z2,0+1+1≤2,Z2,Z2,Z2,Z0,Z0,0+1+1≤2,Z0,Z0,0+0+1≤2,Z0,Yae (s.hi-s.lo),Z0,Z0,Z0],D.bool (decide (s.hi-s.lo≤wide))):=by kernel_rfl
theorem isSection_all (b:Book)(n:Int) :
  Yai (mk PR (Yac types) glob 11) [] [(10,.bool (Yaf b n))] [] (body Tryz.f120) [.tmp 4] [Yag b,.I n] =
   some ([Yae (((b.secs.length:Nat):Int)-(1:Int)),Contract PR glob 88 [D.I n,D.I 0,D.I (((b.secs.length:Nat):Int)-(1:Int))] (D.bool (Yaf b n))],D.bool (Yaf b n)):=by kernel_rfl
theorem isDay_all (b:Book)(n:Int) :
  Yai (mk PR (Yac types) glob 9) [] [(8,.bool (Yaw b n))] [] (body Tryz.f121) [.tmp 4] [Yag b,.I n] =
   some ([Contract PR glob 88 [D.I n,D.I 0,D.I b.days] (D.bool (Yaw b n))],D.bool (Yaw b n)):=by kernel_rfl
theorem isSurvey_a (b:Book)(x:Sv) :
  Yai (mk PR (Yac types) glob 25) [(9,false)] [(8,.bool (Yaf b x.s)),(13,.bool (Yaw b x.d)),(18,.bool (Yab x.r 0 200)),(23,.bool (Yab x.e 0 5))] [] (body Tryz.f90) [.tmp 4] [Yag b,svD x] =
   let Z0:Prop:=Yaf b x.s=false;some ([0+0+1≤4,Contract PR glob 120 [D.agg (Yal b),D.I x.s] (D.bool (Yaf b x.s)),Z0,Z0,Z0,Z0,Z0],D.bool false):=by kernel_rfl
theorem isSurvey_b (b:Book)(x:Sv) :
  Yai (mk PR (Yac types) glob 25) [(9,true),(15,false)] [(8,.bool (Yaf b x.s)),(13,.bool (Yaw b x.d)),(18,.bool (Yab x.r 0 200)),(23,.bool (Yab x.e 0 5))] [] (body Tryz.f90) [.tmp 4] [Yag b,svD x] =
   let Z0:Prop:=Yaf b x.s=true;let Z1:Prop:=Yaw b x.d=false;some ([0+0+1≤4,Contract PR glob 120 [D.agg (Yal b),D.I x.s] (D.bool (Yaf b x.s)),Z0,Z0,Z0,0+1+1≤4,Z0,Contract PR glob 121 [D.agg (Yal b),D.I x.d] (D.bool (Yaw b x.d)),Z0,Z1,Z1,Z1,Z1],D.bool false):=by kernel_rfl
theorem isSurvey_c (b:Book)(x:Sv) :
  Yai (mk PR (Yac types) glob 25) [(9,true),(15,true),(20,false)] [(8,.bool (Yaf b x.s)),(13,.bool (Yaw b x.d)),(18,.bool (Yab x.r 0 200)),(23,.bool (Yab x.e 0 5))] [] (body Tryz.f90) [.tmp 4] [Yag b,svD x] =
   let Z0:Prop:=Yab x.r (0:Int) (200:Int)=false;let Z1:Prop:=Yaf b x.s=true;let Z2:Prop:=Yaw b x.d=true;some ([0+0+1≤4,Contract PR glob 120 [D.agg (Yal b),D.I x.s] (D.bool (Yaf b x.s)),Z1,Z1,Z1,0+1+1≤4,Z1,Contract PR glob 121 [D.agg (Yal b),D.I x.d] (D.bool (Yaw b x.d)),Z1,Z2,Z2,0+2+1≤4,Z2,Contract PR glob 88 [D.I x.r,D.I 0,D.I 200] (D.bool (Yab x.r (0:Int) (200:Int))),Z2,Z0,Z0,Z0,Z0],D.bool false):=by kernel_rfl
theorem isSurvey_d (b:Book)(x:Sv) :
  Yai (mk PR (Yac types) glob 25) [(9,true),(15,true),(20,true)] [(8,.bool (Yaf b x.s)),(13,.bool (Yaw b x.d)),(18,.bool (Yab x.r 0 200)),(23,.bool (Yab x.e 0 5))] [] (body Tryz.f90) [.tmp 4] [Yag b,svD x] =
   let Z0:Prop:=Yab x.r (0:Int) (200:Int)=true;let Z1:Prop:=Yaf b x.s=true;let Z2:Prop:=Yaw b x.d=true;some ([0+0+1≤4,Contract PR glob 120 [D.agg (Yal b),D.I x.s] (D.bool (Yaf b x.s)),Z1,Z1,Z1,0+1+1≤4,Z1,Contract PR glob 121 [D.agg (Yal b),D.I x.d] (D.bool (Yaw b x.d)),Z1,Z2,Z2,0+2+1≤4,Z2,Contract PR glob 88 [D.I x.r,D.I 0,D.I 200] (D.bool (Yab x.r (0:Int) (200:Int))),Z2,Z0,Z0,0+3+1≤4,Z0,Contract PR glob 88 [D.I x.e,D.I 0,D.I 5] (D.bool (Yab x.e (0:Int) (5:Int))),Z0],D.bool (Yab x.e (0:Int) (5:Int))):=by kernel_rfl
theorem index_end (xs:List Int)(v:Int) :
  Yai (mk PR (Yac types) glob 19) [] [] [(0,(index_K0,(.normal,Ye1 xs v xs.length)))] (body Tryz.f142) [.tmp 4] [.sl false .int xs,.I v] =
   some ([LoopT PR glob 19 (k_142 [1,0,1]) (Ye1 xs v 0) Ex.normal (Ye1 xs v xs.length)],D.I (-(1:Int))):=by kernel_rfl
theorem index_hit (xs:List Int)(v:Int)(i:Nat) :
  Yai (mk PR (Yac types) glob 19) [] [] [(0,(index_K0,(.ret,index_T0_hit xs v i)))] (body Tryz.f142) [.tmp 4] [.sl false .int xs,.I v] =
   some ([LoopT PR glob 19 (k_142 [1,0,1]) (Ye1 xs v 0) Ex.ret (index_T0_hit xs v i)],D.I ((i:Int))):=by kernel_rfl
theorem check_bad1 (b:Book)(ok0 ok1 ok2 ok3 ok4:Bool)(most last:Int) :
  Yai (mk PR (Yac types) glob 119) [(65,true)] [] [(1001,(check_RK1,(.normal,Yfr b ok0))),(0,(check_K0,(.normal,Yc1 b ok1 most b.secs.length))),(2,(check_K2,(.normal,Ydk b ok2 most b.secs.length))),(4,(check_K4,(.normal,Ydj b ok3 last b.turns.length))),(6,(check_K6,(.normal,Ydi b ok4 b.svs.length)))] (body Tryz.f55) [.tmp 2] [Yag b] =
   some ([LoopT PR glob 119 (k_55 [1,0]) [(.tmp 1,.d (D.ptr 1 0)),(.box 1,.bx (some (Box.mk false (Yal b))))] Ex.normal (Yfr b ok0),LoopT PR glob 119 (k_55 [1,1,1,0,1]) (Yc1 b ok0 0 0) Ex.normal (Yc1 b ok1 most b.secs.length),(!ok1)=true],D.I 10):=by kernel_rfl
theorem check_bad2 (b:Book)(ok0 ok1 ok2 ok3 ok4:Bool)(most last:Int) :
  Yai (mk PR (Yac types) glob 119) [(65,false),(118,true)] [] [(1001,(check_RK1,(.normal,Yfr b ok0))),(0,(check_K0,(.normal,Yc1 b ok1 most b.secs.length))),(2,(check_K2,(.normal,Ydk b ok2 most b.secs.length))),(4,(check_K4,(.normal,Ydj b ok3 last b.turns.length))),(6,(check_K6,(.normal,Ydi b ok4 b.svs.length)))] (body Tryz.f55) [.tmp 2] [Yag b] =
   some ([LoopT PR glob 119 (k_55 [1,0]) [(.tmp 1,.d (D.ptr 1 0)),(.box 1,.bx (some (Box.mk false (Yal b))))] Ex.normal (Yfr b ok0),LoopT PR glob 119 (k_55 [1,1,1,0,1]) (Yc1 b ok0 0 0) Ex.normal (Yc1 b ok1 most b.secs.length),(!ok1)=false,LoopT PR glob 119 (k_55 [1,1,1,1,1,0,1]) (Ydk b ok1 most 0) Ex.normal (Ydk b ok2 most b.secs.length),LoopT PR glob 119 (k_55 [1,1,1,1,1,1,1,0,1]) (Ydj b ok2 0 0) Ex.normal (Ydj b ok3 last b.turns.length),LoopT PR glob 119 (k_55 [1,1,1,1,1,1,1,1,0,1]) (Ydi b ok3 0) Ex.normal (Ydi b ok4 b.svs.length),(!ok4)=true],D.I 10):=by kernel_rfl
theorem check_good (b:Book)(ok0 ok1 ok2 ok3 ok4:Bool)(most last:Int) :
  Yai (mk PR (Yac types) glob 119) [(65,false),(118,false)] [] [(1001,(check_RK1,(.normal,Yfr b ok0))),(0,(check_K0,(.normal,Yc1 b ok1 most b.secs.length))),(2,(check_K2,(.normal,Ydk b ok2 most b.secs.length))),(4,(check_K4,(.normal,Ydj b ok3 last b.turns.length))),(6,(check_K6,(.normal,Ydi b ok4 b.svs.length)))] (body Tryz.f55) [.tmp 2] [Yag b] =
   some ([LoopT PR glob 119 (k_55 [1,0]) [(.tmp 1,.d (D.ptr 1 0)),(.box 1,.bx (some (Box.mk false (Yal b))))] Ex.normal (Yfr b ok0),LoopT PR glob 119 (k_55 [1,1,1,0,1]) (Yc1 b ok0 0 0) Ex.normal (Yc1 b ok1 most b.secs.length),(!ok1)=false,LoopT PR glob 119 (k_55 [1,1,1,1,1,0,1]) (Ydk b ok1 most 0) Ex.normal (Ydk b ok2 most b.secs.length),LoopT PR glob 119 (k_55 [1,1,1,1,1,1,1,0,1]) (Ydj b ok2 0 0) Ex.normal (Ydj b ok3 last b.turns.length),LoopT PR glob 119 (k_55 [1,1,1,1,1,1,1,1,0,1]) (Ydi b ok3 0) Ex.normal (Ydi b ok4 b.svs.length),(!ok4)=false],D.I 0):=by kernel_rfl
theorem contains_all (xs:List Int)(v:Int)(n:Int) :
  Yai (mk PR (Yac types) glob 9) [] [(7,.I n)] [] (body Tryz.f130) [.tmp 4] [.sl false .int xs,.I v] =
   some ([Contract PR glob 142 [D.sl false E.int xs,D.I v] (D.I n)],D.bool (decide (n≥(0:Int)))):=by kernel_rfl
end Go.Di

namespace Go.Di
open Proofs
theorem Yfm {n:Nat}{dec:List (Nat×Bool)}{orc:List (Nat×D)}{lorc:Lorc}{c:Code}{L L' L2:List (Key×Val)}{ks:List Key}{ps:List Prop}
  (h:Di.runK (mk PR (Yac types) glob n) dec orc lorc c L ks=some (ps,.normal,L')) (hp:allP ps) (he:L'=L2):LoopT PR glob n c L .normal L2 :=
 LoopT.of (tt:=Yac types) (WpL.path (G n) h hp ⟨rfl,he⟩)
theorem Ycy (n lo hi:Int):Contract PR glob 88 [.int .i64 n,.int .i64 lo,.int .i64 hi] (.bool (Yab n lo hi)):=by
 unfold Yab
 cases h:decide (lo≤n) with
 | false =>
  refine Yaa (G 15) within_fn (within_no n lo hi) ?_
  repeat(first|exact trivial|refine⟨by first|assumption|omega|rfl,?_⟩)
 | true =>
  refine Yaa (G 15) within_fn (within_yes n lo hi) ?_
  repeat(first|exact trivial|refine⟨by first|assumption|omega|rfl,?_⟩)
theorem isSpan_con (s:Span)(hi wide:Int)(hh:hi≤1000000):Contract PR glob 89 [spD s,.int .i64 hi,.int .i64 wide] (.bool (Ycw s hi wide)):=by
 unfold Ycw
 cases h1:decide (0≤s.lo) with
 | false =>
  refine Yaa (G 32) isSpan_fn (isSpan_a s hi wide) ?_
  repeat(first|exact trivial|refine⟨by first|assumption|omega|rfl,?_⟩)
 | true =>
  cases h2:decide (s.lo≤s.hi) with
  | false =>
   refine Yaa (G 32) isSpan_fn (isSpan_b s hi wide) ?_
   repeat(first|exact trivial|refine⟨by first|assumption|omega|rfl,?_⟩)
  | true =>
   cases h3:decide (s.hi≤hi) with
   | false =>
    refine Yaa (G 32) isSpan_fn (isSpan_c s hi wide) ?_
    repeat(first|exact trivial|refine⟨by first|assumption|omega|rfl,?_⟩)
   | true =>
    have e1:=of_decide_eq_true h1
    have e2:=of_decide_eq_true h2
    have e3:=of_decide_eq_true h3
    refine Yaa (G 32) isSpan_fn (isSpan_d s hi wide) ?_
    repeat(first|exact trivial|refine⟨by first|assumption|omega|rfl|(simp only[Yae];omega),?_⟩)
theorem Yhf (b:Book)(n:Int)(hl:b.secs.length≤9223372036854775807):Contract PR glob 120 [Yag b,.int .i64 n] (.bool (Yaf b n)):=by
 refine Yaa (G 11) isSection_fn (isSection_all b n) ?_
 repeat(first|exact trivial|refine⟨by first|assumption|omega|(simp only[Yae];omega)|exact Ycy _ _ _,?_⟩)
theorem isDay_con (b:Book)(n:Int):Contract PR glob 121 [Yag b,.int .i64 n] (.bool (Yaw b n)):=by
 refine Yaa (G 9) isDay_fn (isDay_all b n) ?_
 repeat(first|exact trivial|refine⟨by first|assumption|omega|(simp only[Yae];omega)|exact Ycy _ _ _,?_⟩)
theorem isSurvey_con (b:Book)(x:Sv)(hl:b.secs.length≤9223372036854775807):Contract PR glob 90 [Yag b,svD x] (.bool (Ya6 b x)):=by
 unfold Ya6
 have hs:=Yhf b x.s hl
 have hd:=isDay_con b x.d
 cases h1:Yaf b x.s with
 | false =>
  rw[h1]at hs
  have:=isSurvey_a b x
  rw[h1]at this
  refine Yaa (G 25) Yhe this ?_
  repeat(first|exact trivial|refine⟨by first|exact Ycy _ _ _|assumption|omega|rfl,?_⟩)
 | true =>
  rw[h1]at hs
  cases h2:Yaw b x.d with
  | false =>
   rw[h2]at hd
   have:=isSurvey_b b x
   rw[h1,h2]at this
   refine Yaa (G 25) Yhe this ?_
   repeat(first|exact trivial|refine⟨by first|exact Ycy _ _ _|assumption|omega|rfl,?_⟩)
  | true =>
   rw[h2]at hd
   cases h3:Yab x.r 0 200 with
   | false =>
    have:=isSurvey_c b x
    rw[h1,h2]at this
    refine Yaa (G 25) Yhe this ?_
    repeat(first|exact trivial|refine⟨by first|exact Ycy _ _ _|assumption|omega|rfl,?_⟩)
   | true =>
    have:=isSurvey_d b x
    rw[h1,h2]at this
    refine Yaa (G 25) Yhe this ?_
    repeat(first|exact trivial|refine⟨by first|exact Ycy _ _ _|assumption|omega|rfl,?_⟩)
def indexF (v:Int):List Int→Nat→Int
 | [],_=>-1
 | x::l,i=>if v==x then i else indexF v l (i+1)
theorem indexF_ge (v:Int):∀(l:List Int) (i:Nat),(indexF v l i≥0↔v∈l)
 | [],i=>by simp[indexF]
 | x::l,i=>by
  simp only[indexF]
  by_cases h:v=x
  ·subst h
   simp
  ·have hb:(v==x)=false:=by simpa using h
   rw[hb]
   simp only[Bool.false_eq_true,if_false]
   rw[indexF_ge v l (i+1)]
   simp[h]
theorem drop_getD {α:Type}(l:List α)(i:Nat)(d:α)(h:i<l.length):l.drop i=l.getD i d::l.drop (i+1):=by
 rw[List.drop_eq_getElem_cons h,List.getD_eq_getElem?_getD,List.getElem?_eq_getElem h]
 rfl
theorem indexF_cases (v:Int)(xs:List Int):(∃ i:Nat,i<xs.length∧indexF v xs 0=i∧(v==xs.getD i 0)=true∧∀ j,j<i→(v==xs.getD j 0)=false)∨(indexF v xs 0=-1∧∀ j,j<xs.length→(v==xs.getD j 0)=false):=by
 have key:∀(k i:Nat),xs.length-i=k→i≤xs.length→(∀ j,j<i→(v==xs.getD j 0)=false)→(∃ i':Nat,i'<xs.length∧indexF v (xs.drop i) i=i'∧(v==xs.getD i' 0)=true∧∀ j,j<i'→(v==xs.getD j 0)=false)∨(indexF v (xs.drop i) i=-1∧∀ j,j<xs.length→(v==xs.getD j 0)=false):=by
  intro k
  induction k with
  | zero =>
   intro i hk hi hj
   have:i=xs.length:=by omega
   subst this
   right
   rw[List.drop_length]
   exact⟨rfl,hj⟩
  | succ k ih =>
   intro i hk hi hj
   have hlt:i<xs.length:=by omega
   rw[drop_getD xs i 0 hlt]
   simp only[indexF]
   cases hq:(v==xs.getD i 0) with
   | true =>
    left
    exact⟨i,hlt,by simp,hq,hj⟩
   | false =>
    simp only[Bool.false_eq_true,if_false]
    refine ih (i+1) (by omega) (by omega) (fun j hji=>?_)
    by_cases e:j=i
    ·subst e;exact hq
    ·exact hj j (by omega)
 simpa using key xs.length 0 (by omega) (by omega) (fun j hj=>by omega)
theorem index_con (xs:List Int)(v:Int)(hl:xs.length≤9223372036854775807):Contract PR glob 142 [.sl false .int xs,.int .i64 v] (.int .i64 (indexF v xs 0)):=by
 rcases indexF_cases v xs with ⟨i0,h1,h2,h3,h4⟩|⟨h2,h4⟩
 ·rw[h2]
  refine Yaa (G 19) index_fn (index_hit xs v i0) ⟨?_,trivial⟩
  rw[show k_142 [1,0,1]=.block 0 (.loop (k_142 [1,0,1,0,0])) from by kernel_rfl]
  refine LoopT.rounds (tt:=Yac types) (S:=fun i:{i:Nat // i≤i0}=>Ye1 xs v i.1) (fun i=>i0-i.1) ?_ ⟨0,Nat.zero_le _⟩
  intro⟨i,hi⟩
  by_cases hlt:i<i0
  ·refine WpL.path (G 19) (index_0_on xs v i) ?_ ⟨⟨i+1,hlt⟩,rfl,by dsimp only;omega⟩
   exact⟨decide_eq_true (by omega),by omega,by omega,h4 i hlt,by simp only[Yae];omega,trivial⟩
  ·have:i=i0:=by omega
   subst this
   exact WpL.path (G 19) (index_0_hit xs v i) ⟨decide_eq_true (by omega),by omega,by omega,h3,trivial⟩ ⟨rfl,rfl⟩
 ·rw[h2]
  refine Yaa (G 19) index_fn (index_end xs v) ⟨?_,trivial⟩
  rw[show k_142 [1,0,1]=.block 0 (.loop (k_142 [1,0,1,0,0])) from by kernel_rfl]
  refine LoopT.rounds (tt:=Yac types) (S:=fun i:{i:Nat // i≤xs.length}=>Ye1 xs v i.1) (fun i=>xs.length-i.1) ?_ ⟨0,Nat.zero_le _⟩
  intro⟨i,hi⟩
  by_cases hlt:i<xs.length
  ·refine WpL.path (G 19) (index_0_on xs v i) ?_ ⟨⟨i+1,hlt⟩,rfl,by dsimp only;omega⟩
   exact⟨decide_eq_true (by omega),by omega,by omega,h4 i hlt,by simp only[Yae];omega,trivial⟩
  ·have:i=xs.length:=by omega
   subst this
   exact WpL.path (G 19) (index_0_end xs v _) ⟨decide_eq_false (Int.lt_irrefl _),trivial⟩ ⟨rfl,rfl⟩
theorem contains_con (xs:List Int)(v:Int)(hl:xs.length≤9223372036854775807):Contract PR glob 130 [.sl false .int xs,.int .i64 v] (.bool (decide (v∈xs))):=by
 have:=Yaa (G 9) contains_fn (contains_all xs v (indexF v xs 0)) ⟨index_con xs v hl,trivial⟩
 rw[show decide (v∈xs)=decide (indexF v xs 0≥0) from by simp only[indexF_ge]]
 exact this
end Go.Di

namespace Go.Di
open Proofs
def ok0F (b:Book):Bool:=Yab b.secs.length 1 4&&Yab b.days 1 30&&Yab b.rule 0 200&&decide (b.turns.length≤4)&&decide (b.svs.length≤8)
def Ydc (x:Sec):Bool:=Ycw x.t 200 3&&Ycw x.w 3 2
def Yd4 (l:List Sec):Int:=l.foldl (fun m x=>mx m x.w.hi) 0
def ok1F (b:Book)(l:List Sec):Bool:=l.foldl (fun ok x=>ok&&Ydc x) (ok0F b)
def ok2F (b:Book)(l:List Sec):Bool:=l.foldl (fun ok x=>ok&&decide (x.t.lo≥Yd4 b.secs*b.days)) (ok1F b b.secs)
def Ydn (days:Int)(p:Bool×Int)(t:Int):Bool×Int:=(p.1&&Yab t (p.2+1) days,t)
def ok3F (b:Book)(l:List Int):Bool×Int:=l.foldl (Ydn b.days) (ok2F b b.secs,0)
def ok4F (b:Book)(l:List Sv):Bool:=l.foldl (fun ok x=>ok&&Ya6 b x) (ok3F b b.turns).1
def Yd7 (b:Book):Bool:=ok1F b b.secs&&ok4F b b.svs
def Yah (b:Book):Int:=if Yd7 b then 0 else 10
theorem Ygr {α:Type}(f:α→Bool):∀(l:List α) (b:Bool),l.foldl (fun ok x=>ok&&f x) b=(b&&l.all f)
 | [],b=>by simp
 | x::l,b=>by
  simp only[List.foldl_cons,List.all_cons]
  rw[Ygr f l,Bool.and_assoc]
theorem join1 (b:Book):LoopT PR glob 119 (k_55 [1,0]) (check_R1 b) .normal (Yfr b (ok0F b)):=by
 have h0:=Ycy b.secs.length 1 4
 have h1':=Ycy b.days 1 30
 have h2':=Ycy b.rule 0 200
 unfold ok0F
 cases h1:Yab b.secs.length 1 4 with
 | false =>
  refine Yfm (check_R1_a b) ?_ rfl
  repeat(first|exact trivial|refine⟨by first|exact h0|assumption|omega,?_⟩)
 | true =>
  cases h2:Yab b.days 1 30 with
  | false =>
   refine Yfm (check_R1_b b) ?_ rfl
   repeat(first|exact trivial|refine⟨by first|exact h0|exact h1'|assumption|omega,?_⟩)
  | true =>
   cases h3:Yab b.rule 0 200 with
   | false =>
    refine Yfm (check_R1_c b) ?_ rfl
    repeat(first|exact trivial|refine⟨by first|exact h0|exact h1'|exact h2'|assumption|omega,?_⟩)
   | true =>
    by_cases h4:b.turns.length≤4
    ·have h4':decide ((b.turns.length:Int)≤4)=true:=decide_eq_true (by omega)
     rw[show decide (b.turns.length≤4)=true from decide_eq_true h4,show decide (b.svs.length≤8)=decide ((b.svs.length:Int)≤8) from by simp only[decide_eq_decide];omega]
     refine Yfm (check_R1_e b) ?_ rfl
     repeat(first|exact trivial|refine⟨by first|exact h0|exact h1'|exact h2'|assumption|omega,?_⟩)
    ·have h4':decide ((b.turns.length:Int)≤4)=false:=decide_eq_false (by omega)
     rw[show decide (b.turns.length≤4)=false from decide_eq_false h4]
     refine Yfm (check_R1_d b) ?_ rfl
     repeat(first|exact trivial|refine⟨by first|exact h0|exact h1'|exact h2'|assumption|omega,?_⟩)
theorem join6 (b:Book)(ok:Bool)(most:Int)(i:Nat):LoopT PR glob 119 (k_55 [1,1,1,0,1,0,0,1,1,0,0,1,0]) (check_R6 b ok most i) .normal (check_RS6 b ok most i (ok&&Ydc (b.secs.getD i sec0))):=by
 have h0:=isSpan_con (b.secs.getD i sec0).t 200 3 (by omega)
 have h1':=isSpan_con (b.secs.getD i sec0).w 3 2 (by omega)
 unfold Ydc
 cases ok with
 | false =>
  refine Yfm (check_R6_a b false most i) ?_ rfl
  repeat(first|exact trivial|refine⟨by first|exact h0|exact h1'|assumption|omega|rfl,?_⟩)
 | true =>
  cases h1:Ycw (b.secs.getD i sec0).t 200 3 with
  | false =>
   refine Yfm (check_R6_b b true most i) ?_ rfl
   repeat(first|exact trivial|refine⟨by first|exact h0|exact h1'|assumption|omega|rfl,?_⟩)
  | true =>
   refine Yfm (check_R6_c b true most i) ?_ rfl
   repeat(first|exact trivial|refine⟨by first|exact h0|exact h1'|assumption|omega|rfl,?_⟩)
theorem join14 (b:Book)(ok:Bool)(most:Int)(i:Nat)(hm:ok=true→Yae (most*b.days)):LoopT PR glob 119 (k_55 [1,1,1,1,1,0,1,0,0,1,1,0,0,1]) (check_R14 b ok most i) .normal (check_RS14 b ok most i (ok&&decide ((b.secs.getD i sec0).t.lo≥most*b.days))):=by
 cases ok with
 | false =>
  refine Yfm (check_R14_a b false most i) ?_ rfl
  repeat(first|exact trivial|refine⟨by first|assumption|omega|rfl,?_⟩)
 | true =>
  have hm:=hm rfl
  refine Yfm (check_R14_b b true most i) ?_ rfl
  repeat(first|exact trivial|refine⟨by first|exact hm|assumption|omega|rfl,?_⟩)
theorem join20 (b:Book)(ok:Bool)(last:Int)(i:Nat)(hm:ok=true→Yae (last+1)):LoopT PR glob 119 (k_55 [1,1,1,1,1,1,1,0,1,0,0,1,1,0,0,1,0]) (check_R20 b ok last i) .normal (check_RS20 b ok last i (ok&&Yab (b.turns.getD i 0) (last+1) b.days)):=by
 have h0:=Ycy (b.turns.getD i 0) (last+1) b.days
 cases ok with
 | false =>
  refine Yfm (check_R20_a b false last i) ?_ rfl
  repeat(first|exact trivial|refine⟨by first|assumption|omega|rfl,?_⟩)
 | true =>
  have hm:=hm rfl
  refine Yfm (check_R20_b b true last i) ?_ rfl
  repeat(first|exact trivial|refine⟨by first|exact hm|exact h0|assumption|omega|rfl,?_⟩)
theorem join26 (b:Book)(ok:Bool)(i:Nat)(hl:b.secs.length≤9223372036854775807):LoopT PR glob 119 (k_55 [1,1,1,1,1,1,1,1,0,1,0,0,1,1,0,0,1]) (check_R26 b ok i) .normal (check_RS26 b ok i (ok&&Ya6 b (b.svs.getD i sv0))):=by
 have h0:=isSurvey_con b (b.svs.getD i sv0) hl
 cases ok with
 | false =>
  refine Yfm (check_R26_a b false i) ?_ rfl
  repeat(first|exact trivial|refine⟨by first|assumption|omega|rfl,?_⟩)
 | true =>
  refine Yfm (check_R26_b b true i) ?_ rfl
  repeat(first|exact trivial|refine⟨by first|exact h0|assumption|omega|rfl,?_⟩)
theorem loop0 (b:Book)(hl:b.secs.length≤9223372036854775807):LoopT PR glob 119 (k_55 [1,1,1,0,1]) (Yc1 b (ok0F b) 0 0) .normal (Yc1 b (ok1F b b.secs) (Yd4 b.secs) b.secs.length):=by
 rw[show k_55 [1,1,1,0,1]=.block 0 (.loop (k_55 [1,1,1,0,1,0,0])) from by kernel_rfl]
 refine LoopT.rounds (tt:=Yac types) (S:=fun i:{i:Nat // i≤b.secs.length}=>Yc1 b (ok1F b (b.secs.take i.1)) (Yd4 (b.secs.take i.1)) i.1) (fun i=>b.secs.length-i.1) ?_ ⟨0,Nat.zero_le _⟩
 intro⟨i,hi⟩
 by_cases hlt:i<b.secs.length
 ·have hf:=Yba (fun ok x=>ok&&Ydc x) b.secs (ok0F b) i sec0 hlt
  have hf2:=Yba (fun m (x:Sec)=>mx m x.w.hi) b.secs 0 i sec0 hlt
  refine WpL.path (G 119) (check_0_on b _ _ i (ok1F b (b.secs.take i)&&Ydc (b.secs.getD i sec0))) ⟨decide_eq_true (by omega),by omega,by omega,join6 b _ _ i,by omega,by simp only[Yae];omega,trivial⟩ ⟨⟨i+1,hlt⟩,?_,by dsimp only;omega⟩
  unfold ok1F Yd4 at *
  simp only
  rw[hf,hf2]
  rfl
 ·have:i=b.secs.length:=by omega
  subst this
  refine WpL.path (G 119) (check_0_end b _ _ _) ⟨decide_eq_false (Int.lt_irrefl _),trivial⟩ ⟨rfl,?_⟩
  rw[List.take_length]
  rfl
end Go.Di

namespace Go.Di
open Proofs
theorem Yat {n lo hi:Int}:Yab n lo hi=true↔lo≤n∧n≤hi:=by simp[Yab]
theorem isSpan_iff {s:Span}{hi wide:Int}:Ycw s hi wide=true↔0≤s.lo∧s.lo≤s.hi∧s.hi≤hi∧s.hi-s.lo≤wide:=by simp[Ycw,and_assoc]
structure Ok0 (b:Book):Prop where
 secs:1≤b.secs.length∧b.secs.length≤4
 days:1≤b.days∧b.days≤30
 rule:0≤b.rule∧b.rule≤200
 turns:b.turns.length≤4
 svs:b.svs.length≤8
theorem ok0_iff {b:Book}:ok0F b=true↔Ok0 b:=by
 simp only[ok0F,Bool.and_eq_true,Yat,decide_eq_true_eq]
 constructor
 ·rintro⟨⟨⟨⟨h1,h2⟩,h3⟩,h4⟩,h5⟩
  exact⟨by omega,h2,h3,h4,h5⟩
 ·rintro⟨h1,h2,h3,h4,h5⟩
  exact⟨⟨⟨⟨by omega,h2⟩,h3⟩,h4⟩,h5⟩
structure SecOk (x:Sec):Prop where
 t:0≤x.t.lo∧x.t.lo≤x.t.hi∧x.t.hi≤200∧x.t.hi-x.t.lo≤3
 w:0≤x.w.lo∧x.w.lo≤x.w.hi∧x.w.hi≤3∧x.w.hi-x.w.lo≤2
theorem secOk_iff {x:Sec}:Ydc x=true↔SecOk x:=by
 simp only[Ydc,Bool.and_eq_true,isSpan_iff]
 exact⟨fun h=>⟨h.1,h.2⟩,fun h=>⟨h.1,h.2⟩⟩
theorem ok1_eq (b:Book)(l:List Sec):ok1F b l=(ok0F b&&l.all Ydc):=Ygr _ _ _
theorem ok1_iff {b:Book}:ok1F b b.secs=true↔Ok0 b∧∀ x∈b.secs,SecOk x:=by
 rw[ok1_eq,Bool.and_eq_true,ok0_iff,List.all_eq_true]
 simp only[secOk_iff]
theorem mx_le {a b c:Int}(h1:a≤c)(h2:b≤c):mx a b≤c:=by unfold mx;split<;>omega
theorem mx_ge {a b:Int}:a≤mx a b∧b≤mx a b:=by unfold mx;split<;>omega
theorem most_in {l:List Sec}(h:∀ x∈l,SecOk x):0≤Yd4 l∧Yd4 l≤3:=by
 unfold Yd4
 suffices ∀(m:Int),0≤m∧m≤3→0≤l.foldl (fun m x=>mx m x.w.hi) m∧l.foldl (fun m x=>mx m x.w.hi) m≤3 from this 0 (by omega)
 induction l with
 | nil=>exact fun m h=>h
 | cons x l ih =>
  intro m hm
  simp only[List.foldl_cons]
  have hx:=(h x (by simp)).w
  refine ih (fun y hy=>h y (by simp[hy])) _ ⟨?_,mx_le hm.2 hx.2.2.1⟩
  have:=mx_ge (a:=m) (b:=x.w.hi)
  omega
theorem most_days {b:Book}(h:ok1F b b.secs=true):Yae (Yd4 b.secs*b.days):=by
 obtain⟨h0,h1⟩:=ok1_iff.1 h
 have hm:=most_in h1
 have hd:=h0.days
 have:0≤Yd4 b.secs*b.days∧Yd4 b.secs*b.days≤3*30:=⟨Int.mul_nonneg hm.1 (by omega),Int.le_trans (Int.mul_le_mul_of_nonneg_right hm.2 (by omega)) (by omega)⟩
 simp only[Yae]
 omega
theorem ok2_eq (b:Book)(l:List Sec):ok2F b l=(ok1F b b.secs&&l.all fun x=>decide (x.t.lo≥Yd4 b.secs*b.days)):=Ygr _ _ _
theorem loop2 (b:Book)(hl:b.secs.length≤9223372036854775807):LoopT PR glob 119 (k_55 [1,1,1,1,1,0,1]) (Ydk b (ok1F b b.secs) (Yd4 b.secs) 0) .normal (Ydk b (ok2F b b.secs) (Yd4 b.secs) b.secs.length):=by
 rw[show k_55 [1,1,1,1,1,0,1]=.block 2 (.loop (k_55 [1,1,1,1,1,0,1,0,0])) from by kernel_rfl]
 refine LoopT.rounds (tt:=Yac types) (S:=fun i:{i:Nat // i≤b.secs.length}=>Ydk b (ok2F b (b.secs.take i.1)) (Yd4 b.secs) i.1) (fun i=>b.secs.length-i.1) ?_ ⟨0,Nat.zero_le _⟩
 intro⟨i,hi⟩
 by_cases hlt:i<b.secs.length
 ·have hf:=Yba (fun ok (x:Sec)=>ok&&decide (x.t.lo≥Yd4 b.secs*b.days)) b.secs (ok1F b b.secs) i sec0 hlt
  have hj:=join14 b (ok2F b (b.secs.take i)) (Yd4 b.secs) i (fun h=>by
   rw[ok2_eq,Bool.and_eq_true]at h
   exact most_days h.1)
  refine WpL.path (G 119) (check_2_on b _ _ i (ok2F b (b.secs.take i)&&decide ((b.secs.getD i sec0).t.lo≥Yd4 b.secs*b.days))) ⟨decide_eq_true (by omega),by omega,by omega,hj,by simp only[Yae];omega,trivial⟩ ⟨⟨i+1,hlt⟩,?_,by dsimp only;omega⟩
  unfold ok2F at *
  simp only
  rw[hf]
  rfl
 ·have:i=b.secs.length:=by omega
  subst this
  refine WpL.path (G 119) (check_2_end b _ _ _) ⟨decide_eq_false (Int.lt_irrefl _),trivial⟩ ⟨rfl,?_⟩
  rw[List.take_length]
  rfl
theorem turn_in {days:Int}(hd:days≤30):∀(l:List Int) (p:Bool×Int),(p.1=true→0≤p.2∧p.2≤30)→(l.foldl (Ydn days) p).1=true→0≤(l.foldl (Ydn days) p).2∧(l.foldl (Ydn days) p).2≤30
 | [],p,h,hp=>h hp
 | t::l,p,h,hp=>by
  simp only[List.foldl_cons]at hp ⊢
  refine turn_in hd l _ (fun hq=>?_) hp
  simp only[Ydn,Bool.and_eq_true,Yat]at hq ⊢
  have:=h hq.1
  omega
theorem ok3_one {days:Int}:∀(l:List Int) (p:Bool×Int),(l.foldl (Ydn days) p).1=true→p.1=true
 | [],p,h=>h
 | t::l,p,h=>by
  have:=ok3_one l _ h
  simp only[Ydn,Bool.and_eq_true]at this
  exact this.1
theorem last_in {b:Book}{l:List Int}(h:(ok3F b l).1=true):Yae ((ok3F b l).2+1):=by
 have h2:=ok3_one l _ h
 simp only at h2
 rw[ok2_eq,Bool.and_eq_true]at h2
 have h0:=(ok1_iff.1 h2.1).1
 have:=turn_in (days:=b.days) (by have:=h0.days;omega) l (ok2F b b.secs,0) (fun _=>by simp) h
 unfold ok3F
 simp only[Yae]
 omega
theorem loop4 (b:Book)(hl:b.turns.length≤9223372036854775807):LoopT PR glob 119 (k_55 [1,1,1,1,1,1,1,0,1]) (Ydj b (ok2F b b.secs) 0 0) .normal (Ydj b (ok3F b b.turns).1 (ok3F b b.turns).2 b.turns.length):=by
 rw[show k_55 [1,1,1,1,1,1,1,0,1]=.block 4 (.loop (k_55 [1,1,1,1,1,1,1,0,1,0,0])) from by kernel_rfl]
 refine LoopT.rounds (tt:=Yac types) (S:=fun i:{i:Nat // i≤b.turns.length}=>Ydj b (ok3F b (b.turns.take i.1)).1 (ok3F b (b.turns.take i.1)).2 i.1) (fun i=>b.turns.length-i.1) ?_ ⟨0,Nat.zero_le _⟩
 intro⟨i,hi⟩
 by_cases hlt:i<b.turns.length
 ·have hf:=Yba (Ydn b.days) b.turns (ok2F b b.secs,0) i 0 hlt
  have hj:=join20 b (ok3F b (b.turns.take i)).1 (ok3F b (b.turns.take i)).2 i (fun h=>last_in h)
  refine WpL.path (G 119) (check_4_on b _ _ i ((ok3F b (b.turns.take i)).1&&Yab (b.turns.getD i 0) ((ok3F b (b.turns.take i)).2+1) b.days)) ⟨decide_eq_true (by omega),by omega,by omega,hj,by simp only[Yae];omega,trivial⟩ ⟨⟨i+1,hlt⟩,?_,by dsimp only;omega⟩
  unfold ok3F at *
  simp only
  rw[hf]
  rfl
 ·have:i=b.turns.length:=by omega
  subst this
  refine WpL.path (G 119) (check_4_end b _ _ _) ⟨decide_eq_false (Int.lt_irrefl _),trivial⟩ ⟨rfl,?_⟩
  rw[List.take_length]
  rfl
theorem loop6 (b:Book)(hl:b.secs.length≤9223372036854775807)(hv:b.svs.length≤9223372036854775807):LoopT PR glob 119 (k_55 [1,1,1,1,1,1,1,1,0,1]) (Ydi b (ok3F b b.turns).1 0) .normal (Ydi b (ok4F b b.svs) b.svs.length):=by
 rw[show k_55 [1,1,1,1,1,1,1,1,0,1]=.block 6 (.loop (k_55 [1,1,1,1,1,1,1,1,0,1,0,0])) from by kernel_rfl]
 refine LoopT.rounds (tt:=Yac types) (S:=fun i:{i:Nat // i≤b.svs.length}=>Ydi b (ok4F b (b.svs.take i.1)) i.1) (fun i=>b.svs.length-i.1) ?_ ⟨0,Nat.zero_le _⟩
 intro⟨i,hi⟩
 by_cases hlt:i<b.svs.length
 ·have hf:=Yba (fun ok x=>ok&&Ya6 b x) b.svs (ok3F b b.turns).1 i sv0 hlt
  have hj:=join26 b (ok4F b (b.svs.take i)) i hl
  refine WpL.path (G 119) (check_6_on b _ i (ok4F b (b.svs.take i)&&Ya6 b (b.svs.getD i sv0))) ⟨decide_eq_true (by omega),by omega,by omega,hj,by simp only[Yae];omega,trivial⟩ ⟨⟨i+1,hlt⟩,?_,by dsimp only;omega⟩
  unfold ok4F at *
  simp only
  rw[hf]
  rfl
 ·have:i=b.svs.length:=by omega
  subst this
  refine WpL.path (G 119) (check_6_end b _ _) ⟨decide_eq_false (Int.lt_irrefl _),trivial⟩ ⟨rfl,?_⟩
  rw[List.take_length]
  rfl
theorem check_con (b:Book)(h1:b.secs.length≤9223372036854775807)(h2:b.turns.length≤9223372036854775807)(h3:b.svs.length≤9223372036854775807):Contract PR glob 55 [Yag b] (.int .i64 (Yah b)):=by
 unfold Yah Yd7
 cases hk:ok1F b b.secs with
 | false =>
  refine Yaa (G 119) check_fn (check_bad1 b (ok0F b) (ok1F b b.secs) true true true (Yd4 b.secs) 0) ⟨join1 b,loop0 b h1,by rw[hk];rfl,trivial⟩
 | true =>
  cases hv:ok4F b b.svs with
  | false =>
   refine Yaa (G 119) check_fn (check_bad2 b (ok0F b) (ok1F b b.secs) (ok2F b b.secs) (ok3F b b.turns).1 (ok4F b b.svs) (Yd4 b.secs) (ok3F b b.turns).2) ⟨join1 b,loop0 b h1,by rw[hk];rfl,loop2 b h1,loop4 b h2,loop6 b h1 h3,by rw[hv];rfl,trivial⟩
  | true =>
   refine Yaa (G 119) check_fn (check_good b (ok0F b) (ok1F b b.secs) (ok2F b b.secs) (ok3F b b.turns).1 (ok4F b b.svs) (Yd4 b.secs) (ok3F b b.turns).2) ⟨join1 b,loop0 b h1,by rw[hk];rfl,loop2 b h1,loop4 b h2,loop6 b h1 h3,by rw[hv];rfl,trivial⟩
end Go.Di

