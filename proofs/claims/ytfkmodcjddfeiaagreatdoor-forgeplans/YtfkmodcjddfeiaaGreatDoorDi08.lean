/- Part 8: contracts are proved. No condition. -/
import Derived.Test.YtfkmodcjddfeiaaGreatDoorDi07
set_option linter.unusedVariables false
set_option linter.unusedSimpArgs false
namespace Go.Di
open Proofs
noncomputable abbrev Yvt (p:List Nat):Code:=Code.at p (body Proofs.Tryz.f142)
noncomputable abbrev k_55 (p:List Nat):Code:=Code.at p (body Proofs.Tryz.f55)
theorem Yw4:FnOk PR (MP 15) 88 (body Tryz.f88) [.tmp 6]:=by refine⟨Tryz.f88,?_,?_,?_,?_,?_⟩<;>kernel_rfl
theorem Ymi:FnOk PR (MP 32) 89 (body Tryz.f89) [.tmp 6]:=by refine⟨Tryz.f89,?_,?_,?_,?_,?_⟩<;>kernel_rfl
theorem Yza:FnOk PR (MP 11) 120 (body Tryz.f120) [.tmp 4]:=by refine⟨Tryz.f120,?_,?_,?_,?_,?_⟩<;>kernel_rfl
theorem Xan:FnOk PR (MP 9) 121 (body Tryz.f121) [.tmp 4]:=by refine⟨Tryz.f121,?_,?_,?_,?_,?_⟩<;>kernel_rfl
theorem Yik:FnOk PR (MP 25) 90 (body Tryz.f90) [.tmp 4]:=by refine⟨Tryz.f90,?_,?_,?_,?_,?_⟩<;>kernel_rfl
theorem Zhd:FnOk PR (MP 19) 142 (body Tryz.f142) [.tmp 4]:=by refine⟨Tryz.f142,?_,?_,?_,?_,?_⟩<;>kernel_rfl
theorem Ywn:FnOk PR (MP 119) 55 (body Tryz.f55) [.tmp 2]:=by refine⟨Tryz.f55,?_,?_,?_,?_,?_⟩<;>kernel_rfl
theorem Zfe:FnOk PR (MP 9) 130 (body Tryz.f130) [.tmp 4]:=by refine⟨Tryz.f130,?_,?_,?_,?_,?_⟩<;>kernel_rfl
def Yft (xs:LI)(v:Int)(i:Nat):KV :=
 [(.tmp 0,.d (D.z E.int xs)),
  (.tmp 1,.d (D.I v)),
  (.tmp 7,.d (D.I (((List.length xs:Nat):Int)))),
  (.tmp 8,.d (.I i))]
def Ypl:List Key:=[.tmp 0,.tmp 1,.tmp 7,.tmp 8]
def Ykq (b:Book)  : KV :=
 [(.tmp 1,.d (D.ptr 1 0)),
  (.box 1,.bz (Yal b))]
def Yrx:List Key:=[.tmp 1,.box 1]
def Yj1:List Key:=[.tmp 1,.tmp 3,.box 1]
def Ygp (b:Book)  (ok:Bool):KV :=
 [(.tmp 1,.d (D.ptr 1 0)),
  (.tmp 3,.d (.bool ok)),
  (.box 1,.bz (Yal b))]
def Yde (b:Book)(ok:Bool)(most:Int)(i:Nat):KV :=
 [(.tmp 1,.d (D.ptr 1 0)),
  (.tmp 3,.d (.bool ok)),
  (.tmp 4,.d (.I most)),
  (.tmp 41,.d (D.z E.sec (Book.secs b))),
  (.tmp 42,.d (D.I (((List.length (Book.secs b):Nat):Int)))),
  (.tmp 43,.d (.I i)),
  (.box 1,.bz (Yal b))]
def Ym3:List Key:=[.tmp 1,.tmp 3,.tmp 4,.tmp 41,.tmp 42,.tmp 43,.box 1]
def Ypt (b:Book)(ok:Bool)(most:Int)(i:Nat):KV :=
 [(.tmp 1,.d (D.ptr 1 0)),
  (.tmp 3,.d (.bool ok)),
  (.tmp 4,.d (.I most)),
  (.tmp 6,.d (D.ptr 6 0)),
  (.tmp 41,.d (D.z E.sec (Book.secs b))),
  (.tmp 42,.d (D.I (((List.length (Book.secs b):Nat):Int)))),
  (.tmp 43,.d (.I i)),
  (.box 1,.bz (Yal b)),
  (.box 6,.bx (some ⟨false,E.enc .sec (b.secs.getD i sec0)⟩))]
def Zvs:List Key:=[.tmp 1,.tmp 3,.tmp 4,.tmp 6,.tmp 41,.tmp 42,.tmp 43,.box 1,.box 6]
def Yrw:List Key:=[.tmp 1,.tmp 3,.tmp 4,.tmp 6,.tmp 41,.tmp 42,.tmp 43,.box 1,.box 6]
def Yrv (b:Book)(ok:Bool)(most:Int)(i:Nat)(ok2:Bool):KV :=
 [(.tmp 1,.d (D.ptr 1 0)),
  (.tmp 3,.d (.bool ok2)),
  (.tmp 4,.d (.I most)),
  (.tmp 6,.d (D.ptr 6 0)),
  (.tmp 41,.d (D.z E.sec (Book.secs b))),
  (.tmp 42,.d (D.I (((List.length (Book.secs b):Nat):Int)))),
  (.tmp 43,.d (.I i)),
  (.box 1,.bz (Yal b)),
  (.box 6,.bx (some ⟨false,E.enc .sec (b.secs.getD i sec0)⟩))]
def Ydv (b:Book)(ok:Bool)(most:Int)(i:Nat):KV :=
 [(.tmp 1,.d (D.ptr 1 0)),
  (.tmp 3,.d (.bool ok)),
  (.tmp 4,.d (.I most)),
  (.tmp 67,.d (D.z E.sec (Book.secs b))),
  (.tmp 68,.d (D.I (((List.length (Book.secs b):Nat):Int)))),
  (.tmp 69,.d (.I i)),
  (.box 1,.bz (Yal b))]
def Ym2:List Key:=[.tmp 1,.tmp 3,.tmp 4,.tmp 67,.tmp 68,.tmp 69,.box 1]
def Yr0 (b:Book)(ok:Bool)(most:Int)(i:Nat):KV :=
 [(.tmp 1,.d (D.ptr 1 0)),
  (.tmp 3,.d (.bool ok)),
  (.tmp 4,.d (.I most)),
  (.tmp 8,.d (D.ptr 8 0)),
  (.tmp 67,.d (D.z E.sec (Book.secs b))),
  (.tmp 68,.d (D.I (((List.length (Book.secs b):Nat):Int)))),
  (.tmp 69,.d (.I i)),
  (.box 1,.bz (Yal b)),
  (.box 8,.bx (some ⟨false,E.enc .sec (b.secs.getD i sec0)⟩))]
def Zns:List Key:=[.tmp 1,.tmp 3,.tmp 4,.tmp 8,.tmp 67,.tmp 68,.tmp 69,.box 1,.box 8]
def Yug:List Key:=[.tmp 1,.tmp 3,.tmp 4,.tmp 67,.tmp 68,.tmp 69,.box 1]
def Yog (b:Book)(ok:Bool)(most:Int)(i:Nat)(ok2:Bool):KV :=
 [(.tmp 1,.d (D.ptr 1 0)),
  (.tmp 3,.d (.bool ok2)),
  (.tmp 4,.d (.I most)),
  (.tmp 67,.d (D.z E.sec (Book.secs b))),
  (.tmp 68,.d (D.I (((List.length (Book.secs b):Nat):Int)))),
  (.tmp 69,.d (.I i)),
  (.box 1,.bz (Yal b))]
def Ydu (b:Book)(ok:Bool)(last:Int)(i:Nat):KV :=
 [(.tmp 1,.d (D.ptr 1 0)),
  (.tmp 3,.d (.bool ok)),
  (.tmp 9,.d (.I last)),
  (.tmp 86,.d (D.z E.int (Book.turns b))),
  (.tmp 87,.d (D.I (((List.length (Book.turns b):Nat):Int)))),
  (.tmp 88,.d (.I i)),
  (.box 1,.bz (Yal b))]
def Ym1:List Key:=[.tmp 1,.tmp 3,.tmp 9,.tmp 86,.tmp 87,.tmp 88,.box 1]
def Yrz (b:Book)(ok:Bool)(last:Int)(i:Nat):KV :=
 [(.tmp 1,.d (D.ptr 1 0)),
  (.tmp 3,.d (.bool ok)),
  (.tmp 9,.d (.I last)),
  (.tmp 11,.d (.I (b.turns.getD i 0))),
  (.tmp 86,.d (D.z E.int (Book.turns b))),
  (.tmp 87,.d (D.I (((List.length (Book.turns b):Nat):Int)))),
  (.tmp 88,.d (.I i)),
  (.box 1,.bz (Yal b))]
def Znr:List Key:=[.tmp 1,.tmp 3,.tmp 9,.tmp 11,.tmp 86,.tmp 87,.tmp 88,.box 1]
def Yuf:List Key:=[.tmp 1,.tmp 3,.tmp 11,.tmp 86,.tmp 87,.tmp 88,.box 1]
def Yof (b:Book)(ok:Bool)(last:Int)(i:Nat)(ok2:Bool):KV :=
 [(.tmp 1,.d (D.ptr 1 0)),
  (.tmp 3,.d (.bool ok2)),
  (.tmp 11,.d (.I (b.turns.getD i 0))),
  (.tmp 86,.d (D.z E.int (Book.turns b))),
  (.tmp 87,.d (D.I (((List.length (Book.turns b):Nat):Int)))),
  (.tmp 88,.d (.I i)),
  (.box 1,.bz (Yal b))]
def Ydt (b:Book)(ok:Bool)(i:Nat):KV :=
 [(.tmp 1,.d (D.ptr 1 0)),
  (.tmp 3,.d (.bool ok)),
  (.tmp 104,.d (D.z E.sv (Book.svs b))),
  (.tmp 105,.d (D.I (((List.length (Book.svs b):Nat):Int)))),
  (.tmp 106,.d (.I i)),
  (.box 1,.bz (Yal b))]
def Ym0:List Key:=[.tmp 1,.tmp 3,.tmp 104,.tmp 105,.tmp 106,.box 1]
def Yry (b:Book)(ok:Bool)(i:Nat):KV :=
 [(.tmp 1,.d (D.ptr 1 0)),
  (.tmp 3,.d (.bool ok)),
  (.tmp 13,.d (D.ptr 13 0)),
  (.tmp 104,.d (D.z E.sv (Book.svs b))),
  (.tmp 105,.d (D.I (((List.length (Book.svs b):Nat):Int)))),
  (.tmp 106,.d (.I i)),
  (.box 1,.bz (Yal b)),
  (.box 13,.bx (some ⟨false,E.enc .sv (b.svs.getD i sv0)⟩))]
def Znq:List Key:=[.tmp 1,.tmp 3,.tmp 13,.tmp 104,.tmp 105,.tmp 106,.box 1,.box 13]
def Yue:List Key:=[.tmp 1,.tmp 3,.tmp 104,.tmp 105,.tmp 106,.box 1]
def Yoe (b:Book)(ok:Bool)(i:Nat)(ok2:Bool):KV :=
 [(.tmp 1,.d (D.ptr 1 0)),
  (.tmp 3,.d (.bool ok2)),
  (.tmp 104,.d (D.z E.sv (Book.svs b))),
  (.tmp 105,.d (D.I (((List.length (Book.svs b):Nat):Int)))),
  (.tmp 106,.d (.I i)),
  (.box 1,.bz (Yal b))]
theorem Yt0 (xs:LI)(v:Int)(i:Nat) :runK (MP 19) [(9,true),(16,false)] [] [] (Yvt [1,0,1,0,0]) (Yft xs v i) Ypl =some ([decide ((i:Int)<((xs.length:Nat):Int))=true,(0:Int)<=(i:Int)/\(i:Int)<((xs.length:Nat):Int),0+1<=1,(v==List.getD xs (Int.toNat ((i:Int))) (E.z E.int))=false,Yae ((i:Int)+(1:Int))],Ex.normal,[(.tmp 0,.d (D.z E.int xs)),(.tmp 1,.d (D.I v)),(.tmp 7,.d (D.I (((xs.length:Nat):Int)))),(.tmp 8,.d (D.I ((i:Int)+(1:Int))))]):=by kernel_rfl
theorem Zd5 (xs:LI)(v:Int)(i:Nat) :runK (MP 19) [(9,true),(16,true)] [] [] (Yvt [1,0,1,0,0]) (Yft xs v i) [.tmp 0,.tmp 1,.tmp 7,.tmp 8,.tmp 4] =some ([decide ((i:Int)<((xs.length:Nat):Int))=true,(0:Int)<=(i:Int)/\(i:Int)<((xs.length:Nat):Int),0+1<=1,(v==List.getD xs (Int.toNat ((i:Int))) (E.z E.int))=true],Ex.ret,[(.tmp 0,.d (D.z E.int xs)),(.tmp 1,.d (D.I v)),(.tmp 7,.d (D.I (((xs.length:Nat):Int)))),(.tmp 8,.d (D.I ((i:Int)))),(.tmp 4,.d (D.I ((i:Int))))]):=by kernel_rfl
theorem Zd6 (xs:LI)(v:Int)(i:Nat) :runK (MP 19) [(9,false)] [] [] (Yvt [1,0,1,0,0]) (Yft xs v i) Ypl =some ([decide ((i:Int)<((xs.length:Nat):Int))=false],Ex.exit 0,[(.tmp 0,.d (D.z E.int xs)),(.tmp 1,.d (D.I v)),(.tmp 7,.d (D.I (((xs.length:Nat):Int)))),(.tmp 8,.d (D.I ((i:Int))))]):=by kernel_rfl
theorem Zn0 (b:Book) :runK (MP 119) [(18,false)] [(17,.bool (Yad b.secs.length 1 4)),(21,.bool (Yad b.days 1 30)),(26,.bool (Yad b.rule 0 200))] [] (k_55 [1,0]) (Ykq b ) Yj1 =let Z0:Prop:=Yad (((b.secs.length:Nat):Int)) (1:Int) (4:Int)=false;some ([Contract PR glob 88 [D.I (((b.secs.length:Nat):Int)),D.I 1,D.I 4] (D.bool (Yad (((b.secs.length:Nat):Int)) (1:Int) (4:Int))),Z0,Z0,Z0,Z0],Ex.normal,[(.tmp 1,.d (D.ptr 1 0)),(.tmp 3,.d (D.bool false)),(.box 1,.bz (Yal b))]):=by kernel_rfl
theorem Znz (b:Book) :runK (MP 119) [(18,true),(23,false)] [(17,.bool (Yad b.secs.length 1 4)),(21,.bool (Yad b.days 1 30)),(26,.bool (Yad b.rule 0 200))] [] (k_55 [1,0]) (Ykq b ) Yj1 =let Z0:Prop:=Yad (((b.secs.length:Nat):Int)) (1:Int) (4:Int)=true;let Z1:Prop:=Yad b.days (1:Int) (30:Int)=false;some ([Contract PR glob 88 [D.I (((b.secs.length:Nat):Int)),D.I 1,D.I 4] (D.bool (Yad (((b.secs.length:Nat):Int)) (1:Int) (4:Int))),Z0,Z0,Z0,Contract PR glob 88 [D.I b.days,D.I 1,D.I 30] (D.bool (Yad b.days (1:Int) (30:Int))),Z0,Z1,Z1,Z1,Z1],Ex.normal,[(.tmp 1,.d (D.ptr 1 0)),(.tmp 3,.d (D.bool false)),(.box 1,.bz (Yal b))]):=by kernel_rfl
theorem Zny (b:Book) :runK (MP 119) [(18,true),(23,true),(28,false)] [(17,.bool (Yad b.secs.length 1 4)),(21,.bool (Yad b.days 1 30)),(26,.bool (Yad b.rule 0 200))] [] (k_55 [1,0]) (Ykq b ) Yj1 =let Z0:Prop:=Yad (((b.secs.length:Nat):Int)) (1:Int) (4:Int)=true;let Z1:Prop:=Yad b.rule (0:Int) (200:Int)=false;let Z2:Prop:=Yad b.days (1:Int) (30:Int)=true;some ([Contract PR glob 88 [D.I (((b.secs.length:Nat):Int)),D.I 1,D.I 4] (D.bool (Yad (((b.secs.length:Nat):Int)) (1:Int) (4:Int))),Z0,Z0,Z0,Contract PR glob 88 [D.I b.days,D.I 1,D.I 30] (D.bool (Yad b.days (1:Int) (30:Int))),Z0,Z2,Z2,Z2,Contract PR glob 88 [D.I b.rule,D.I 0,D.I 200] (D.bool (Yad b.rule (0:Int) (200:Int))),Z2,Z1,Z1,Z1,Z1,Z1],Ex.normal,[(.tmp 1,.d (D.ptr 1 0)),(.tmp 3,.d (D.bool false)),(.box 1,.bz (Yal b))]):=by kernel_rfl
theorem Znx (b:Book) :runK (MP 119) [(18,true),(23,true),(28,true),(34,false)] [(17,.bool (Yad b.secs.length 1 4)),(21,.bool (Yad b.days 1 30)),(26,.bool (Yad b.rule 0 200))] [] (k_55 [1,0]) (Ykq b ) Yj1 =let Z0:Prop:=decide (((b.turns.length:Nat):Int)<=(4:Int))=false;let Z1:Prop:=Yad (((b.secs.length:Nat):Int)) (1:Int) (4:Int)=true;let Z2:Prop:=Yad b.rule (0:Int) (200:Int)=true;let Z3:Prop:=Yad b.days (1:Int) (30:Int)=true;some ([Contract PR glob 88 [D.I (((b.secs.length:Nat):Int)),D.I 1,D.I 4] (D.bool (Yad (((b.secs.length:Nat):Int)) (1:Int) (4:Int))),Z1,Z1,Z1,Contract PR glob 88 [D.I b.days,D.I 1,D.I 30] (D.bool (Yad b.days (1:Int) (30:Int))),Z1,Z3,Z3,Z3,Contract PR glob 88 [D.I b.rule,D.I 0,D.I 200] (D.bool (Yad b.rule (0:Int) (200:Int))),Z3,Z2,Z2,Z2,Z2,Z2,Z0,Z0,Z0,Z0,Z0],Ex.normal,[(.tmp 1,.d (D.ptr 1 0)),(.tmp 3,.d (D.bool false)),(.box 1,.bz (Yal b))]):=by kernel_rfl
theorem Znw (b:Book) :runK (MP 119) [(18,true),(23,true),(28,true),(34,true)] [(17,.bool (Yad b.secs.length 1 4)),(21,.bool (Yad b.days 1 30)),(26,.bool (Yad b.rule 0 200))] [] (k_55 [1,0]) (Ykq b ) Yj1 =let Z0:Prop:=decide (((b.turns.length:Nat):Int)<=(4:Int))=true;let Z1:Prop:=Yad (((b.secs.length:Nat):Int)) (1:Int) (4:Int)=true;let Z2:Prop:=Yad b.rule (0:Int) (200:Int)=true;let Z3:Prop:=Yad b.days (1:Int) (30:Int)=true;some ([Contract PR glob 88 [D.I (((b.secs.length:Nat):Int)),D.I 1,D.I 4] (D.bool (Yad (((b.secs.length:Nat):Int)) (1:Int) (4:Int))),Z1,Z1,Z1,Contract PR glob 88 [D.I b.days,D.I 1,D.I 30] (D.bool (Yad b.days (1:Int) (30:Int))),Z1,Z3,Z3,Z3,Contract PR glob 88 [D.I b.rule,D.I 0,D.I 200] (D.bool (Yad b.rule (0:Int) (200:Int))),Z3,Z2,Z2,Z2,Z2,Z2,Z0,Z0,Z0,Z0,Z0],Ex.normal,[(.tmp 1,.d (D.ptr 1 0)),(.tmp 3,.d (D.bool (decide (((b.svs.length:Nat):Int)<=(8:Int))))),(.box 1,.bz (Yal b))]):=by kernel_rfl
theorem Znv (b:Book)(ok:Bool)(most:Int)(i:Nat) :runK (MP 119) [(48,false)] [(51,.bool (Yc6 (b.secs.getD i sec0).t 200 3)),(56,.bool (Yc6 (b.secs.getD i sec0).w 3 2))] [] (k_55 [1,1,1,0,1,0,0,1,1,0,0,1,0]) (Ypt b ok most i) Yrw =let Z0:=List.getD b.secs i sec0;some ([ok=false,ok=false,ok=false,ok=false],Ex.normal,[(.tmp 1,.d (D.ptr 1 0)),(.tmp 3,.d (D.bool false)),(.tmp 4,.d (D.I most)),(.tmp 6,.d (D.ptr 6 0)),(.tmp 41,.d (D.z E.sec b.secs)),(.tmp 42,.d (D.I (((b.secs.length:Nat):Int)))),(.tmp 43,.d (D.I ((i:Int)))),(.box 1,.bz (Yal b)),(.box 6,.bz [D.I (Span.lo (Sec.t Z0)),D.I (Span.hi (Sec.t Z0)),D.I (Span.lo (Sec.w Z0)),D.I (Span.hi (Sec.w Z0))])]):=by kernel_rfl
theorem Znu (b:Book)(ok:Bool)(most:Int)(i:Nat) :runK (MP 119) [(48,true),(53,false)] [(51,.bool (Yc6 (b.secs.getD i sec0).t 200 3)),(56,.bool (Yc6 (b.secs.getD i sec0).w 3 2))] [] (k_55 [1,1,1,0,1,0,0,1,1,0,0,1,0]) (Ypt b ok most i) Yrw =let Z0:=Sec.t (List.getD b.secs i sec0);let Z1:Prop:=Yc6 Z0 (200:Int) (3:Int)=false;let Z2:=Sec.w (List.getD b.secs i sec0);some ([ok=true,ok=true,0+0+2<=4,ok=true,Contract PR glob 89 [D.agg [D.I (Span.lo Z0),D.I (Span.hi Z0)],D.I 200,D.I 3] (D.bool (Yc6 Z0 (200:Int) (3:Int))),ok=true,Z1,Z1,Z1,Z1],Ex.normal,[(.tmp 1,.d (D.ptr 1 0)),(.tmp 3,.d (D.bool false)),(.tmp 4,.d (D.I most)),(.tmp 6,.d (D.ptr 6 0)),(.tmp 41,.d (D.z E.sec b.secs)),(.tmp 42,.d (D.I (((b.secs.length:Nat):Int)))),(.tmp 43,.d (D.I ((i:Int)))),(.box 1,.bz (Yal b)),(.box 6,.bz [D.I (Span.lo Z0),D.I (Span.hi Z0),D.I (Span.lo Z2),D.I (Span.hi Z2)])]):=by kernel_rfl
theorem Znt (b:Book)(ok:Bool)(most:Int)(i:Nat) :runK (MP 119) [(48,true),(53,true)] [(51,.bool (Yc6 (b.secs.getD i sec0).t 200 3)),(56,.bool (Yc6 (b.secs.getD i sec0).w 3 2))] [] (k_55 [1,1,1,0,1,0,0,1,1,0,0,1,0]) (Ypt b ok most i) Yrw =let Z0:=List.getD b.secs i sec0;let Z1:Prop:=Yc6 (Sec.t Z0) (200:Int) (3:Int)=true;let Z2:=D.bool (Yc6 (Sec.w Z0) (3:Int) (2:Int));some ([ok=true,ok=true,0+0+2<=4,ok=true,Contract PR glob 89 [D.agg [D.I (Span.lo (Sec.t Z0)),D.I (Span.hi (Sec.t Z0))],D.I 200,D.I 3] (D.bool (Yc6 (Sec.t Z0) (200:Int) (3:Int))),ok=true,Z1,Z1,0+2+2<=4,Z1,Contract PR glob 89 [D.agg [D.I (Span.lo (Sec.w Z0)),D.I (Span.hi (Sec.w Z0))],D.I 3,D.I 2] Z2,Z1],Ex.normal,[(.tmp 1,.d (D.ptr 1 0)),(.tmp 3,.d Z2),(.tmp 4,.d (D.I most)),(.tmp 6,.d (D.ptr 6 0)),(.tmp 41,.d (D.z E.sec b.secs)),(.tmp 42,.d (D.I (((b.secs.length:Nat):Int)))),(.tmp 43,.d (D.I ((i:Int)))),(.box 1,.bz (Yal b)),(.box 6,.bz [D.I (Span.lo (Sec.t Z0)),D.I (Span.hi (Sec.t Z0)),D.I (Span.lo (Sec.w Z0)),D.I (Span.hi (Sec.w Z0))])]):=by kernel_rfl
theorem Zfm (b:Book)(ok:Bool)(most:Int)(i:Nat) :runK (MP 119) [(74,false)] [] [] (k_55 [1,1,1,1,1,0,1,0,0,1,1,0,0,1]) (Yr0 b ok most i) Yug =some ([ok=false,ok=false,ok=false,ok=false,ok=false,ok=false,ok=false,ok=false,ok=false],Ex.normal,[(.tmp 1,.d (D.ptr 1 0)),(.tmp 3,.d (D.bool false)),(.tmp 4,.d (D.I most)),(.tmp 67,.d (D.z E.sec b.secs)),(.tmp 68,.d (D.I (((b.secs.length:Nat):Int)))),(.tmp 69,.d (D.I ((i:Int)))),(.box 1,.bz (Yal b))]):=by kernel_rfl
theorem Zfl (b:Book)(ok:Bool)(most:Int)(i:Nat) :runK (MP 119) [(74,true)] [] [] (k_55 [1,1,1,1,1,0,1,0,0,1,1,0,0,1]) (Yr0 b ok most i) Yug =some ([ok=true,ok=true,ok=true,0+0+0+1<=4,ok=true,ok=true,ok=true,ok=true,Yae (most*b.days),ok=true,ok=true],Ex.normal,[(.tmp 1,.d (D.ptr 1 0)),(.tmp 3,.d (D.bool (decide (Span.lo (Sec.t (List.getD b.secs i sec0))>=most*b.days)))),(.tmp 4,.d (D.I most)),(.tmp 67,.d (D.z E.sec b.secs)),(.tmp 68,.d (D.I (((b.secs.length:Nat):Int)))),(.tmp 69,.d (D.I ((i:Int)))),(.box 1,.bz (Yal b))]):=by kernel_rfl
theorem Zfk (b:Book)(ok:Bool)(last:Int)(i:Nat) :runK (MP 119) [(93,false)] [] [] (k_55 [1,1,1,1,1,1,1,0,1,0,0,1,1,0,0,1,0]) (Yrz b ok last i) Yuf =some ([ok=false,ok=false,ok=false,ok=false,ok=false,ok=false,ok=false],Ex.normal,[(.tmp 1,.d (D.ptr 1 0)),(.tmp 3,.d (D.bool false)),(.tmp 11,.d (D.I (List.getD b.turns i (0:Int)))),(.tmp 86,.d (D.z E.int b.turns)),(.tmp 87,.d (D.I (((b.turns.length:Nat):Int)))),(.tmp 88,.d (D.I ((i:Int)))),(.box 1,.bz (Yal b))]):=by kernel_rfl
theorem Zfj (b:Book)(ok:Bool)(last:Int)(i:Nat) :runK (MP 119) [(93,true)] [(99,.bool (Yad (b.turns.getD i 0) (last+1) b.days))] [] (k_55 [1,1,1,1,1,1,1,0,1,0,0,1,1,0,0,1,0]) (Yrz b ok last i) Yuf =let Z0:=List.getD b.turns i (0:Int);let Z1:=D.bool (Yad Z0 (last+(1:Int)) b.days);some ([ok=true,ok=true,ok=true,Yae (last+(1:Int)),ok=true,ok=true,ok=true,Contract PR glob 88 [D.I Z0,D.I (last+(1:Int)),D.I b.days] Z1,ok=true],Ex.normal,[(.tmp 1,.d (D.ptr 1 0)),(.tmp 3,.d Z1),(.tmp 11,.d (D.I Z0)),(.tmp 86,.d (D.z E.int b.turns)),(.tmp 87,.d (D.I (((b.turns.length:Nat):Int)))),(.tmp 88,.d (D.I ((i:Int)))),(.box 1,.bz (Yal b))]):=by kernel_rfl
theorem Zfi (b:Book)(ok:Bool)(i:Nat) :runK (MP 119) [(111,false)] [] [] (k_55 [1,1,1,1,1,1,1,1,0,1,0,0,1,1,0,0,1]) (Yry b ok i) Yue =some ([ok=false,ok=false,ok=false,ok=false],Ex.normal,[(.tmp 1,.d (D.ptr 1 0)),(.tmp 3,.d (D.bool false)),(.tmp 104,.d (D.z E.sv b.svs)),(.tmp 105,.d (D.I (((b.svs.length:Nat):Int)))),(.tmp 106,.d (D.I ((i:Int)))),(.box 1,.bz (Yal b))]):=by kernel_rfl
theorem Zfh (b:Book)(ok:Bool)(i:Nat) :runK (MP 119) [(111,true)] [(114,.bool (Ybh b (b.svs.getD i sv0)))] [] (k_55 [1,1,1,1,1,1,1,1,0,1,0,0,1,1,0,0,1]) (Yry b ok i) Yue =let Z0:=List.getD b.svs i sv0;some ([ok=true,ok=true,0+4<=4,ok=true,Contract PR glob 90 [D.agg (Yal b),D.agg [D.I (Sv.s Z0),D.I (Sv.d Z0),D.I (Sv.r Z0),D.I (Sv.e Z0)]] (D.bool (Ybh b Z0)),ok=true],Ex.normal,[(.tmp 1,.d (D.ptr 1 0)),(.tmp 3,.d (D.bool (Ybh b Z0))),(.tmp 104,.d (D.z E.sv b.svs)),(.tmp 105,.d (D.I (((b.svs.length:Nat):Int)))),(.tmp 106,.d (D.I ((i:Int)))),(.box 1,.bz (Yal b))]):=by kernel_rfl
theorem Zn4 (b:Book)(ok:Bool)(most:Int)(i:Nat)(ok2:Bool) :runK (MP 119) [(44,true)] [] [(1006,(Zvs,(.normal,Yrv b ok most i ok2)))] (k_55 [1,1,1,0,1,0,0]) (Yde b ok most i) Ym3 =let Z0:=List.getD b.secs (Int.toNat ((i:Int))) (E.z E.sec);let Z1:=D.I (((b.secs.length:Nat):Int));some ([decide ((i:Int)<((b.secs.length:Nat):Int))=true,(0:Int)<=(i:Int)/\(i:Int)<((b.secs.length:Nat):Int),0+4<=4,LoopT PR glob 119 (k_55 [1,1,1,0,1,0,0,1,1,0,0,1,0]) [(.tmp 1,.d (D.ptr 1 0)),(.tmp 3,.d (D.bool ok)),(.tmp 4,.d (D.I most)),(.tmp 6,.d (D.ptr 6 0)),(.tmp 41,.d (D.z E.sec b.secs)),(.tmp 42,.d Z1),(.tmp 43,.d (D.I ((i:Int)))),(.box 1,.bz (Yal b)),(.box 6,.bz [D.I (Span.lo (Sec.t Z0)),D.I (Span.hi (Sec.t Z0)),D.I (Span.lo (Sec.w Z0)),D.I (Span.hi (Sec.w Z0))])] Ex.normal (Yrv b ok most i ok2),0+2+1+1<=4,Yae ((i:Int)+(1:Int))],Ex.normal,[(.tmp 1,.d (D.ptr 1 0)),(.tmp 3,.d (D.bool ok2)),(.tmp 4,.d (D.I (List.foldl mx most [Span.hi (Sec.w (List.getD b.secs i sec0))]))),(.tmp 41,.d (D.z E.sec b.secs)),(.tmp 42,.d Z1),(.tmp 43,.d (D.I ((i:Int)+(1:Int)))),(.box 1,.bz (Yal b))]):=by kernel_rfl
theorem Zfq (b:Book)(ok:Bool)(most:Int)(i:Nat) :runK (MP 119) [(44,false)] [] [] (k_55 [1,1,1,0,1,0,0]) (Yde b ok most i) Ym3 =some ([decide ((i:Int)<((b.secs.length:Nat):Int))=false],Ex.exit 0,[(.tmp 1,.d (D.ptr 1 0)),(.tmp 3,.d (D.bool ok)),(.tmp 4,.d (D.I most)),(.tmp 41,.d (D.z E.sec b.secs)),(.tmp 42,.d (D.I (((b.secs.length:Nat):Int)))),(.tmp 43,.d (D.I ((i:Int)))),(.box 1,.bz (Yal b))]):=by kernel_rfl
theorem Zn3 (b:Book)(ok:Bool)(most:Int)(i:Nat)(ok2:Bool) :runK (MP 119) [(70,true)] [] [(1014,(Zns,(.normal,Yog b ok most i ok2)))] (k_55 [1,1,1,1,1,0,1,0,0]) (Ydv b ok most i) Ym2 =let Z0:=List.getD b.secs (Int.toNat ((i:Int))) (E.z E.sec);let Z1:=D.I (((b.secs.length:Nat):Int));some ([decide ((i:Int)<((b.secs.length:Nat):Int))=true,(0:Int)<=(i:Int)/\(i:Int)<((b.secs.length:Nat):Int),0+4<=4,LoopT PR glob 119 (k_55 [1,1,1,1,1,0,1,0,0,1,1,0,0,1]) [(.tmp 1,.d (D.ptr 1 0)),(.tmp 3,.d (D.bool ok)),(.tmp 4,.d (D.I most)),(.tmp 8,.d (D.ptr 8 0)),(.tmp 67,.d (D.z E.sec b.secs)),(.tmp 68,.d Z1),(.tmp 69,.d (D.I ((i:Int)))),(.box 1,.bz (Yal b)),(.box 8,.bz [D.I (Span.lo (Sec.t Z0)),D.I (Span.hi (Sec.t Z0)),D.I (Span.lo (Sec.w Z0)),D.I (Span.hi (Sec.w Z0))])] Ex.normal (Yog b ok most i ok2),Yae ((i:Int)+(1:Int))],Ex.normal,[(.tmp 1,.d (D.ptr 1 0)),(.tmp 3,.d (D.bool ok2)),(.tmp 4,.d (D.I most)),(.tmp 67,.d (D.z E.sec b.secs)),(.tmp 68,.d Z1),(.tmp 69,.d (D.I ((i:Int)+(1:Int)))),(.box 1,.bz (Yal b))]):=by kernel_rfl
theorem Zfp (b:Book)(ok:Bool)(most:Int)(i:Nat) :runK (MP 119) [(70,false)] [] [] (k_55 [1,1,1,1,1,0,1,0,0]) (Ydv b ok most i) Ym2 =some ([decide ((i:Int)<((b.secs.length:Nat):Int))=false],Ex.exit 2,[(.tmp 1,.d (D.ptr 1 0)),(.tmp 3,.d (D.bool ok)),(.tmp 4,.d (D.I most)),(.tmp 67,.d (D.z E.sec b.secs)),(.tmp 68,.d (D.I (((b.secs.length:Nat):Int)))),(.tmp 69,.d (D.I ((i:Int)))),(.box 1,.bz (Yal b))]):=by kernel_rfl
theorem Zn2 (b:Book)(ok:Bool)(last:Int)(i:Nat)(ok2:Bool) :runK (MP 119) [(89,true)] [] [(1020,(Znr,(.normal,Yof b ok last i ok2)))] (k_55 [1,1,1,1,1,1,1,0,1,0,0]) (Ydu b ok last i) Ym1 =let Z0:=D.I (((b.turns.length:Nat):Int));let Z1:=D.z E.int b.turns;some ([decide ((i:Int)<((b.turns.length:Nat):Int))=true,(0:Int)<=(i:Int)/\(i:Int)<((b.turns.length:Nat):Int),0+1<=1,LoopT PR glob 119 (k_55 [1,1,1,1,1,1,1,0,1,0,0,1,1,0,0,1,0]) [(.tmp 1,.d (D.ptr 1 0)),(.tmp 3,.d (D.bool ok)),(.tmp 9,.d (D.I last)),(.tmp 11,.d (D.I (List.getD b.turns (Int.toNat ((i:Int))) (E.z E.int)))),(.tmp 86,.d Z1),(.tmp 87,.d Z0),(.tmp 88,.d (D.I ((i:Int)))),(.box 1,.bz (Yal b))] Ex.normal (Yof b ok last i ok2),Yae ((i:Int)+(1:Int))],Ex.normal,[(.tmp 1,.d (D.ptr 1 0)),(.tmp 3,.d (D.bool ok2)),(.tmp 9,.d (D.I (List.getD b.turns i (0:Int)))),(.tmp 86,.d Z1),(.tmp 87,.d Z0),(.tmp 88,.d (D.I ((i:Int)+(1:Int)))),(.box 1,.bz (Yal b))]):=by kernel_rfl
theorem Zfo (b:Book)(ok:Bool)(last:Int)(i:Nat) :runK (MP 119) [(89,false)] [] [] (k_55 [1,1,1,1,1,1,1,0,1,0,0]) (Ydu b ok last i) Ym1 =some ([decide ((i:Int)<((b.turns.length:Nat):Int))=false],Ex.exit 4,[(.tmp 1,.d (D.ptr 1 0)),(.tmp 3,.d (D.bool ok)),(.tmp 9,.d (D.I last)),(.tmp 86,.d (D.z E.int b.turns)),(.tmp 87,.d (D.I (((b.turns.length:Nat):Int)))),(.tmp 88,.d (D.I ((i:Int)))),(.box 1,.bz (Yal b))]):=by kernel_rfl
theorem Zn1 (b:Book)(ok:Bool)(i:Nat)(ok2:Bool) :runK (MP 119) [(107,true)] [] [(1026,(Znq,(.normal,Yoe b ok i ok2)))] (k_55 [1,1,1,1,1,1,1,1,0,1,0,0]) (Ydt b ok i) Ym0 =let Z0:=List.getD b.svs (Int.toNat ((i:Int))) (E.z E.sv);let Z1:=D.I (((b.svs.length:Nat):Int));some ([decide ((i:Int)<((b.svs.length:Nat):Int))=true,(0:Int)<=(i:Int)/\(i:Int)<((b.svs.length:Nat):Int),0+4<=4,LoopT PR glob 119 (k_55 [1,1,1,1,1,1,1,1,0,1,0,0,1,1,0,0,1]) [(.tmp 1,.d (D.ptr 1 0)),(.tmp 3,.d (D.bool ok)),(.tmp 13,.d (D.ptr 13 0)),(.tmp 104,.d (D.z E.sv b.svs)),(.tmp 105,.d Z1),(.tmp 106,.d (D.I ((i:Int)))),(.box 1,.bz (Yal b)),(.box 13,.bz [D.I (Sv.s Z0),D.I (Sv.d Z0),D.I (Sv.r Z0),D.I (Sv.e Z0)])] Ex.normal (Yoe b ok i ok2),Yae ((i:Int)+(1:Int))],Ex.normal,[(.tmp 1,.d (D.ptr 1 0)),(.tmp 3,.d (D.bool ok2)),(.tmp 104,.d (D.z E.sv b.svs)),(.tmp 105,.d Z1),(.tmp 106,.d (D.I ((i:Int)+(1:Int)))),(.box 1,.bz (Yal b))]):=by kernel_rfl
theorem Zfn (b:Book)(ok:Bool)(i:Nat) :runK (MP 119) [(107,false)] [] [] (k_55 [1,1,1,1,1,1,1,1,0,1,0,0]) (Ydt b ok i) Ym0 =some ([decide ((i:Int)<((b.svs.length:Nat):Int))=false],Ex.exit 6,[(.tmp 1,.d (D.ptr 1 0)),(.tmp 3,.d (D.bool ok)),(.tmp 104,.d (D.z E.sv b.svs)),(.tmp 105,.d (D.I (((b.svs.length:Nat):Int)))),(.tmp 106,.d (D.I ((i:Int)))),(.box 1,.bz (Yal b))]):=by kernel_rfl
def Yos (xs:LI)(v:Int)(i:Nat)  : KV :=
 [(.tmp 0,.d (D.z E.int xs)),(.tmp 1,.d (D.I v)),(.tmp 7,.d (D.I (((List.length xs:Nat):Int)))),(.tmp 8,.d (D.I ((i:Int)))),(.tmp 4,.d (D.I ((i:Int))))]
theorem Zol (n lo hi:Int) :Yaj (MP 15) [(10,false)] [] [] (body Tryz.f88) [.tmp 6] [.I n,.I lo,.I hi] =let Z0:Prop:=decide (lo<=n)=false;some ([Z0,Z0,Z0,Z0],D.bool false):=by kernel_rfl
theorem Zie (n lo hi:Int) :Yaj (MP 15) [(10,true)] [] [] (body Tryz.f88) [.tmp 6] [.I n,.I lo,.I hi] =let Z0:Prop:=decide (lo<=n)=true;some ([Z0,Z0,Z0,Z0],D.bool (decide (n<=hi))):=by kernel_rfl
theorem Xal (s:Span)(hi wide:Int) :Yaj (MP 32) [(10,false)] [] [] (body Tryz.f89) [.tmp 6] [spD s,.I hi,.I wide] =let Z0:Prop:=decide ((0:Int)<=s.lo)=false;some ([0+0+1<=2,Z0,Z0,Z0,Z0,Z0,Z0],D.bool false):=by kernel_rfl
theorem Xak (s:Span)(hi wide:Int) :Yaj (MP 32) [(10,true),(17,false)] [] [] (body Tryz.f89) [.tmp 6] [spD s,.I hi,.I wide] =let Z0:Prop:=decide ((0:Int)<=s.lo)=true;let Z1:Prop:=decide (s.lo<=s.hi)=false;some ([0+0+1<=2,Z0,Z0,0+0+1<=2,Z0,Z0,0+1+1<=2,Z0,Z0,Z1,Z1,Z1,Z1,Z1],D.bool false):=by kernel_rfl
theorem Xaj (s:Span)(hi wide:Int) :Yaj (MP 32) [(10,true),(17,true),(23,false)] [] [] (body Tryz.f89) [.tmp 6] [spD s,.I hi,.I wide] =let Z0:Prop:=decide (s.hi<=hi)=false;let Z1:Prop:=decide ((0:Int)<=s.lo)=true;let Z2:Prop:=decide (s.lo<=s.hi)=true;some ([0+0+1<=2,Z1,Z1,0+0+1<=2,Z1,Z1,0+1+1<=2,Z1,Z1,Z2,Z2,0+1+1<=2,Z2,Z2,Z2,Z0,Z0,Z0,Z0,Z0,Z0,Z0,Z0],D.bool false):=by kernel_rfl
theorem Xai (s:Span)(hi wide:Int) :Yaj (MP 32) [(10,true),(17,true),(23,true)] [] [] (body Tryz.f89) [.tmp 6] [spD s,.I hi,.I wide] =let Z0:Prop:=decide (s.hi<=hi)=true;let Z1:Prop:=decide ((0:Int)<=s.lo)=true;let Z2:Prop:=decide (s.lo<=s.hi)=true;some ([0+0+1<=2,Z1,Z1,0+0+1<=2,Z1,Z1,0+1+1<=2,Z1,Z1,Z2,Z2,0+1+1<=2,Z2,Z2,Z2,Z0,Z0,0+1+1<=2,Z0,Z0,0+0+1<=2,Z0,Yae (s.hi-s.lo),Z0,Z0,Z0],D.bool (decide (s.hi-s.lo<=wide))):=by kernel_rfl
theorem Yvv (b:Book)(n:Int) :Yaj (MP 11) [] [(10,.bool (Yaf b n))] [] (body Tryz.f120) [.tmp 4] [Yah b,.I n] =some ([Yae (((b.secs.length:Nat):Int)-(1:Int)),Contract PR glob 88 [D.I n,D.I 0,D.I (((b.secs.length:Nat):Int)-(1:Int))] (D.bool (Yaf b n))],D.bool (Yaf b n)):=by kernel_rfl
theorem Ztw (b:Book)(n:Int) :Yaj (MP 9) [] [(8,.bool (Ya3 b n))] [] (body Tryz.f121) [.tmp 4] [Yah b,.I n] =some ([Contract PR glob 88 [D.I n,D.I 0,D.I b.days] (D.bool (Ya3 b n))],D.bool (Ya3 b n)):=by kernel_rfl
theorem Zlz (b:Book)(x:Sv) :Yaj (MP 25) [(9,false)] [(8,.bool (Yaf b x.s)),(13,.bool (Ya3 b x.d)),(18,.bool (Yad x.r 0 200)),(23,.bool (Yad x.e 0 5))] [] (body Tryz.f90) [.tmp 4] [Yah b,svD x] =let Z0:Prop:=Yaf b x.s=false;some ([0+0+1<=4,Contract PR glob 120 [D.agg (Yal b),D.I x.s] (D.bool (Yaf b x.s)),Z0,Z0,Z0,Z0,Z0],D.bool false):=by kernel_rfl
theorem Zly (b:Book)(x:Sv) :Yaj (MP 25) [(9,true),(15,false)] [(8,.bool (Yaf b x.s)),(13,.bool (Ya3 b x.d)),(18,.bool (Yad x.r 0 200)),(23,.bool (Yad x.e 0 5))] [] (body Tryz.f90) [.tmp 4] [Yah b,svD x] =let Z0:Prop:=Yaf b x.s=true;let Z1:Prop:=Ya3 b x.d=false;some ([0+0+1<=4,Contract PR glob 120 [D.agg (Yal b),D.I x.s] (D.bool (Yaf b x.s)),Z0,Z0,Z0,0+1+1<=4,Z0,Contract PR glob 121 [D.agg (Yal b),D.I x.d] (D.bool (Ya3 b x.d)),Z0,Z1,Z1,Z1,Z1],D.bool false):=by kernel_rfl
theorem Zlx (b:Book)(x:Sv) :Yaj (MP 25) [(9,true),(15,true),(20,false)] [(8,.bool (Yaf b x.s)),(13,.bool (Ya3 b x.d)),(18,.bool (Yad x.r 0 200)),(23,.bool (Yad x.e 0 5))] [] (body Tryz.f90) [.tmp 4] [Yah b,svD x] =let Z0:Prop:=Yad x.r (0:Int) (200:Int)=false;let Z1:Prop:=Yaf b x.s=true;let Z2:Prop:=Ya3 b x.d=true;some ([0+0+1<=4,Contract PR glob 120 [D.agg (Yal b),D.I x.s] (D.bool (Yaf b x.s)),Z1,Z1,Z1,0+1+1<=4,Z1,Contract PR glob 121 [D.agg (Yal b),D.I x.d] (D.bool (Ya3 b x.d)),Z1,Z2,Z2,0+2+1<=4,Z2,Contract PR glob 88 [D.I x.r,D.I 0,D.I 200] (D.bool (Yad x.r (0:Int) (200:Int))),Z2,Z0,Z0,Z0,Z0],D.bool false):=by kernel_rfl
theorem Zlw (b:Book)(x:Sv) :Yaj (MP 25) [(9,true),(15,true),(20,true)] [(8,.bool (Yaf b x.s)),(13,.bool (Ya3 b x.d)),(18,.bool (Yad x.r 0 200)),(23,.bool (Yad x.e 0 5))] [] (body Tryz.f90) [.tmp 4] [Yah b,svD x] =let Z0:Prop:=Yad x.r (0:Int) (200:Int)=true;let Z1:Prop:=Yaf b x.s=true;let Z2:Prop:=Ya3 b x.d=true;some ([0+0+1<=4,Contract PR glob 120 [D.agg (Yal b),D.I x.s] (D.bool (Yaf b x.s)),Z1,Z1,Z1,0+1+1<=4,Z1,Contract PR glob 121 [D.agg (Yal b),D.I x.d] (D.bool (Ya3 b x.d)),Z1,Z2,Z2,0+2+1<=4,Z2,Contract PR glob 88 [D.I x.r,D.I 0,D.I 200] (D.bool (Yad x.r (0:Int) (200:Int))),Z2,Z0,Z0,0+3+1<=4,Z0,Contract PR glob 88 [D.I x.e,D.I 0,D.I 5] (D.bool (Yad x.e (0:Int) (5:Int))),Z0],D.bool (Yad x.e (0:Int) (5:Int))):=by kernel_rfl
theorem Zt3 (xs:LI)(v:Int) :Yaj (MP 19) [] [] [(0,(Ypl,(.normal,Yft xs v xs.length)))] (body Tryz.f142) [.tmp 4] [.z .int xs,.I v] =some ([LoopT PR glob 19 (Yvt [1,0,1]) (Yft xs v 0) Ex.normal (Yft xs v xs.length)],D.I (-(1:Int))):=by kernel_rfl
theorem Zt2 (xs:LI)(v:Int)(i:Nat) :Yaj (MP 19) [] [] [(0,(Ypl,(.ret,Yos xs v i)))] (body Tryz.f142) [.tmp 4] [.z .int xs,.I v] =some ([LoopT PR glob 19 (Yvt [1,0,1]) (Yft xs v 0) Ex.ret (Yos xs v i)],D.I ((i:Int))):=by kernel_rfl
theorem Znp (b:Book)(ok0 ok1 ok2 ok3 ok4:Bool)(most last:Int) :Yaj (MP 119) [(65,true)] [] [(1001,(Yrx,(.normal,Ygp b ok0))),(0,(Ym3,(.normal,Yde b ok1 most b.secs.length))),(2,(Ym2,(.normal,Ydv b ok2 most b.secs.length))),(4,(Ym1,(.normal,Ydu b ok3 last b.turns.length))),(6,(Ym0,(.normal,Ydt b ok4 b.svs.length)))] (body Tryz.f55) [.tmp 2] [Yah b] =some ([LoopT PR glob 119 (k_55 [1,0]) [(.tmp 1,.d (D.ptr 1 0)),(.box 1,.bz (Yal b))] Ex.normal (Ygp b ok0),LoopT PR glob 119 (k_55 [1,1,1,0,1]) (Yde b ok0 0 0) Ex.normal (Yde b ok1 most b.secs.length),(!ok1)=true],D.I 10):=by kernel_rfl
theorem Zno (b:Book)(ok0 ok1 ok2 ok3 ok4:Bool)(most last:Int) :Yaj (MP 119) [(65,false),(118,true)] [] [(1001,(Yrx,(.normal,Ygp b ok0))),(0,(Ym3,(.normal,Yde b ok1 most b.secs.length))),(2,(Ym2,(.normal,Ydv b ok2 most b.secs.length))),(4,(Ym1,(.normal,Ydu b ok3 last b.turns.length))),(6,(Ym0,(.normal,Ydt b ok4 b.svs.length)))] (body Tryz.f55) [.tmp 2] [Yah b] =some ([LoopT PR glob 119 (k_55 [1,0]) [(.tmp 1,.d (D.ptr 1 0)),(.box 1,.bz (Yal b))] Ex.normal (Ygp b ok0),LoopT PR glob 119 (k_55 [1,1,1,0,1]) (Yde b ok0 0 0) Ex.normal (Yde b ok1 most b.secs.length),(!ok1)=false,LoopT PR glob 119 (k_55 [1,1,1,1,1,0,1]) (Ydv b ok1 most 0) Ex.normal (Ydv b ok2 most b.secs.length),LoopT PR glob 119 (k_55 [1,1,1,1,1,1,1,0,1]) (Ydu b ok2 0 0) Ex.normal (Ydu b ok3 last b.turns.length),LoopT PR glob 119 (k_55 [1,1,1,1,1,1,1,1,0,1]) (Ydt b ok3 0) Ex.normal (Ydt b ok4 b.svs.length),(!ok4)=true],D.I 10):=by kernel_rfl
theorem Znn (b:Book)(ok0 ok1 ok2 ok3 ok4:Bool)(most last:Int) :Yaj (MP 119) [(65,false),(118,false)] [] [(1001,(Yrx,(.normal,Ygp b ok0))),(0,(Ym3,(.normal,Yde b ok1 most b.secs.length))),(2,(Ym2,(.normal,Ydv b ok2 most b.secs.length))),(4,(Ym1,(.normal,Ydu b ok3 last b.turns.length))),(6,(Ym0,(.normal,Ydt b ok4 b.svs.length)))] (body Tryz.f55) [.tmp 2] [Yah b] =some ([LoopT PR glob 119 (k_55 [1,0]) [(.tmp 1,.d (D.ptr 1 0)),(.box 1,.bz (Yal b))] Ex.normal (Ygp b ok0),LoopT PR glob 119 (k_55 [1,1,1,0,1]) (Yde b ok0 0 0) Ex.normal (Yde b ok1 most b.secs.length),(!ok1)=false,LoopT PR glob 119 (k_55 [1,1,1,1,1,0,1]) (Ydv b ok1 most 0) Ex.normal (Ydv b ok2 most b.secs.length),LoopT PR glob 119 (k_55 [1,1,1,1,1,1,1,0,1]) (Ydu b ok2 0 0) Ex.normal (Ydu b ok3 last b.turns.length),LoopT PR glob 119 (k_55 [1,1,1,1,1,1,1,1,0,1]) (Ydt b ok3 0) Ex.normal (Ydt b ok4 b.svs.length),(!ok4)=false],D.I 0):=by kernel_rfl
theorem Zah (xs:LI)(v:Int)(n:Int) :Yaj (MP 9) [] [(7,.I n)] [] (body Tryz.f130) [.tmp 4] [.z .int xs,.I v] =some ([Contract PR glob 142 [D.z E.int xs,D.I v] (D.I n)],D.bool (decide (n>=(0:Int)))):=by kernel_rfl
theorem Ygj {n:Nat}{dec:List (Nat×Bool)}{orc:List (Nat×D)}{lorc:Lorc}{c:Code}{L L' L2:KV}{ks:List Key}{ps:List Prop}
  (h:Di.runK (MP n) dec orc lorc c L ks=some (ps,.normal,L')) (hp:allP ps) (he:L'=L2):LoopT PR glob n c L .normal L2 :=
 LoopT.of (tt:=Yac types) (WpL.path (G n) h hp ⟨rfl,he⟩)
theorem Ydb (n lo hi:Int):Contract PR glob 88 [.I n,.I lo,.I hi] (.bool (Yad n lo hi)):=by
 unfold Yad
 cases h:decide (lo<=n) with
 | false =>
  refine Yaa (G 15) Yw4 (Zol n lo hi) ?_
  repeat(first|exact trivial|refine⟨by first|assumption|omega|rfl,?_⟩)
 | true =>
  refine Yaa (G 15) Yw4 (Zie n lo hi) ?_
  repeat(first|exact trivial|refine⟨by first|assumption|omega|rfl,?_⟩)
theorem Ytz (s:Span)(hi wide:Int)(hh:hi<=1000000):Contract PR glob 89 [spD s,.I hi,.I wide] (.bool (Yc6 s hi wide)):=by
 unfold Yc6
 cases h1:decide (0<=s.lo) with
 | false =>
  refine Yaa (G 32) Ymi (Xal s hi wide) ?_
  repeat(first|exact trivial|refine⟨by first|assumption|omega|rfl,?_⟩)
 | true =>
  cases h2:decide (s.lo<=s.hi) with
  | false =>
   refine Yaa (G 32) Ymi (Xak s hi wide) ?_
   repeat(first|exact trivial|refine⟨by first|assumption|omega|rfl,?_⟩)
  | true =>
   cases h3:decide (s.hi<=hi) with
   | false =>
    refine Yaa (G 32) Ymi (Xaj s hi wide) ?_
    repeat(first|exact trivial|refine⟨by first|assumption|omega|rfl,?_⟩)
   | true =>
    have e1:=of_decide_eq_true h1;have e2:=of_decide_eq_true h2;have e3:=of_decide_eq_true h3;refine Yaa (G 32) Ymi (Xai s hi wide) ?_
    repeat(first|exact trivial|refine⟨by first|assumption|omega|rfl|(simp only[Yae];omega),?_⟩)
theorem Yil (b:Book)(n:Int)(hl:b.secs.length<=9223372036854775807):Contract PR glob 120 [Yah b,.I n] (.bool (Yaf b n)):=by
 refine Yaa (G 11) Yza (Yvv b n) ?_
 repeat(first|exact trivial|refine⟨by first|assumption|omega|(simp only[Yae];omega)|exact Ydb _ _ _,?_⟩)
theorem Yze (b:Book)(n:Int):Contract PR glob 121 [Yah b,.I n] (.bool (Ya3 b n)):=by
 refine Yaa (G 9) Xan (Ztw b n) ?_
 repeat(first|exact trivial|refine⟨by first|assumption|omega|(simp only[Yae];omega)|exact Ydb _ _ _,?_⟩)
theorem Yy9 (b:Book)(x:Sv)(hl:b.secs.length<=9223372036854775807):Contract PR glob 90 [Yah b,svD x] (.bool (Ybh b x)):=by
 unfold Ybh;have hs:=Yil b x.s hl;have hd:=Yze b x.d
 cases h1:Yaf b x.s with
 | false =>
  rw[h1]at hs
  have:=Zlz b x
  rw[h1]at this;refine Yaa (G 25) Yik this ?_
  repeat(first|exact trivial|refine⟨by first|exact Ydb _ _ _|assumption|omega|rfl,?_⟩)
 | true =>
  rw[h1]at hs
  cases h2:Ya3 b x.d with
  | false =>
   rw[h2]at hd
   have:=Zly b x
   rw[h1,h2]at this;refine Yaa (G 25) Yik this ?_
   repeat(first|exact trivial|refine⟨by first|exact Ydb _ _ _|assumption|omega|rfl,?_⟩)
  | true =>
   rw[h2]at hd
   cases h3:Yad x.r 0 200 with
   | false =>
    have:=Zlx b x
    rw[h1,h2]at this;refine Yaa (G 25) Yik this ?_
    repeat(first|exact trivial|refine⟨by first|exact Ydb _ _ _|assumption|omega|rfl,?_⟩)
   | true =>
    have:=Zlw b x
    rw[h1,h2]at this;refine Yaa (G 25) Yik this ?_
    repeat(first|exact trivial|refine⟨by first|exact Ydb _ _ _|assumption|omega|rfl,?_⟩)
def Yd6 (v:Int):LI->Nat->Int
 | [],_=>-1
 | x::l,i=>if v==x then i else Yd6 v l (i+1)
theorem Ymk (v:Int):∀(l:LI) (i:Nat),(Yd6 v l i>=0↔v∈l)
 | [],i=>by simp[Yd6]
 | x::l,i=>by
  simp only[Yd6]
  by_cases h:v=x
  ·subst h;simp
  ·have hb:(v==x)=false:=by simpa using h
   rw[hb];simp only[Bool.false_eq_true,if_false];rw[Ymk v l (i+1)];simp[h]
theorem Zae {α:Type}(l:List α)(i:Nat)(d:α)(h:i<l.length):l.drop i=l.getD i d::l.drop (i+1):=by
 rw[List.drop_eq_getElem_cons h,List.getD_eq_getElem?_getD,List.getElem?_eq_getElem h];rfl
theorem Yot (v:Int)(xs:LI):(∃ i:Nat,i<xs.length/\Yd6 v xs 0=i/\(v==xs.getD i 0)=true/\∀ j,j<i->(v==xs.getD j 0)=false)\/(Yd6 v xs 0=-1/\∀ j,j<xs.length->(v==xs.getD j 0)=false):=by
 have key:∀(k i:Nat),xs.length-i=k->i<=xs.length->(∀ j,j<i->(v==xs.getD j 0)=false)->(∃ i':Nat,i'<xs.length/\Yd6 v (xs.drop i) i=i'/\(v==xs.getD i' 0)=true/\∀ j,j<i'->(v==xs.getD j 0)=false)\/(Yd6 v (xs.drop i) i=-1/\∀ j,j<xs.length->(v==xs.getD j 0)=false):=by
  intro k
  induction k with
  | zero =>
   intro i hk hi hj
   have:i=xs.length:=by omega
   subst this
   right
   rw[List.drop_length];exact⟨rfl,hj⟩
  | succ k ih =>
   intro i hk hi hj;have hlt:i<xs.length:=by omega
   rw[Zae xs i 0 hlt];simp only[Yd6]
   cases hq:(v==xs.getD i 0) with
   | true =>
    left
    exact⟨i,hlt,by simp,hq,hj⟩
   | false =>
    simp only[Bool.false_eq_true,if_false];refine ih (i+1) (by omega) (by omega) (fun j hji=>?_)
    by_cases e:j=i
    ·subst e;exact hq
    ·exact hj j (by omega)
 simpa using key xs.length 0 (by omega) (by omega) (fun j hj=>by omega)
theorem Zt4 (xs:LI)(v:Int)(hl:xs.length<=9223372036854775807):Contract PR glob 142 [.z .int xs,.I v] (.I (Yd6 v xs 0)):=by
 rcases Yot v xs with ⟨i0,h1,h2,h3,h4⟩|⟨h2,h4⟩
 ·rw[h2];refine Yaa (G 19) Zhd (Zt2 xs v i0) ⟨?_,trivial⟩;rw[show Yvt [1,0,1]=.block 0 (.loop (Yvt [1,0,1,0,0])) from by kernel_rfl];refine LoopT.rounds (tt:=Yac types) (S:=fun i:{i:Nat // i<=i0}=>Yft xs v i.1) (fun i=>i0-i.1) ?_ ⟨0,Nat.zero_le _⟩;intro⟨i,hi⟩
  by_cases hlt:i<i0
  ·refine WpL.path (G 19) (Yt0 xs v i) ?_ ⟨⟨i+1,hlt⟩,rfl,by dsimp only;omega⟩;exact⟨decide_eq_true (by omega),by omega,by omega,h4 i hlt,by simp only[Yae];omega,trivial⟩
  ·have:i=i0:=by omega
   subst this;exact WpL.path (G 19) (Zd5 xs v i) ⟨decide_eq_true (by omega),by omega,by omega,h3,trivial⟩ ⟨rfl,rfl⟩
 ·rw[h2];refine Yaa (G 19) Zhd (Zt3 xs v) ⟨?_,trivial⟩;rw[show Yvt [1,0,1]=.block 0 (.loop (Yvt [1,0,1,0,0])) from by kernel_rfl];refine LoopT.rounds (tt:=Yac types) (S:=fun i:{i:Nat // i<=xs.length}=>Yft xs v i.1) (fun i=>xs.length-i.1) ?_ ⟨0,Nat.zero_le _⟩;intro⟨i,hi⟩
  by_cases hlt:i<xs.length
  ·refine WpL.path (G 19) (Yt0 xs v i) ?_ ⟨⟨i+1,hlt⟩,rfl,by dsimp only;omega⟩;exact⟨decide_eq_true (by omega),by omega,by omega,h4 i hlt,by simp only[Yae];omega,trivial⟩
  ·have:i=xs.length:=by omega
   subst this;exact WpL.path (G 19) (Zd6 xs v _) ⟨decide_eq_false (Int.lt_irrefl _),trivial⟩ ⟨rfl,rfl⟩
theorem Zag (xs:LI)(v:Int)(hl:xs.length<=9223372036854775807):Contract PR glob 130 [.z .int xs,.I v] (.bool (decide (v∈xs))):=by
 have:=Yaa (G 9) Zfe (Zah xs v (Yd6 v xs 0)) ⟨Zt4 xs v hl,trivial⟩
 rw[show decide (v∈xs)=decide (Yd6 v xs 0>=0) from by simp only[Ymk]];exact this
def ok0F (b:Book):Bool:=Yad b.secs.length 1 4&&Yad b.days 1 30&&Yad b.rule 0 200&&decide (b.turns.length<=4)&&decide (b.svs.length<=8)
def Ydm (x:Sec):Bool:=Yc6 x.t 200 3&&Yc6 x.w 3 2
def Yej (l:List Sec):Int:=l.foldl (fun m x=>mx m x.w.hi) 0
def ok1F (b:Book)(l:List Sec):Bool:=l.foldl (fun ok x=>ok&&Ydm x) (ok0F b)
def ok2F (b:Book)(l:List Sec):Bool:=l.foldl (fun ok x=>ok&&decide (x.t.lo>=Yej b.secs*b.days)) (ok1F b b.secs)
def Ydz (days:Int)(p:Bool×Int)(t:Int):Bool×Int:=(p.1&&Yad t (p.2+1) days,t)
def ok3F (b:Book)(l:LI):Bool×Int:=l.foldl (Ydz b.days) (ok2F b b.secs,0)
def ok4F (b:Book)(l:List Sv):Bool:=l.foldl (fun ok x=>ok&&Ybh b x) (ok3F b b.turns).1
def Yen (b:Book):Bool:=ok1F b b.secs&&ok4F b b.svs
def Yai (b:Book):Int:=if Yen b then 0 else 10
theorem Yhw {α:Type}(f:α->Bool):∀(l:List α) (b:Bool),l.foldl (fun ok x=>ok&&f x) b=(b&&l.all f)
 | [],b=>by simp
 | x::l,b=>by
  simp only[List.foldl_cons,List.all_cons];rw[Yhw f l,Bool.and_assoc]
theorem Xfr (b:Book):LoopT PR glob 119 (k_55 [1,0]) (Ykq b) .normal (Ygp b (ok0F b)):=by
 have h0:=Ydb b.secs.length 1 4;have h1':=Ydb b.days 1 30;have h2':=Ydb b.rule 0 200;unfold ok0F
 cases h1:Yad b.secs.length 1 4 with
 | false =>
  refine Ygj (Zn0 b) ?_ rfl
  repeat(first|exact trivial|refine⟨by first|exact h0|assumption|omega,?_⟩)
 | true =>
  cases h2:Yad b.days 1 30 with
  | false =>
   refine Ygj (Znz b) ?_ rfl
   repeat(first|exact trivial|refine⟨by first|exact h0|exact h1'|assumption|omega,?_⟩)
  | true =>
   cases h3:Yad b.rule 0 200 with
   | false =>
    refine Ygj (Zny b) ?_ rfl
    repeat(first|exact trivial|refine⟨by first|exact h0|exact h1'|exact h2'|assumption|omega,?_⟩)
   | true =>
    by_cases h4:b.turns.length<=4
    ·have h4':decide ((b.turns.length:Int)<=4)=true:=decide_eq_true (by omega);rw[show decide (b.turns.length<=4)=true from decide_eq_true h4,show decide (b.svs.length<=8)=decide ((b.svs.length:Int)<=8) from by simp only[decide_eq_decide];omega];refine Ygj (Znw b) ?_ rfl
     repeat(first|exact trivial|refine⟨by first|exact h0|exact h1'|exact h2'|assumption|omega,?_⟩)
    ·have h4':decide ((b.turns.length:Int)<=4)=false:=decide_eq_false (by omega);rw[show decide (b.turns.length<=4)=false from decide_eq_false h4];refine Ygj (Znx b) ?_ rfl
     repeat(first|exact trivial|refine⟨by first|exact h0|exact h1'|exact h2'|assumption|omega,?_⟩)
theorem Xjq (b:Book)(ok:Bool)(most:Int)(i:Nat):LoopT PR glob 119 (k_55 [1,1,1,0,1,0,0,1,1,0,0,1,0]) (Ypt b ok most i) .normal (Yrv b ok most i (ok&&Ydm (b.secs.getD i sec0))):=by
 have h0:=Ytz (b.secs.getD i sec0).t 200 3 (by omega);have h1':=Ytz (b.secs.getD i sec0).w 3 2 (by omega);unfold Ydm
 cases ok with
 | false =>
  refine Ygj (Znv b false most i) ?_ rfl
  repeat(first|exact trivial|refine⟨by first|exact h0|exact h1'|assumption|omega|rfl,?_⟩)
 | true =>
  cases h1:Yc6 (b.secs.getD i sec0).t 200 3 with
  | false =>
   refine Ygj (Znu b true most i) ?_ rfl
   repeat(first|exact trivial|refine⟨by first|exact h0|exact h1'|assumption|omega|rfl,?_⟩)
  | true =>
   refine Ygj (Znt b true most i) ?_ rfl
   repeat(first|exact trivial|refine⟨by first|exact h0|exact h1'|assumption|omega|rfl,?_⟩)
theorem Xik (b:Book)(ok:Bool)(most:Int)(i:Nat)(hm:ok=true->Yae (most*b.days)):LoopT PR glob 119 (k_55 [1,1,1,1,1,0,1,0,0,1,1,0,0,1]) (Yr0 b ok most i) .normal (Yog b ok most i (ok&&decide ((b.secs.getD i sec0).t.lo>=most*b.days))):=by
 cases ok with
 | false =>
  refine Ygj (Zfm b false most i) ?_ rfl
  repeat(first|exact trivial|refine⟨by first|assumption|omega|rfl,?_⟩)
 | true =>
  have hm:=hm rfl;refine Ygj (Zfl b true most i) ?_ rfl
  repeat(first|exact trivial|refine⟨by first|exact hm|assumption|omega|rfl,?_⟩)
theorem Xij (b:Book)(ok:Bool)(last:Int)(i:Nat)(hm:ok=true->Yae (last+1)):LoopT PR glob 119 (k_55 [1,1,1,1,1,1,1,0,1,0,0,1,1,0,0,1,0]) (Yrz b ok last i) .normal (Yof b ok last i (ok&&Yad (b.turns.getD i 0) (last+1) b.days)):=by
 have h0:=Ydb (b.turns.getD i 0) (last+1) b.days
 cases ok with
 | false =>
  refine Ygj (Zfk b false last i) ?_ rfl
  repeat(first|exact trivial|refine⟨by first|assumption|omega|rfl,?_⟩)
 | true =>
  have hm:=hm rfl;refine Ygj (Zfj b true last i) ?_ rfl
  repeat(first|exact trivial|refine⟨by first|exact hm|exact h0|assumption|omega|rfl,?_⟩)
theorem Xii (b:Book)(ok:Bool)(i:Nat)(hl:b.secs.length<=9223372036854775807):LoopT PR glob 119 (k_55 [1,1,1,1,1,1,1,1,0,1,0,0,1,1,0,0,1]) (Yry b ok i) .normal (Yoe b ok i (ok&&Ybh b (b.svs.getD i sv0))):=by
 have h0:=Yy9 b (b.svs.getD i sv0) hl
 cases ok with
 | false =>
  refine Ygj (Zfi b false i) ?_ rfl
  repeat(first|exact trivial|refine⟨by first|assumption|omega|rfl,?_⟩)
 | true =>
  refine Ygj (Zfh b true i) ?_ rfl
  repeat(first|exact trivial|refine⟨by first|exact h0|assumption|omega|rfl,?_⟩)
theorem Xfd (b:Book)(hl:b.secs.length<=9223372036854775807):LoopT PR glob 119 (k_55 [1,1,1,0,1]) (Yde b (ok0F b) 0 0) .normal (Yde b (ok1F b b.secs) (Yej b.secs) b.secs.length):=by
 rw[show k_55 [1,1,1,0,1]=.block 0 (.loop (k_55 [1,1,1,0,1,0,0])) from by kernel_rfl];refine LoopT.rounds (tt:=Yac types) (S:=fun i:{i:Nat // i<=b.secs.length}=>Yde b (ok1F b (b.secs.take i.1)) (Yej (b.secs.take i.1)) i.1) (fun i=>b.secs.length-i.1) ?_ ⟨0,Nat.zero_le _⟩;intro⟨i,hi⟩
 by_cases hlt:i<b.secs.length
 ·have hf:=Ybm (fun ok x=>ok&&Ydm x) b.secs (ok0F b) i sec0 hlt;have hf2:=Ybm (fun m (x:Sec)=>mx m x.w.hi) b.secs 0 i sec0 hlt;refine WpL.path (G 119) (Zn4 b _ _ i (ok1F b (b.secs.take i)&&Ydm (b.secs.getD i sec0))) ⟨decide_eq_true (by omega),by omega,by omega,Xjq b _ _ i,by omega,by simp only[Yae];omega,trivial⟩ ⟨⟨i+1,hlt⟩,?_,by dsimp only;omega⟩;unfold ok1F Yej at *;simp only;rw[hf,hf2];rfl
 ·have:i=b.secs.length:=by omega
  subst this;refine WpL.path (G 119) (Zfq b _ _ _) ⟨decide_eq_false (Int.lt_irrefl _),trivial⟩ ⟨rfl,?_⟩;rw[List.take_length];rfl
theorem Ya2 {n lo hi:Int}:Yad n lo hi=true↔lo<=n/\n<=hi:=by simp[Yad]
theorem Zl0 {s:Span}{hi wide:Int}:Yc6 s hi wide=true↔0<=s.lo/\s.lo<=s.hi/\s.hi<=hi/\s.hi-s.lo<=wide:=by simp[Yc6,and_assoc]
structure Ok0 (b:Book):Prop where
 secs:1<=b.secs.length/\b.secs.length<=4
 days:1<=b.days/\b.days<=30
 rule:0<=b.rule/\b.rule<=200
 turns:b.turns.length<=4
 svs:b.svs.length<=8
theorem Xev {b:Book}:ok0F b=true↔Ok0 b:=by
 simp only[ok0F,Bool.and_eq_true,Ya2,decide_eq_true_eq]
 constructor
 ·rintro⟨⟨⟨⟨h1,h2⟩,h3⟩,h4⟩,h5⟩
  exact⟨by omega,h2,h3,h4,h5⟩
 ·rintro⟨h1,h2,h3,h4,h5⟩
  exact⟨⟨⟨⟨by omega,h2⟩,h3⟩,h4⟩,h5⟩
structure SecOk (x:Sec):Prop where
 t:0<=x.t.lo/\x.t.lo<=x.t.hi/\x.t.hi<=200/\x.t.hi-x.t.lo<=3
 w:0<=x.w.lo/\x.w.lo<=x.w.hi/\x.w.hi<=3/\x.w.hi-x.w.lo<=2
theorem Zp6 {x:Sec}:Ydm x=true↔SecOk x:=by
 simp only[Ydm,Bool.and_eq_true,Zl0];exact⟨fun h=>⟨h.1,h.2⟩,fun h=>⟨h.1,h.2⟩⟩
theorem Zs0 (b:Book)(l:List Sec):ok1F b l=(ok0F b&&l.all Ydm):=Yhw _ _ _
theorem Zdo {b:Book}:ok1F b b.secs=true↔Ok0 b/\∀ x∈b.secs,SecOk x:=by
 rw[Zs0,Bool.and_eq_true,Xev,List.all_eq_true];simp only[Zp6]
theorem Xjm {a b c:Int}(h1:a<=c)(h2:b<=c):mx a b<=c:=by unfold mx;split<;>omega
theorem Xh1 {a b:Int}:a<=mx a b/\b<=mx a b:=by unfold mx;split<;>omega
theorem Xe5 {l:List Sec}(h:∀ x∈l,SecOk x):0<=Yej l/\Yej l<=3:=by
 unfold Yej
 suffices ∀(m:Int),0<=m/\m<=3->0<=l.foldl (fun m x=>mx m x.w.hi) m/\l.foldl (fun m x=>mx m x.w.hi) m<=3 from this 0 (by omega)
 induction l with
 | nil=>exact fun m h=>h
 | cons x l ih =>
  intro m hm;simp only[List.foldl_cons];have hx:=(h x (by simp)).w;refine ih (fun y hy=>h y (by simp[hy])) _ ⟨?_,Xjm hm.2 hx.2.2.1⟩
  have:=Xh1 (a:=m) (b:=x.w.hi)
  omega
theorem Yyt {b:Book}(h:ok1F b b.secs=true):Yae (Yej b.secs*b.days):=by
 obtain⟨h0,h1⟩:=Zdo.1 h;have hm:=Xe5 h1;have hd:=h0.days
 have:0<=Yej b.secs*b.days/\Yej b.secs*b.days<=3*30:=⟨Int.mul_nonneg hm.1 (by omega),Int.le_trans (Int.mul_le_mul_of_nonneg_right hm.2 (by omega)) (by omega)⟩
 simp only[Yae];omega
theorem Zgz (b:Book)(l:List Sec):ok2F b l=(ok1F b b.secs&&l.all fun x=>decide (x.t.lo>=Yej b.secs*b.days)):=Yhw _ _ _
theorem Xh8 (b:Book)(hl:b.secs.length<=9223372036854775807):LoopT PR glob 119 (k_55 [1,1,1,1,1,0,1]) (Ydv b (ok1F b b.secs) (Yej b.secs) 0) .normal (Ydv b (ok2F b b.secs) (Yej b.secs) b.secs.length):=by
 rw[show k_55 [1,1,1,1,1,0,1]=.block 2 (.loop (k_55 [1,1,1,1,1,0,1,0,0])) from by kernel_rfl];refine LoopT.rounds (tt:=Yac types) (S:=fun i:{i:Nat // i<=b.secs.length}=>Ydv b (ok2F b (b.secs.take i.1)) (Yej b.secs) i.1) (fun i=>b.secs.length-i.1) ?_ ⟨0,Nat.zero_le _⟩;intro⟨i,hi⟩
 by_cases hlt:i<b.secs.length
 ·have hf:=Ybm (fun ok (x:Sec)=>ok&&decide (x.t.lo>=Yej b.secs*b.days)) b.secs (ok1F b b.secs) i sec0 hlt
  have hj:=Xik b (ok2F b (b.secs.take i)) (Yej b.secs) i (fun h=>by
   rw[Zgz,Bool.and_eq_true]at h;exact Yyt h.1)
  refine WpL.path (G 119) (Zn3 b _ _ i (ok2F b (b.secs.take i)&&decide ((b.secs.getD i sec0).t.lo>=Yej b.secs*b.days))) ⟨decide_eq_true (by omega),by omega,by omega,hj,by simp only[Yae];omega,trivial⟩ ⟨⟨i+1,hlt⟩,?_,by dsimp only;omega⟩;unfold ok2F at *;simp only;rw[hf];rfl
 ·have:i=b.secs.length:=by omega
  subst this;refine WpL.path (G 119) (Zfp b _ _ _) ⟨decide_eq_false (Int.lt_irrefl _),trivial⟩ ⟨rfl,?_⟩;rw[List.take_length];rfl
theorem Zo7 {days:Int}(hd:days<=30):∀(l:LI) (p:Bool×Int),(p.1=true->0<=p.2/\p.2<=30)->(l.foldl (Ydz days) p).1=true->0<=(l.foldl (Ydz days) p).2/\(l.foldl (Ydz days) p).2<=30
 | [],p,h,hp=>h hp
 | t::l,p,h,hp=>by
  simp only[List.foldl_cons]at hp ⊢;refine Zo7 hd l _ (fun hq=>?_) hp;simp only[Ydz,Bool.and_eq_true,Ya2]at hq ⊢
  have:=h hq.1
  omega
theorem Zsz {days:Int}:∀(l:LI) (p:Bool×Int),(l.foldl (Ydz days) p).1=true->p.1=true
 | [],p,h=>h
 | t::l,p,h=>by
  have:=Zsz l _ h
  simp only[Ydz,Bool.and_eq_true]at this;exact this.1
theorem Xfi {b:Book}{l:LI}(h:(ok3F b l).1=true):Yae ((ok3F b l).2+1):=by
 have h2:=Zsz l _ h;simp only at h2;rw[Zgz,Bool.and_eq_true]at h2;have h0:=(Zdo.1 h2.1).1
 have:=Zo7 (days:=b.days) (by have:=h0.days;omega) l (ok2F b b.secs,0) (fun _=>by simp) h
 unfold ok3F;simp only[Yae];omega
theorem Xh7 (b:Book)(hl:b.turns.length<=9223372036854775807):LoopT PR glob 119 (k_55 [1,1,1,1,1,1,1,0,1]) (Ydu b (ok2F b b.secs) 0 0) .normal (Ydu b (ok3F b b.turns).1 (ok3F b b.turns).2 b.turns.length):=by
 rw[show k_55 [1,1,1,1,1,1,1,0,1]=.block 4 (.loop (k_55 [1,1,1,1,1,1,1,0,1,0,0])) from by kernel_rfl];refine LoopT.rounds (tt:=Yac types) (S:=fun i:{i:Nat // i<=b.turns.length}=>Ydu b (ok3F b (b.turns.take i.1)).1 (ok3F b (b.turns.take i.1)).2 i.1) (fun i=>b.turns.length-i.1) ?_ ⟨0,Nat.zero_le _⟩;intro⟨i,hi⟩
 by_cases hlt:i<b.turns.length
 ·have hf:=Ybm (Ydz b.days) b.turns (ok2F b b.secs,0) i 0 hlt;have hj:=Xij b (ok3F b (b.turns.take i)).1 (ok3F b (b.turns.take i)).2 i (fun h=>Xfi h);refine WpL.path (G 119) (Zn2 b _ _ i ((ok3F b (b.turns.take i)).1&&Yad (b.turns.getD i 0) ((ok3F b (b.turns.take i)).2+1) b.days)) ⟨decide_eq_true (by omega),by omega,by omega,hj,by simp only[Yae];omega,trivial⟩ ⟨⟨i+1,hlt⟩,?_,by dsimp only;omega⟩;unfold ok3F at *
  simp only;rw[hf];rfl
 ·have:i=b.turns.length:=by omega
  subst this;refine WpL.path (G 119) (Zfo b _ _ _) ⟨decide_eq_false (Int.lt_irrefl _),trivial⟩ ⟨rfl,?_⟩;rw[List.take_length];rfl
theorem Xh6 (b:Book)(hl:b.secs.length<=9223372036854775807)(hv:b.svs.length<=9223372036854775807):LoopT PR glob 119 (k_55 [1,1,1,1,1,1,1,1,0,1]) (Ydt b (ok3F b b.turns).1 0) .normal (Ydt b (ok4F b b.svs) b.svs.length):=by
 rw[show k_55 [1,1,1,1,1,1,1,1,0,1]=.block 6 (.loop (k_55 [1,1,1,1,1,1,1,1,0,1,0,0])) from by kernel_rfl];refine LoopT.rounds (tt:=Yac types) (S:=fun i:{i:Nat // i<=b.svs.length}=>Ydt b (ok4F b (b.svs.take i.1)) i.1) (fun i=>b.svs.length-i.1) ?_ ⟨0,Nat.zero_le _⟩;intro⟨i,hi⟩
 by_cases hlt:i<b.svs.length
 ·have hf:=Ybm (fun ok x=>ok&&Ybh b x) b.svs (ok3F b b.turns).1 i sv0 hlt;have hj:=Xii b (ok4F b (b.svs.take i)) i hl;refine WpL.path (G 119) (Zn1 b _ i (ok4F b (b.svs.take i)&&Ybh b (b.svs.getD i sv0))) ⟨decide_eq_true (by omega),by omega,by omega,hj,by simp only[Yae];omega,trivial⟩ ⟨⟨i+1,hlt⟩,?_,by dsimp only;omega⟩;unfold ok4F at *;simp only;rw[hf];rfl
 ·have:i=b.svs.length:=by omega
  subst this;refine WpL.path (G 119) (Zfn b _ _) ⟨decide_eq_false (Int.lt_irrefl _),trivial⟩ ⟨rfl,?_⟩;rw[List.take_length];rfl
theorem Zvr (b:Book)(h1:b.secs.length<=9223372036854775807)(h2:b.turns.length<=9223372036854775807)(h3:b.svs.length<=9223372036854775807):Contract PR glob 55 [Yah b] (.I (Yai b)):=by
 unfold Yai Yen
 cases hk:ok1F b b.secs with
 | false =>
  refine Yaa (G 119) Ywn (Znp b (ok0F b) (ok1F b b.secs) true true true (Yej b.secs) 0) ⟨Xfr b,Xfd b h1,by rw[hk];rfl,trivial⟩
 | true =>
  cases hv:ok4F b b.svs with
  | false =>
   refine Yaa (G 119) Ywn (Zno b (ok0F b) (ok1F b b.secs) (ok2F b b.secs) (ok3F b b.turns).1 (ok4F b b.svs) (Yej b.secs) (ok3F b b.turns).2) ⟨Xfr b,Xfd b h1,by rw[hk];rfl,Xh8 b h1,Xh7 b h2,Xh6 b h1 h3,by rw[hv];rfl,trivial⟩
  | true =>
   refine Yaa (G 119) Ywn (Znn b (ok0F b) (ok1F b b.secs) (ok2F b b.secs) (ok3F b b.turns).1 (ok4F b b.svs) (Yej b.secs) (ok3F b b.turns).2) ⟨Xfr b,Xfd b h1,by rw[hk];rfl,Xh8 b h1,Xh7 b h2,Xh6 b h1 h3,by rw[hv];rfl,trivial⟩
end Go.Di
