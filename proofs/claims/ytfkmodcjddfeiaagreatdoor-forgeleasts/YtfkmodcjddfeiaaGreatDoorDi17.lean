/- Part 17: contracts are proved. No condition. -/
import Derived.Test.YtfkmodcjddfeiaaGreatDoorDi16
set_option linter.unusedVariables false
set_option linter.unusedSimpArgs false
namespace Go.Di
open Proofs
noncomputable abbrev k_50 (p:List Nat):Code:=Code.at p (body Proofs.Tryz.f50)
noncomputable abbrev k_19 (p:List Nat):Code:=Code.at p (body Proofs.Tryz.f19)
noncomputable abbrev k_10 (p:List Nat):Code:=Code.at p (body Proofs.Tryz.f10)
theorem rbef_fn:FnOk PRG (MF 24) 84 (body Tryz.f84) [.tmp 4]:=by refine⟨Tryz.f84,?_,?_,?_,?_,?_⟩<;>kernel_rfl
theorem rpl_fn:FnOk PRG (MF 45) 50 (body Tryz.f50) [.tmp 4]:=by refine⟨Tryz.f50,?_,?_,?_,?_,?_⟩<;>kernel_rfl
theorem rck_fn:FnOk PRG (MF 67) 19 (body Tryz.f19) [.tmp 2]:=by refine⟨Tryz.f19,?_,?_,?_,?_,?_⟩<;>kernel_rfl
theorem oFor_fn:FnOk PRG (MF 16) 6 (body Tryz.f6) [.cell 2 28]:=by refine⟨Tryz.f6,?_,?_,?_,?_,?_⟩<;>kernel_rfl
theorem oWk_fn:FnOk PRG (MF 7) 7 (body Tryz.f7) [.tmp 2]:=by refine⟨Tryz.f7,?_,?_,?_,?_,?_⟩<;>kernel_rfl
theorem kFor_fn:FnOk PRG (MF 45) 9 (body Tryz.f9) [.tmp 4]:=by refine⟨Tryz.f9,?_,?_,?_,?_,?_⟩<;>kernel_rfl
theorem kWk_fn:FnOk PRG (MF 31) 10 (body Tryz.f10) [.tmp 4]:=by refine⟨Tryz.f10,?_,?_,?_,?_,?_⟩<;>kernel_rfl
def Yda (x:FBook)(plan:List Work)(i:Nat):List (Key×Val) :=
 [(.tmp 1,.d (D.sl false E.work plan)),
  (.tmp 2,.d (D.ptr 2 0)),
  (.tmp 5,.d (.I i)),
  (.box 2,.bx (some (Box.mk false (cellsOf (Yad x)))))]
def rpl_K0:List Key:=[.tmp 1,.tmp 2,.tmp 5,.box 2]
def rck_R1 (x:FBook)  : List (Key×Val) :=
 [(.tmp 1,.d (D.ptr 1 0)),
  (.box 1,.bx (some (Box.mk false (cellsOf (Yad x)))))]
def rck_RK1:List Key:=[.tmp 1,.box 1]
def rck_RO1:List Key:=[.tmp 1,.tmp 3,.box 1]
def Yet (x:FBook)  (ok:Bool):List (Key×Val) :=
 [(.tmp 1,.d (D.ptr 1 0)),
  (.tmp 3,.d (.bool ok)),
  (.box 1,.bx (some (Box.mk false (cellsOf (Yad x)))))]
def kWk_S0 (plan:List Work)(ok:Bool)(i:Nat):List (Key×Val) :=
 [(.tmp 0,.d (D.sl false E.work plan)),
  (.tmp 1,.d (D.sl false E.work plan)),
  (.tmp 5,.d (.bool ok)),
  (.tmp 6,.d (.I i))]
def kWk_K0:List Key:=[.tmp 0,.tmp 1,.tmp 5,.tmp 6]
def Yfh (x:FBook)(ok:Bool)(i:Nat):List (Key×Val) :=
 [(.tmp 1,.d (D.ptr 1 0)),
  (.tmp 3,.d (.bool ok)),
  (.tmp 4,.d (.I i)),
  (.box 1,.bx (some (Box.mk false (cellsOf (Yad x)))))]
def rck_K0:List Key:=[.tmp 1,.tmp 3,.tmp 4,.box 1]
def rpl_T0_at (x:FBook)(plan:List Work)(i:Nat)(a:Int):List (Key×Val) :=
 [(.tmp 1,.d (D.sl false E.work plan)),(.tmp 2,.d (D.ptr 2 0)),(.tmp 5,.d (D.I (i:Int))),(.box 2,.bx (some (Box.mk false (cellsOf (Yad x))))),(.tmp 4,.d (D.bool false))]
def rpl_T0_out (x:FBook)(plan:List Work)(i:Nat)(a:Int):List (Key×Val) :=
 [(.tmp 1,.d (D.sl false E.work plan)),(.tmp 2,.d (D.ptr 2 0)),(.tmp 5,.d (D.I (i:Int))),(.box 2,.bx (some (Box.mk false (cellsOf (Yad x))))),(.tmp 4,.d (D.bool false))]
def rpl_T0_bad (x:FBook)(plan:List Work)(i:Nat)(a:Int):List (Key×Val) :=
 [(.tmp 1,.d (D.sl false E.work plan)),(.tmp 2,.d (D.ptr 2 0)),(.tmp 5,.d (D.I (i:Int))),(.box 2,.bx (some (Box.mk false (cellsOf (Yad x))))),(.tmp 4,.d (D.bool false))]
theorem rpl_0_at (x:FBook)(plan:List Work)(i:Nat)(a:Int) :
  runK (MF 45) [(10,true),(23,true)] [(21,.I a)] [] (k_50 [1,0,1,0,0]) (Yda x plan i) [.tmp 1,.tmp 2,.tmp 5,.box 2,.tmp 4] =
   let Z0:Prop:=decide (a<(0:Int))=true;some ([decide ((i:Int)<(plan.length:Int))=true,(0:Int)≤(i:Int)∧(i:Int)<(plan.length:Int),0+2≤2,0+0+1≤2,CF 78 [D.sl false E.int x.opn,D.I (Work.d (List.getD plan (i) Yak))] (D.I a),Z0,Z0,Z0,Z0,Z0,Z0,Z0,Z0,Z0],Ex.ret,rpl_T0_at x plan i a):=by kernel_rfl
theorem rpl_0_out (x:FBook)(plan:List Work)(i:Nat)(a:Int) :
  runK (MF 45) [(10,true),(23,false)] [(21,.I a),(30,.bool false)] [] (k_50 [1,0,1,0,0]) (Yda x plan i) [.tmp 1,.tmp 2,.tmp 5,.box 2,.tmp 4] =
   let Z0:Prop:=decide (a<(0:Int))=false;let Z1:=List.getD plan (i) Yak;some ([decide ((i:Int)<(plan.length:Int))=true,(0:Int)≤(i:Int)∧(i:Int)<(plan.length:Int),0+2≤2,0+0+1≤2,CF 78 [D.sl false E.int x.opn,D.I (Work.d Z1)] (D.I a),Z0,Z0,0+1+1≤2,Z0,Z0,Z0,Z0,Yae ((x.feet.length:Int)-(1:Int)),Z0,CF 51 [D.I (Work.s Z1),D.I 0,D.I ((x.feet.length:Int)-(1:Int))] (D.bool false),Z0,Z0],Ex.ret,rpl_T0_out x plan i a):=by kernel_rfl
theorem rpl_0_one (x:FBook)(plan:List Work)(i:Nat)(a:Int) :
  runK (MF 45) [(10,true),(23,false),(35,false)] [(21,.I a),(30,.bool true)] [] (k_50 [1,0,1,0,0]) (Yda x plan i) rpl_K0 =
   let Z0:Prop:=decide ((i:Int)>(0:Int))=false;let Z1:Prop:=decide (a<(0:Int))=false;let Z2:=List.getD plan (i) Yak;some ([decide ((i:Int)<(plan.length:Int))=true,(0:Int)≤(i:Int)∧(i:Int)<(plan.length:Int),0+2≤2,0+0+1≤2,CF 78 [D.sl false E.int x.opn,D.I (Work.d Z2)] (D.I a),Z1,Z1,0+1+1≤2,Z1,Z1,Z1,Z1,Yae ((x.feet.length:Int)-(1:Int)),Z1,CF 51 [D.I (Work.s Z2),D.I 0,D.I ((x.feet.length:Int)-(1:Int))] (D.bool true),Z1,Z1,Z0,Z0,Z0,Z0,Z0,Z0,Z0,Z0,Z0,Yae ((i:Int)+(1:Int))],Ex.normal,Yda x plan (i+1)):=by kernel_rfl
theorem rpl_0_bad (x:FBook)(plan:List Work)(i:Nat)(a:Int) :
  runK (MF 45) [(10,true),(23,false),(35,true)] [(21,.I a),(30,.bool true),(42,.bool false)] [] (k_50 [1,0,1,0,0]) (Yda x plan i) [.tmp 1,.tmp 2,.tmp 5,.box 2,.tmp 4] =
   let Z0:Prop:=decide ((i:Int)>(0:Int))=true;let Z1:Prop:=decide (a<(0:Int))=false;let Z2:=List.getD plan (i) Yak;let Z3:=List.getD plan (Int.toNat ((i:Int)-(1:Int))) Yak;some ([decide ((i:Int)<(plan.length:Int))=true,(0:Int)≤(i:Int)∧(i:Int)<(plan.length:Int),0+2≤2,0+0+1≤2,CF 78 [D.sl false E.int x.opn,D.I (Work.d Z2)] (D.I a),Z1,Z1,0+1+1≤2,Z1,Z1,Z1,Z1,Yae ((x.feet.length:Int)-(1:Int)),Z1,CF 51 [D.I (Work.s Z2),D.I 0,D.I ((x.feet.length:Int)-(1:Int))] (D.bool true),Z1,Z1,Z0,Z0,Z0,Yae ((i:Int)-(1:Int)),Z0,(0:Int)≤(i:Int)-(1:Int)∧(i:Int)-(1:Int)<(plan.length:Int),Z0,0+2≤2,Z0,0+2≤2,Z0,CF 84 [D.agg [D.I (Work.d Z3),D.I (Work.s Z3)],D.agg [D.I (Work.d Z2),D.I (Work.s Z2)]] (D.bool false),Z0,Z0],Ex.ret,rpl_T0_bad x plan i a):=by kernel_rfl
theorem rpl_0_on (x:FBook)(plan:List Work)(i:Nat)(a:Int) :
  runK (MF 45) [(10,true),(23,false),(35,true)] [(21,.I a),(30,.bool true),(42,.bool true)] [] (k_50 [1,0,1,0,0]) (Yda x plan i) rpl_K0 =
   let Z0:Prop:=decide ((i:Int)>(0:Int))=true;let Z1:Prop:=decide (a<(0:Int))=false;let Z2:=List.getD plan (i) Yak;let Z3:=List.getD plan (Int.toNat ((i:Int)-(1:Int))) Yak;some ([decide ((i:Int)<(plan.length:Int))=true,(0:Int)≤(i:Int)∧(i:Int)<(plan.length:Int),0+2≤2,0+0+1≤2,CF 78 [D.sl false E.int x.opn,D.I (Work.d Z2)] (D.I a),Z1,Z1,0+1+1≤2,Z1,Z1,Z1,Z1,Yae ((x.feet.length:Int)-(1:Int)),Z1,CF 51 [D.I (Work.s Z2),D.I 0,D.I ((x.feet.length:Int)-(1:Int))] (D.bool true),Z1,Z1,Z0,Z0,Z0,Yae ((i:Int)-(1:Int)),Z0,(0:Int)≤(i:Int)-(1:Int)∧(i:Int)-(1:Int)<(plan.length:Int),Z0,0+2≤2,Z0,0+2≤2,Z0,CF 84 [D.agg [D.I (Work.d Z3),D.I (Work.s Z3)],D.agg [D.I (Work.d Z2),D.I (Work.s Z2)]] (D.bool true),Z0,Z0,Yae ((i:Int)+(1:Int))],Ex.normal,Yda x plan (i+1)):=by kernel_rfl
theorem rpl_0_end (x:FBook)(plan:List Work)(i:Nat) :
  runK (MF 45) [(10,false)] [] [] (k_50 [1,0,1,0,0]) (Yda x plan i) rpl_K0 =
   some ([decide ((i:Int)<(plan.length:Int))=false],Ex.exit 0,Yda x plan i):=by kernel_rfl
theorem rck_R1_a (x:FBook) :
  runK (MF 67) [(9,false)] [(7,.I (Yah x.chain)),(22,.bool (Yab x.new 0 200)),(37,.bool (Ych x.opn (x.chain.days+1))),(42,.bool (Yab x.stock 0 200)),(47,.bool (Yab x.make 0 9))] [] (k_19 [1,0]) (rck_R1 x ) rck_RO1 =
   some ([CF 56 [Yag x.chain] (D.I (Yah x.chain)),(Yah x.chain==(0:Int))=false,(Yah x.chain==(0:Int))=false,(Yah x.chain==(0:Int))=false,(Yah x.chain==(0:Int))=false,(Yah x.chain==(0:Int))=false,(Yah x.chain==(0:Int))=false,(Yah x.chain==(0:Int))=false,(Yah x.chain==(0:Int))=false,(Yah x.chain==(0:Int))=false],Ex.normal,Yet x false):=by kernel_rfl
theorem rck_R1_b (x:FBook) :
  runK (MF 67) [(9,true),(19,false)] [(7,.I (Yah x.chain)),(22,.bool (Yab x.new 0 200)),(37,.bool (Ych x.opn (x.chain.days+1))),(42,.bool (Yab x.stock 0 200)),(47,.bool (Yab x.make 0 9))] [] (k_19 [1,0]) (rck_R1 x ) rck_RO1 =
   some ([CF 56 [Yag x.chain] (D.I (Yah x.chain)),(Yah x.chain==(0:Int))=true,(Yah x.chain==(0:Int))=true,(Yah x.chain==(0:Int))=true,(Yah x.chain==(0:Int))=true,(Yah x.chain==(0:Int))=true,(Yah x.chain==(0:Int))=true,(Yah x.chain==(0:Int))=true,(Yah x.chain==(0:Int))=true,(Yah x.chain==(0:Int))=true,((x.feet.length:Int)==(x.chain.secs.length:Int))=false,((x.feet.length:Int)==(x.chain.secs.length:Int))=false,((x.feet.length:Int)==(x.chain.secs.length:Int))=false,((x.feet.length:Int)==(x.chain.secs.length:Int))=false],Ex.normal,Yet x false):=by kernel_rfl
theorem rck_R1_c (x:FBook) :
  runK (MF 67) [(9,true),(19,true),(24,false)] [(7,.I (Yah x.chain)),(22,.bool (Yab x.new 0 200)),(37,.bool (Ych x.opn (x.chain.days+1))),(42,.bool (Yab x.stock 0 200)),(47,.bool (Yab x.make 0 9))] [] (k_19 [1,0]) (rck_R1 x ) rck_RO1 =
   let Z0:Prop:=Yab x.new (0:Int) (200:Int)=false;some ([CF 56 [Yag x.chain] (D.I (Yah x.chain)),(Yah x.chain==(0:Int))=true,(Yah x.chain==(0:Int))=true,(Yah x.chain==(0:Int))=true,(Yah x.chain==(0:Int))=true,(Yah x.chain==(0:Int))=true,(Yah x.chain==(0:Int))=true,(Yah x.chain==(0:Int))=true,(Yah x.chain==(0:Int))=true,(Yah x.chain==(0:Int))=true,((x.feet.length:Int)==(x.chain.secs.length:Int))=true,((x.feet.length:Int)==(x.chain.secs.length:Int))=true,((x.feet.length:Int)==(x.chain.secs.length:Int))=true,CF 51 [D.I x.new,D.I 0,D.I 200] (D.bool (Yab x.new (0:Int) (200:Int))),((x.feet.length:Int)==(x.chain.secs.length:Int))=true,Z0,Z0,Z0,Z0,Z0],Ex.normal,Yet x false):=by kernel_rfl
theorem rck_R1_d (x:FBook) :
  runK (MF 67) [(9,true),(19,true),(24,true),(30,false)] [(7,.I (Yah x.chain)),(22,.bool (Yab x.new 0 200)),(37,.bool (Ych x.opn (x.chain.days+1))),(42,.bool (Yab x.stock 0 200)),(47,.bool (Yab x.make 0 9))] [] (k_19 [1,0]) (rck_R1 x ) rck_RO1 =
   let Z0:Prop:=decide ((x.opn.length:Int)≤(4:Int))=false;let Z1:Prop:=Yab x.new (0:Int) (200:Int)=true;some ([CF 56 [Yag x.chain] (D.I (Yah x.chain)),(Yah x.chain==(0:Int))=true,(Yah x.chain==(0:Int))=true,(Yah x.chain==(0:Int))=true,(Yah x.chain==(0:Int))=true,(Yah x.chain==(0:Int))=true,(Yah x.chain==(0:Int))=true,(Yah x.chain==(0:Int))=true,(Yah x.chain==(0:Int))=true,(Yah x.chain==(0:Int))=true,((x.feet.length:Int)==(x.chain.secs.length:Int))=true,((x.feet.length:Int)==(x.chain.secs.length:Int))=true,((x.feet.length:Int)==(x.chain.secs.length:Int))=true,CF 51 [D.I x.new,D.I 0,D.I 200] (D.bool (Yab x.new (0:Int) (200:Int))),((x.feet.length:Int)==(x.chain.secs.length:Int))=true,Z1,Z1,Z1,Z1,Z1,Z0,Z0,Z0,Z0,Z0,Z0,Z0,Z0],Ex.normal,Yet x false):=by kernel_rfl
theorem rck_R1_e (x:FBook) :
  runK (MF 67) [(9,true),(19,true),(24,true),(30,true),(39,false)] [(7,.I (Yah x.chain)),(22,.bool (Yab x.new 0 200)),(37,.bool (Ych x.opn (x.chain.days+1))),(42,.bool (Yab x.stock 0 200)),(47,.bool (Yab x.make 0 9))] [] (k_19 [1,0]) (rck_R1 x ) rck_RO1 =
   let Z0:Prop:=decide ((x.opn.length:Int)≤(4:Int))=true;let Z1:Prop:=Yab x.new (0:Int) (200:Int)=true;let Z2:Prop:=Ych x.opn (x.chain.days+(1:Int))=false;some ([CF 56 [Yag x.chain] (D.I (Yah x.chain)),(Yah x.chain==(0:Int))=true,(Yah x.chain==(0:Int))=true,(Yah x.chain==(0:Int))=true,(Yah x.chain==(0:Int))=true,(Yah x.chain==(0:Int))=true,(Yah x.chain==(0:Int))=true,(Yah x.chain==(0:Int))=true,(Yah x.chain==(0:Int))=true,(Yah x.chain==(0:Int))=true,((x.feet.length:Int)==(x.chain.secs.length:Int))=true,((x.feet.length:Int)==(x.chain.secs.length:Int))=true,((x.feet.length:Int)==(x.chain.secs.length:Int))=true,CF 51 [D.I x.new,D.I 0,D.I 200] (D.bool (Yab x.new (0:Int) (200:Int))),((x.feet.length:Int)==(x.chain.secs.length:Int))=true,Z1,Z1,Z1,Z1,Z1,Z0,Z0,Z0,Z0,Z0,Z0,Yae (x.chain.days+(1:Int)),Z0,CF 57 [D.sl false E.int x.opn,D.I (x.chain.days+(1:Int))] (D.bool (Ych x.opn (x.chain.days+(1:Int)))),Z0,Z2,Z2,Z2,Z2],Ex.normal,Yet x false):=by kernel_rfl
theorem rck_R1_f (x:FBook) :
  runK (MF 67) [(9,true),(19,true),(24,true),(30,true),(39,true),(44,false)] [(7,.I (Yah x.chain)),(22,.bool (Yab x.new 0 200)),(37,.bool (Ych x.opn (x.chain.days+1))),(42,.bool (Yab x.stock 0 200)),(47,.bool (Yab x.make 0 9))] [] (k_19 [1,0]) (rck_R1 x ) rck_RO1 =
   let Z0:Prop:=decide ((x.opn.length:Int)≤(4:Int))=true;let Z1:Prop:=Yab x.new (0:Int) (200:Int)=true;let Z2:Prop:=Ych x.opn (x.chain.days+(1:Int))=true;let Z3:Prop:=Yab x.stock (0:Int) (200:Int)=false;some ([CF 56 [Yag x.chain] (D.I (Yah x.chain)),(Yah x.chain==(0:Int))=true,(Yah x.chain==(0:Int))=true,(Yah x.chain==(0:Int))=true,(Yah x.chain==(0:Int))=true,(Yah x.chain==(0:Int))=true,(Yah x.chain==(0:Int))=true,(Yah x.chain==(0:Int))=true,(Yah x.chain==(0:Int))=true,(Yah x.chain==(0:Int))=true,((x.feet.length:Int)==(x.chain.secs.length:Int))=true,((x.feet.length:Int)==(x.chain.secs.length:Int))=true,((x.feet.length:Int)==(x.chain.secs.length:Int))=true,CF 51 [D.I x.new,D.I 0,D.I 200] (D.bool (Yab x.new (0:Int) (200:Int))),((x.feet.length:Int)==(x.chain.secs.length:Int))=true,Z1,Z1,Z1,Z1,Z1,Z0,Z0,Z0,Z0,Z0,Z0,Yae (x.chain.days+(1:Int)),Z0,CF 57 [D.sl false E.int x.opn,D.I (x.chain.days+(1:Int))] (D.bool (Ych x.opn (x.chain.days+(1:Int)))),Z0,Z2,Z2,Z2,CF 51 [D.I x.stock,D.I 0,D.I 200] (D.bool (Yab x.stock (0:Int) (200:Int))),Z2,Z3,Z3,Z3,Z3],Ex.normal,Yet x false):=by kernel_rfl
theorem rck_R1_g (x:FBook) :
  runK (MF 67) [(9,true),(19,true),(24,true),(30,true),(39,true),(44,true)] [(7,.I (Yah x.chain)),(22,.bool (Yab x.new 0 200)),(37,.bool (Ych x.opn (x.chain.days+1))),(42,.bool (Yab x.stock 0 200)),(47,.bool (Yab x.make 0 9))] [] (k_19 [1,0]) (rck_R1 x ) rck_RO1 =
   let Z0:Prop:=decide ((x.opn.length:Int)≤(4:Int))=true;let Z1:Prop:=Yab x.new (0:Int) (200:Int)=true;let Z2:Prop:=Ych x.opn (x.chain.days+(1:Int))=true;let Z3:Prop:=Yab x.stock (0:Int) (200:Int)=true;some ([CF 56 [Yag x.chain] (D.I (Yah x.chain)),(Yah x.chain==(0:Int))=true,(Yah x.chain==(0:Int))=true,(Yah x.chain==(0:Int))=true,(Yah x.chain==(0:Int))=true,(Yah x.chain==(0:Int))=true,(Yah x.chain==(0:Int))=true,(Yah x.chain==(0:Int))=true,(Yah x.chain==(0:Int))=true,(Yah x.chain==(0:Int))=true,((x.feet.length:Int)==(x.chain.secs.length:Int))=true,((x.feet.length:Int)==(x.chain.secs.length:Int))=true,((x.feet.length:Int)==(x.chain.secs.length:Int))=true,CF 51 [D.I x.new,D.I 0,D.I 200] (D.bool (Yab x.new (0:Int) (200:Int))),((x.feet.length:Int)==(x.chain.secs.length:Int))=true,Z1,Z1,Z1,Z1,Z1,Z0,Z0,Z0,Z0,Z0,Z0,Yae (x.chain.days+(1:Int)),Z0,CF 57 [D.sl false E.int x.opn,D.I (x.chain.days+(1:Int))] (D.bool (Ych x.opn (x.chain.days+(1:Int)))),Z0,Z2,Z2,Z2,CF 51 [D.I x.stock,D.I 0,D.I 200] (D.bool (Yab x.stock (0:Int) (200:Int))),Z2,Z3,Z3,Z3,CF 51 [D.I x.make,D.I 0,D.I 9] (D.bool (Yab x.make (0:Int) (9:Int))),Z3],Ex.normal,Yet x (Yab x.make 0 9)):=by kernel_rfl
theorem rck_0_on (x:FBook)(ok:Bool)(i:Nat)(b:Bool) :
  runK (MF 67) [(50,true),(56,true)] [(64,.bool b)] [] (k_19 [1,1,0,1,0,0]) (Yfh x ok i) rck_K0 =
   some ([ok=true,ok=true,ok=true,ok=true,ok=true,ok=true,decide ((i:Int)<(x.feet.length:Int))=true,(0:Int)≤(i:Int)∧(i:Int)<(x.feet.length:Int),0+1≤1,CF 51 [D.I (List.getD x.feet (i) (0:Int)),D.I 1,D.I 30] (D.bool b),Yae ((i:Int)+(1:Int))],Ex.normal,Yfh x b (i+1)):=by kernel_rfl
theorem rck_0_end (x:FBook)(ok:Bool)(i:Nat) :
  runK (MF 67) [(50,true),(56,false)] [] [] (k_19 [1,1,0,1,0,0]) (Yfh x ok i) rck_K0 =
   some ([ok=true,ok=true,ok=true,ok=true,ok=true,ok=true,decide ((i:Int)<(x.feet.length:Int))=false],Ex.exit 0,Yfh x ok i):=by kernel_rfl
theorem rck_0_stop (x:FBook)(ok:Bool)(i:Nat) :
  runK (MF 67) [(50,false)] [] [] (k_19 [1,1,0,1,0,0]) (Yfh x ok i) rck_K0 =
   some ([ok=false,ok=false,ok=false,ok=false,ok=false,ok=false],Ex.exit 0,Yfh x ok i):=by kernel_rfl
theorem kWk_0_on (plan:List Work)(ok:Bool)(i:Nat) :
  runK (MF 31) [(13,true),(18,true)] [] [] (k_10 [1,1,0,1,0,0]) (kWk_S0 plan ok i) kWk_K0 =
   let Z0:=List.getD plan (i) Yak;some ([ok=true,ok=true,ok=true,ok=true,ok=true,decide ((i:Int)<(plan.length:Int))=true,(0:Int)≤(i:Int)∧(i:Int)<(plan.length:Int),0+2≤2,(0:Int)≤(i:Int)∧(i:Int)<(plan.length:Int),0+2≤2,Yae ((i:Int)+(1:Int))],Ex.normal,[(.tmp 0,.d (D.sl false E.work plan)),(.tmp 1,.d (D.sl false E.work plan)),(.tmp 5,.d (D.bool (eqI [Work.d Z0,Work.s Z0] [Work.d Z0,Work.s Z0]))),(.tmp 6,.d (D.I ((i:Int)+(1:Int))))]):=by kernel_rfl
theorem kWk_0_end (plan:List Work)(ok:Bool)(i:Nat) :
  runK (MF 31) [(13,true),(18,false)] [] [] (k_10 [1,1,0,1,0,0]) (kWk_S0 plan ok i) kWk_K0 =
   some ([ok=true,ok=true,ok=true,ok=true,ok=true,decide ((i:Int)<(plan.length:Int))=false],Ex.exit 0,[(.tmp 0,.d (D.sl false E.work plan)),(.tmp 1,.d (D.sl false E.work plan)),(.tmp 5,.d (D.bool ok)),(.tmp 6,.d (D.I (i:Int)))]):=by kernel_rfl
theorem rbef_lt (a b:Work) :
  Yai (MF 24) [(10,true)] [] [] (body Tryz.f84) [.tmp 4] [wkD a,wkD b] =
   let Z0:Prop:=decide (a.d<b.d)=true;some ([0+0+1≤2,0+0+1≤2,Z0,Z0,Z0,Z0,Z0,Z0,Z0,Z0],D.bool true):=by kernel_rfl
theorem rbef_ne (a b:Work) :
  Yai (MF 24) [(10,false),(16,false)] [] [] (body Tryz.f84) [.tmp 4] [wkD a,wkD b] =
   let Z0:Prop:=decide (a.d<b.d)=false;let Z1:Prop:=0+0+1≤2;some ([Z1,Z1,Z0,Z0,Z1,Z0,Z0,Z1,Z0,Z0,(a.d==b.d)=false,(a.d==b.d)=false,(a.d==b.d)=false,(a.d==b.d)=false,(a.d==b.d)=false,Z0,(a.d==b.d)=false,Z0],D.bool false):=by kernel_rfl
theorem rbef_eq (a b:Work) :
  Yai (MF 24) [(10,false),(16,true)] [] [] (body Tryz.f84) [.tmp 4] [wkD a,wkD b] =
   let Z0:Prop:=decide (a.d<b.d)=false;let Z1:Prop:=0+0+1≤2;some ([Z1,Z1,Z0,Z0,Z1,Z0,Z0,Z1,Z0,Z0,(a.d==b.d)=true,(a.d==b.d)=true,0+1+1≤2,(a.d==b.d)=true,(a.d==b.d)=true,0+1+1≤2,(a.d==b.d)=true,Z0,(a.d==b.d)=true,Z0],D.bool (decide (a.s<b.s))):=by kernel_rfl
theorem rpl_yes (x:FBook)(plan:List Work)(i:Nat) :
  Yai (MF 45) [] [] [(0,(rpl_K0,(.normal,Yda x plan i)))] (body Tryz.f50) [.tmp 4] [Yad x,.sl false .work plan] =
   some ([LF 45 (k_50 [1,0,1]) (Yda x plan 0) Ex.normal (Yda x plan i)],D.bool true):=by kernel_rfl
theorem rpl_nat (x:FBook)(plan:List Work)(i:Nat)(a:Int) :
  Yai (MF 45) [] [] [(0,(rpl_K0,(.ret,rpl_T0_at x plan i a)))] (body Tryz.f50) [.tmp 4] [Yad x,.sl false .work plan] =
   some ([LF 45 (k_50 [1,0,1]) (Yda x plan 0) Ex.ret (rpl_T0_at x plan i a)],D.bool false):=by kernel_rfl
theorem rpl_nout (x:FBook)(plan:List Work)(i:Nat)(a:Int) :
  Yai (MF 45) [] [] [(0,(rpl_K0,(.ret,rpl_T0_out x plan i a)))] (body Tryz.f50) [.tmp 4] [Yad x,.sl false .work plan] =
   some ([LF 45 (k_50 [1,0,1]) (Yda x plan 0) Ex.ret (rpl_T0_out x plan i a)],D.bool false):=by kernel_rfl
theorem rpl_nbad (x:FBook)(plan:List Work)(i:Nat)(a:Int) :
  Yai (MF 45) [] [] [(0,(rpl_K0,(.ret,rpl_T0_bad x plan i a)))] (body Tryz.f50) [.tmp 4] [Yad x,.sl false .work plan] =
   some ([LF 45 (k_50 [1,0,1]) (Yda x plan 0) Ex.ret (rpl_T0_bad x plan i a)],D.bool false):=by kernel_rfl
theorem rck_bad (x:FBook)(ok:Bool)(i:Nat) :
  Yai (MF 67) [] [] [(1001,(rck_RK1,(.normal,Yet x ok))),(0,(rck_K0,(.normal,Yfh x false i)))] (body Tryz.f19) [.tmp 2] [Yad x] =
   some ([LF 67 (k_19 [1,0]) [(.tmp 1,.d (D.ptr 1 0)),(.box 1,.bx (some (Box.mk false (cellsOf (Yad x)))))] Ex.normal (Yet x ok),LF 67 (k_19 [1,1,0,1]) (Yfh x ok 0) Ex.normal (Yfh x false i)],D.I 70):=by kernel_rfl
theorem rck_good (x:FBook)(ok:Bool)(i:Nat) :
  Yai (MF 67) [] [] [(1001,(rck_RK1,(.normal,Yet x ok))),(0,(rck_K0,(.normal,Yfh x true i)))] (body Tryz.f19) [.tmp 2] [Yad x] =
   some ([LF 67 (k_19 [1,0]) [(.tmp 1,.d (D.ptr 1 0)),(.box 1,.bx (some (Box.mk false (cellsOf (Yad x)))))] Ex.normal (Yet x ok),LF 67 (k_19 [1,1,0,1]) (Yfh x ok 0) Ex.normal (Yfh x true i)],D.I 0):=by kernel_rfl
theorem oFor_all (x:FBook) :
  Yai (MF 16) [] [(5,Yag x.chain),(8,.sl false .int x.feet),(11,.sl false .int x.opn)] [] (body Tryz.f6) [.cell 2 28] [Yad x] =
   some ([CF 14 [Yag x.chain] (Yag x.chain),CF 15 [D.sl false E.int x.feet] (D.sl false E.int x.feet),CF 15 [D.sl false E.int x.opn] (D.sl false E.int x.opn)],Yad x):=by kernel_rfl
theorem oWk_all (plan:List Work) :
  Yai (MF 7) [] [(6,.nil)] [] (body Tryz.f7) [.tmp 2] [.sl false .work plan] =
   some ([(0:Int)≤(0:Int)∧(0:Int)≤(0:Int)∧(0:Int)≤(plan.length:Int)∧(0:Int)=(0:Int),plan.length*16≤140737488355328∧plan.length≤140737488355328,plan.length=List.length (plan)],D.sl false E.work (plan)):=by kernel_rfl
theorem kFor_all (x:FBook) :
  Yai (MF 45) [(24,true),(38,true)] [(9,.bool true),(15,.bool true),(29,.bool true)] [] (body Tryz.f9) [.tmp 4] [Yad x,Yad x] =
   some ([CF 24 [Yag x.chain,Yag x.chain] (D.bool true),CF 25 [D.sl false E.int x.feet,D.sl false E.int x.feet] (D.bool true),(x.new==x.new)=true,(x.new==x.new)=true,(x.new==x.new)=true,(x.new==x.new)=true,(x.new==x.new)=true,CF 25 [D.sl false E.int x.opn,D.sl false E.int x.opn] (D.bool true),(x.new==x.new)=true,(x.stock==x.stock)=true,(x.stock==x.stock)=true,(x.stock==x.stock)=true,(x.stock==x.stock)=true,(x.stock==x.stock)=true,(x.stock==x.stock)=true],D.bool (x.make==x.make)):=by kernel_rfl
theorem kWk_all (plan:List Work)(i:Nat) :
  Yai (MF 31) [] [] [(0,(kWk_K0,(.normal,kWk_S0 plan true i)))] (body Tryz.f10) [.tmp 4] [.sl false .work plan,.sl false .work plan] =
   some ([LF 31 (k_10 [1,1,0,1]) (kWk_S0 plan ((plan.length:Int)==(plan.length:Int)) 0) Ex.normal (kWk_S0 plan true i)],D.bool true):=by kernel_rfl
end Go.Di

namespace Go.Di
open Proofs
end Go.Di

namespace Go.Di
open Proofs
end Go.Di

namespace Go.Di
open Proofs
structure Ups (xs:List Int) (n:Int):Prop where
 inn:∀ k<xs.length,0≤xs.getD k 0∧xs.getD k 0<n
 up:∀ k,0<k→k<xs.length→xs.getD (k-1) 0<xs.getD k 0
theorem Ups.mono {xs:List Int}{n m:Int}(h:Ups xs n)(hnm:n≤m):Ups xs m:=⟨fun k hk=>by have:=h.inn k hk;omega,h.up⟩
end Go.Di

namespace Go.Di
open Proofs
def SatE (b:Book)(x:W4)(k t:Int)(e:Ent):Prop:=eqI [e.1.1,e.1.2] [-1,-1]=false→(e.1.1==k)=true→e.2.lo+Yd3 b.secs.length x.a x.b x.c x.d b.turns k e.1.2.toNat≤t∧t≤e.2.hi+Yd3 b.secs.length x.a x.b x.c x.d b.turns k e.1.2.toNat
theorem both_in {s u:Span}{t:Int}:((bothF s u).lo≤t∧t≤(bothF s u).hi)↔(s.lo≤t∧t≤s.hi)∧(u.lo≤t∧t≤u.hi):=by
 simp only[bothF,mx,mn]
 constructor
 ·intro h
  split at h<;>split at h<;>omega
 ·intro h
  split<;>split<;>omega
theorem right_fold (b:Book)(x:W4)(k t:Int):∀(l:List Ent) (s:Span),((l.foldl (Ya1 b x.a x.b x.c x.d k) s).lo≤t∧t≤(l.foldl (Ya1 b x.a x.b x.c x.d k) s).hi)↔(s.lo≤t∧t≤s.hi)∧∀ e∈l,SatE b x k t e
 | [],s=>by simp
 | e::l,s=>by
  simp only[List.foldl_cons]
  rw[right_fold b x k t l]
  have:((Ya1 b x.a x.b x.c x.d k s e).lo≤t∧t≤(Ya1 b x.a x.b x.c x.d k s e).hi)↔(s.lo≤t∧t≤s.hi)∧SatE b x k t e:=by
   unfold Ya1 SatE
   by_cases h:eqI [e.1.1,e.1.2] [-1,-1]=false∧(e.1.1==k)=true
   ·rw[if_pos h,both_in]
    exact and_congr_right fun _=>⟨fun h' _ _=>h',fun h'=>h' h.1 h.2⟩
   ·rw[if_neg h]
    constructor
    ·exact fun h'=>⟨h',fun h1 h2=>absurd ⟨h1,h2⟩ h⟩
    ·exact fun h'=>h'.1
  rw[this]
  simp only[List.mem_cons,forall_eq_or_imp]
  exact and_assoc
def SatY (b:Book)(x:W4)(k t:Int)(y:Sv):Prop:=y.s=k→y.r-y.e+Yd3 b.secs.length x.a x.b x.c x.d b.turns k y.d.toNat≤t∧t≤y.r+y.e+Yd3 b.secs.length x.a x.b x.c x.d b.turns k y.d.toNat
theorem eqI_key {a c:Int}(h:0≤a):eqI [a,c] [-1,-1]=false:=by
 cases hq:eqI [a,c] [-1,-1] with
 | false=>rfl
 | true =>
  have:=(eqI_iff _ _).1 hq
  simp only[List.cons.injEq,and_true]at this
  omega
theorem satE_key {b:Book}{x:W4}{k t:Int}{ks kd:Int}(h:0≤ks)(s u:Span):SatE b x k t ((ks,kd),bothF s u)↔SatE b x k t ((ks,kd),s)∧SatE b x k t ((ks,kd),u):=by
 unfold SatE
 simp only[eqI_key h,true_implies]
 have e:∀ z:Span,(z.lo+Yd3 b.secs.length x.a x.b x.c x.d b.turns k kd.toNat≤t∧t≤z.hi+Yd3 b.secs.length x.a x.b x.c x.d b.turns k kd.toNat)↔(z.lo≤t-Yd3 b.secs.length x.a x.b x.c x.d b.turns k kd.toNat∧t-Yd3 b.secs.length x.a x.b x.c x.d b.turns k kd.toNat≤z.hi):=fun z=>by omega
 rw[e,e,e,both_in]
 constructor
 ·exact fun h=>⟨fun hk=>(h hk).1,fun hk=>(h hk).2⟩
 ·exact fun h hk=>⟨h.1 hk,h.2 hk⟩
theorem upd_sat {b:Book}{x:W4}{k t:Int}{ks kd:Int}(h:0≤ks)(s:Span):∀ l:List Ent,(∀ e∈updK l (ks,kd) (match Ybf l (ks,kd) with|some old=>bothF old s|none=>s),SatE b x k t e)↔(∀ e∈l,SatE b x k t e)∧SatE b x k t ((ks,kd),s)
 | []=>by simp[updK,Ybf]
 | (k',v)::l=>by
  simp only[updK,Ybf]
  by_cases hk:(ks,kd)=k'
  ·subst hk
   rw[if_pos rfl,if_pos rfl]
   simp only[List.mem_cons,forall_eq_or_imp]
   rw[satE_key h]
   exact⟨fun⟨⟨h1,h2⟩,h3⟩=>⟨⟨h1,h3⟩,h2⟩,fun⟨⟨h1,h3⟩,h2⟩=>⟨⟨h1,h2⟩,h3⟩⟩
  ·rw[if_neg hk,if_neg hk]
   simp only[List.mem_cons,forall_eq_or_imp]
   rw[upd_sat h s l]
   exact and_assoc.symm
theorem open_sat {b:Book}(but:List Int){x:W4}{k t:Int}(hs:∀ y∈b.svs,0≤y.s):∀ m,m≤b.svs.length→((∀ e∈Yev b but m,SatE b x k t e)↔∀ i<m,(i:Int)∉but→SatY b x k t (svZ b i))
 | 0,_=>by
  simp only[Yev,List.mem_singleton,forall_eq,Nat.not_lt_zero,false_implies,implies_true,iff_true]
  intro h
  cases h
 | m+1,hm=>by
  have ih:=open_sat but (x:=x) (k:=k) (t:=t) hs m (by omega)
  simp only[Yev,openStep]
  have hin:svZ b m∈b.svs:=Ybq b.svs m sv0 (by omega)
  have hY:SatE b x k t (((svZ b m).s,(svZ b m).d),⟨(svZ b m).r-(svZ b m).e,(svZ b m).r+(svZ b m).e⟩)↔SatY b x k t (svZ b m):=by
   unfold SatE SatY
   simp only[eqI_key (hs _ hin),true_implies,beq_iff_eq]
  by_cases hb:(m:Int)∈but
  ·rw[if_pos hb,ih]
   constructor
   ·intro h i hi hn
    by_cases e:i=m
    ·subst e;exact absurd hb hn
    ·exact h i (by omega) hn
   ·exact fun h i hi hn=>h i (by omega) hn
  ·rw[if_neg hb]
   have:=upd_sat (b:=b) (x:=x) (k:=k) (t:=t) (kd:=(svZ b m).d) (hs _ hin) ⟨(svZ b m).r-(svZ b m).e,(svZ b m).r+(svZ b m).e⟩ (Yev b but m)
   refine this.trans ?_
   rw[ih,hY]
   constructor
   ·rintro⟨h1,h2⟩ i hi hn
    by_cases e:i=m
    ·subst e;exact h2
    ·exact h1 i (by omega) hn
   ·exact fun h=>⟨fun i hi hn=>h i (by omega) hn,h m (by omega) hb⟩
def W4.at (x:W4)(p:Nat):Int:=[x.a,x.b,x.c,x.d].getD p 0
structure Feas (b:Book) (but:List Int) (T:Nat→Int) (x:W4):Prop where
 wear:∀ p<b.secs.length,(b.secs.getD p sec0).w.lo≤x.at p∧x.at p≤(b.secs.getD p sec0).w.hi
 zero:∀ p,b.secs.length≤p→x.at p=0
 thick:∀ k<b.secs.length,(b.secs.getD k sec0).t.lo≤T k∧T k≤(b.secs.getD k sec0).t.hi
 right:∀ i<b.svs.length,(i:Int)∉but→∀ k:Nat,k<b.secs.length→SatY b x k (T k) (svZ b i)
theorem right_mem {b:Book}(but:List Int){x:W4}(hs:∀ y∈b.svs,0≤y.s)(k:Nat)(t:Int):((Ybt b (Ycf b but) x.a x.b x.c x.d k).lo≤t∧t≤(Ybt b (Ycf b but) x.a x.b x.c x.d k).hi)↔((b.secs.getD k sec0).t.lo≤t∧t≤(b.secs.getD k sec0).t.hi)∧∀ i<b.svs.length,(i:Int)∉but→SatY b x k t (svZ b i):=by
 unfold Ybt
 rw[right_fold,Int.toNat_natCast]
 unfold Ycf
 rw[open_sat but hs _ (Nat.le_refl _)]
def Ydq (b:Book)(l:List Ent)(x:W4):Nat→Nat→TrC→TrC
 | 0,_,t=>t
 | f+1,i,t=>Ydq b l x f (i+1) (setF t i (Ybt b l x.a x.b x.c x.d i))
theorem leafGo_mem (b:Book)(l:List Ent)(x:W4)(u:TrC):∀(f i:Nat) (t:TrC),u∈Yd8 b l x f i t↔(∀ k,i≤k→k<i+f→(Ybt b l x.a x.b x.c x.d k).lo≤(Ybt b l x.a x.b x.c x.d k).hi)∧u=Ydq b l x f i t
 | 0,i,t=>by
  simp only[Yd8,Ydq,List.mem_singleton]
  exact⟨fun h=>⟨fun k h1 h2=>by omega,h⟩,fun h=>h.2⟩
 | f+1,i,t=>by
  simp only[Yd8,Ydq]
  by_cases h:(Ybt b l x.a x.b x.c x.d i).lo≤(Ybt b l x.a x.b x.c x.d i).hi
  ·rw[if_pos h,leafGo_mem b l x u f (i+1)]
   refine and_congr_left fun _=>⟨fun h' k h1 h2=>?_,fun h' k h1 h2=>h' k (by omega) (by omega)⟩
   by_cases e:k=i
   ·subst e;exact h
   ·exact h' k (by omega) (by omega)
  ·rw[if_neg h]
   simp only[List.not_mem_nil,false_iff,not_and]
   exact fun h'=>absurd (h' i (Nat.le_refl _) (by omega)) h
theorem firstF_set (t:TrC)(i:Nat)(s:Span)(hi:i<4)(k:Nat)(hk:k<4):Yb5 (setF t i s) k=if k=i then s else Yb5 t k:=by
 unfold Yb5
 rw[Int.toNat_natCast]
 match i,hi,k,hk with
 | 0,_,0,_=>rfl|0,_,1,_=>rfl|0,_,2,_=>rfl|0,_,3,_=>rfl
 | 1,_,0,_=>rfl|1,_,1,_=>rfl|1,_,2,_=>rfl|1,_,3,_=>rfl
 | 2,_,0,_=>rfl|2,_,1,_=>rfl|2,_,2,_=>rfl|2,_,3,_=>rfl
 | 3,_,0,_=>rfl|3,_,1,_=>rfl|3,_,2,_=>rfl|3,_,3,_=>rfl
theorem Yez (b:Book)(l:List Ent)(x:W4):∀(f i:Nat) (t:TrC),i+f≤4→∀ k:Nat,k<4→Yb5 (Ydq b l x f i t) k=if i≤k∧k<i+f then Ybt b l x.a x.b x.c x.d k else Yb5 t k
 | 0,i,t,_,k,_=>by
  rw[if_neg (by omega)]
  rfl
 | f+1,i,t,h,k,hk=>by
  simp only[Ydq]
  rw[Yez b l x f (i+1) _ (by omega) k hk]
  by_cases h1:i+1≤k∧k<i+1+f
  ·rw[if_pos h1,if_pos (by omega)]
  ·rw[if_neg h1,firstF_set t i _ (by omega) k hk]
   by_cases e:k=i
   ·subst e
    rw[if_pos rfl,if_pos (by omega)]
   ·rw[if_neg e,if_neg (by omega)]
theorem leafSet_w (b:Book)(l:List Ent)(x:W4):∀(f i:Nat) (t:TrC),(Ydq b l x f i t).w0=t.w0∧(Ydq b l x f i t).w1=t.w1∧(Ydq b l x f i t).w2=t.w2∧(Ydq b l x f i t).w3=t.w3
 | 0,_,_=>⟨rfl,rfl,rfl,rfl⟩
 | f+1,i,t=>by
  simp only[Ydq]
  obtain⟨h1,h2,h3,h4⟩:=leafSet_w b l x f (i+1) (setF t i (Ybt b l x.a x.b x.c x.d i))
  obtain⟨g1,g2,g3,g4⟩:=setF_w t i (Ybt b l x.a x.b x.c x.d i)
  exact⟨h1.trans g1,h2.trans g2,h3.trans g3,h4.trans g4⟩
theorem set_at (x:W4)(p:Nat)(n:Int)(hp:p<4)(q:Nat):(x.set p n).at q=if q=p then n else x.at q:=by
 match p,hp,q with
 | 0,_,0=>rfl|0,_,1=>rfl|0,_,2=>rfl|0,_,3=>rfl
 | 1,_,0=>rfl|1,_,1=>rfl|1,_,2=>rfl|1,_,3=>rfl
 | 2,_,0=>rfl|2,_,1=>rfl|2,_,2=>rfl|2,_,3=>rfl
 | 3,_,0=>rfl|3,_,1=>rfl|3,_,2=>rfl|3,_,3=>rfl
 | 0,_,q+4=>simp[W4.at]
 | 1,_,q+4=>simp[W4.at]
 | 2,_,q+4=>simp[W4.at]
 | 3,_,q+4=>simp[W4.at]
theorem W4.ext_at {x y:W4}(h:∀ q,q<4→x.at q=y.at q):x=y:=by
 obtain⟨a,b,c,d⟩:=x
 obtain⟨a',b',c',d'⟩:=y
 have h0:a=a':=h 0 (by omega)
 have h1:b=b':=h 1 (by omega)
 have h2:c=c':=h 2 (by omega)
 have h3:d=d':=h 3 (by omega)
 rw[h0,h1,h2,h3]
theorem rates_mem' {s:Span}{n:Int}(h0:0≤s.lo):n∈ratesF s↔s.lo≤n∧n≤s.hi:=by
 rw[rates_mem]
 omega
theorem whole_mem {b:Book}(l:List Ent)(u:TrC)(hw:∀ p,0≤(b.secs.getD p sec0).w.lo):∀(f p:Nat) (x:W4),p+f≤4→(u∈Ya3 b l f p x↔∃ y:W4,(∀ q,¬(p≤q∧q<p+f)→y.at q=x.at q)∧(∀ q,p≤q→q<p+f→(b.secs.getD q sec0).w.lo≤y.at q∧y.at q≤(b.secs.getD q sec0).w.hi)∧u∈leafF b l y)
 | 0,p,x,_=>by
  simp only[Ya3]
  constructor
  ·exact fun h=>⟨x,fun _ _=>rfl,fun q h1 h2=>by omega,h⟩
  ·rintro⟨y,h1,_,h3⟩
   have:y=x:=W4.ext_at fun q _=>h1 q (by omega)
   rwa [this]at h3
 | f+1,p,x,hp=>by
  simp only[Ya3,List.mem_flatMap]
  constructor
  ·rintro⟨n,hn,h⟩
   obtain⟨y,h1,h2,h3⟩:=(whole_mem l u hw f (p+1) (x.set p n) (by omega)).1 h
   have hn':=(rates_mem' (hw p)).1 hn
   refine⟨y,fun q hq=>?_,fun q q1 q2=>?_,h3⟩
   ·rw[h1 q (by omega),set_at x p n (by omega),if_neg (by omega)]
   ·by_cases e:q=p
    ·subst e
     rw[h1 q (by omega),set_at x q n (by omega),if_pos rfl]
     exact hn'
    ·exact h2 q (by omega) (by omega)
  ·rintro⟨y,h1,h2,h3⟩
   refine⟨y.at p,(rates_mem' (hw p)).2 (h2 p (Nat.le_refl _) (by omega)),(whole_mem l u hw f (p+1) (x.set p (y.at p)) (by omega)).2 ⟨y,fun q hq=>?_,fun q q1 q2=>h2 q (by omega) (by omega),h3⟩⟩
   rw[set_at x p _ (by omega)]
   by_cases e:q=p
   ·rw[if_pos e,e]
   ·rw[if_neg e]
    exact h1 q (by omega)
end Go.Di

namespace Go.Di
open Proofs
def wOf (u:TrC):W4:=⟨u.w0,u.w1,u.w2,u.w3⟩
theorem Valid.wlo {b:Book}(hV:Valid b)(p:Nat):0≤(b.secs.getD p sec0).w.lo:=by
 by_cases h:p<b.secs.length
 ·exact(hV.sec _ (Ybq b.secs p sec0 h)).w.1
 ·rw[List.getD_eq_getElem?_getD,List.getElem?_eq_none (by omega)]
  decide
theorem Valid.svs0 {b:Book}(hV:Valid b):∀ y∈b.svs,0≤y.s:=fun y hy=>(Ygg.1 (hV.sv y hy)).1.1
structure Base (b:Book):Prop where
 n4:b.secs.length≤4
 wlo:∀ p:Nat,0≤(b.secs.getD p sec0).w.lo
 svs0:∀ y∈b.svs,0≤y.s
theorem Valid.base {b:Book}(hV:Valid b):Base b:=⟨hV.secs.2,hV.wlo,hV.svs0⟩
theorem Base.more {b:Book}(hB:Base b){y:Sv}(hy:0≤y.s):Base (more b y):=⟨hB.n4,hB.wlo,fun z hz=>by
 rcases List.mem_append.1 hz with hz|hz
 ·exact hB.svs0 z hz
 ·simp only[List.mem_singleton]at hz
  subst hz
  exact hy⟩
theorem truth_mem {b:Book}(hV:Base b)(but:List Int)(u:TrC):u∈Yaj b but↔∃ x:W4,(∀ p<b.secs.length,(b.secs.getD p sec0).w.lo≤x.at p∧x.at p≤(b.secs.getD p sec0).w.hi)∧(∀ p,b.secs.length≤p→x.at p=0) ∧
  (∀ k,k<b.secs.length→(Ybt b (Ycf b but) x.a x.b x.c x.d k).lo≤(Ybt b (Ycf b but) x.a x.b x.c x.d k).hi)∧u=Ydq b (Ycf b but) x b.secs.length 0 (trOf x):=by
 have h4:=hV.n4
 have h0:∀ q:Nat,(⟨0,0,0,0⟩:W4).at q=0:=fun q=>by
  match q with
  | 0=>rfl
  | 1=>rfl
  | 2=>rfl
  | 3=>rfl
  | q+4=>simp[W4.at]
 unfold Yaj
 rw[whole_mem (Ycf b but) u hV.wlo b.secs.length 0 ⟨0,0,0,0⟩ (by omega)]
 unfold leafF
 constructor
 ·rintro⟨y,h1,h2,h3⟩
  obtain⟨h5,h6⟩:=(leafGo_mem b _ y u _ _ _).1 h3
  exact⟨y,fun p hp=>h2 p (Nat.zero_le _) (by omega),fun p hp=>(h1 p (by omega)).trans (h0 p),fun k hk=>h5 k (Nat.zero_le _) (by omega),h6⟩
 ·rintro⟨x,h1,h2,h3,h5⟩
  exact⟨x,fun q hq=>(h2 q (by omega)).trans (h0 q).symm,fun q _ hq=>h1 q (by omega),(leafGo_mem b _ x u _ _ _).2 ⟨fun k _ hk=>h3 k (by omega),h5⟩⟩
theorem leaf_wOf (b:Book)(l:List Ent)(x:W4)(f:Nat):wOf (Ydq b l x f 0 (trOf x))=x:=by
 obtain⟨h1,h2,h3,h4⟩:=leafSet_w b l x f 0 (trOf x)
 unfold wOf
 rw[h1,h2,h3,h4]
 rfl
theorem Yd0 {b:Book}(hV:Base b){but:List Int}{u:TrC}(hu:u∈Yaj b but){T:Nat→Int}(hT:∀ k:Nat,k<b.secs.length→(Yb5 u k).lo≤T k∧T k≤(Yb5 u k).hi):Feas b but T (wOf u):=by
 have h4:=hV.n4
 obtain⟨x,h1,h2,h3,rfl⟩:=(truth_mem hV but u).1 hu
 rw[leaf_wOf]
 have hf:∀ k:Nat,k<b.secs.length→Yb5 (Ydq b (Ycf b but) x b.secs.length 0 (trOf x)) k=Ybt b (Ycf b but) x.a x.b x.c x.d k:=fun k hk=>by
  rw[Yez b _ x _ 0 _ (by omega) k (by omega),if_pos (by omega)]
 have hr:∀ k:Nat,k<b.secs.length→((b.secs.getD k sec0).t.lo≤T k∧T k≤(b.secs.getD k sec0).t.hi)∧∀ i<b.svs.length,(i:Int)∉but→SatY b x k (T k) (svZ b i):=fun k hk=>by
  have:=hT k hk
  rw[hf k hk]at this
  exact(right_mem but hV.svs0 k (T k)).1 this
 exact⟨h1,h2,fun k hk=>(hr k hk).1,fun i hi hn k hk=>(hr k hk).2 i hi hn⟩
theorem Ygy {b:Book}(hV:Base b){but:List Int}{T:Nat→Int}{x:W4}(h:Feas b but T x):∃ u∈Yaj b but,wOf u=x∧∀ k:Nat,k<b.secs.length→(Yb5 u k).lo≤T k∧T k≤(Yb5 u k).hi:=by
 have h4:=hV.n4
 have hr:∀ k:Nat,k<b.secs.length→(Ybt b (Ycf b but) x.a x.b x.c x.d k).lo≤T k∧T k≤(Ybt b (Ycf b but) x.a x.b x.c x.d k).hi:=fun k hk =>
  (right_mem but hV.svs0 k (T k)).2 ⟨h.thick k hk,fun i hi hn=>h.right i hi hn k hk⟩
 refine⟨Ydq b (Ycf b but) x b.secs.length 0 (trOf x),(truth_mem hV but _).2 ⟨x,h.wear,h.zero,fun k hk=>by have:=hr k hk;omega,rfl⟩,leaf_wOf _ _ _ _,fun k hk=>?_⟩
 rw[Yez b _ x _ 0 _ (by omega) k (by omega),if_pos (by omega)]
 exact hr k hk
theorem Ygf {b:Book}(hV:Base b){but:List Int}{u:TrC}(hu:u∈Yaj b but)(k:Nat)(hk:k<b.secs.length):(Yb5 u k).lo≤(Yb5 u k).hi:=by
 have h4:=hV.n4
 obtain⟨x,h1,h2,h3,rfl⟩:=(truth_mem hV but u).1 hu
 rw[Yez b _ x _ 0 _ (by omega) k (by omega),if_pos (by omega)]
 exact h3 k hk
theorem can_iff {b:Book}(hV:Base b)(but:List Int):Yaj b but≠[]↔∃ T x,Feas b but T x:=by
 constructor
 ·intro h
  obtain⟨u,hu⟩:=List.exists_mem_of_ne_nil _ h
  exact⟨fun k=>(Yb5 u k).lo,wOf u,Yd0 hV hu fun k hk=>⟨Int.le_refl _,Ygf hV hu k hk⟩⟩
 ·rintro⟨T,x,h⟩ h0
  obtain⟨u,hu,_⟩:=Ygy hV h
  rw[h0]at hu
  cases hu
theorem told_fold (g:TrC→Span):∀(ts:List TrC) (s:Span),((ts.foldl (fun o t=>Ycg o (g t)) s).lo=s.lo∨∃ t∈ts,(ts.foldl (fun o t=>Ycg o (g t)) s).lo=(g t).lo)∧((ts.foldl (fun o t=>Ycg o (g t)) s).hi=s.hi∨∃ t∈ts,(ts.foldl (fun o t=>Ycg o (g t)) s).hi=(g t).hi) ∧
  (ts.foldl (fun o t=>Ycg o (g t)) s).lo≤s.lo∧s.hi≤(ts.foldl (fun o t=>Ycg o (g t)) s).hi∧∀ t∈ts,(ts.foldl (fun o t=>Ycg o (g t)) s).lo≤(g t).lo∧(g t).hi≤(ts.foldl (fun o t=>Ycg o (g t)) s).hi
 | [],s=>⟨.inl rfl,.inl rfl,Int.le_refl _,Int.le_refl _,fun t ht=>by cases ht⟩
 | t::ts,s=>by
  obtain⟨h1,h2,h3,h4,h5⟩:=told_fold g ts (Ycg s (g t))
  have e1:(Ycg s (g t)).lo=s.lo∨(Ycg s (g t)).lo=(g t).lo:=by simp only[Ycg,mn];split<;>simp
  have e2:(Ycg s (g t)).hi=s.hi∨(Ycg s (g t)).hi=(g t).hi:=by simp only[Ycg,mx];split<;>simp
  have e3:(Ycg s (g t)).lo≤s.lo∧(Ycg s (g t)).lo≤(g t).lo:=by simp only[Ycg,mn];split<;>omega
  have e4:s.hi≤(Ycg s (g t)).hi∧(g t).hi≤(Ycg s (g t)).hi:=by simp only[Ycg,mx];split<;>omega
  simp only[List.foldl_cons]
  refine⟨?_,?_,by omega,by omega,fun u hu=>?_⟩
  ·rcases h1 with h1|⟨u,hu,h1⟩
   ·rcases e1 with e1|e1
    ·exact .inl (h1.trans e1)
    ·exact .inr ⟨t,by simp,h1.trans e1⟩
   ·exact .inr ⟨u,by simp[hu],h1⟩
  ·rcases h2 with h2|⟨u,hu,h2⟩
   ·rcases e2 with e2|e2
    ·exact .inl (h2.trans e2)
    ·exact .inr ⟨t,by simp,h2.trans e2⟩
   ·exact .inr ⟨u,by simp[hu],h2⟩
  ·rcases List.mem_cons.1 hu with rfl|hu
   ·omega
   ·exact h5 u hu
theorem Yek (g:TrC→Span){ts:List TrC}(hne:ts≠[]):(∃ t∈ts,(Yc2 g ts).lo=(g t).lo)∧(∃ t∈ts,(Yc2 g ts).hi=(g t).hi)∧∀ t∈ts,(Yc2 g ts).lo≤(g t).lo∧(g t).hi≤(Yc2 g ts).hi:=by
 obtain⟨h1,h2,_,_,h5⟩:=told_fold g ts (g (ts.getD 0 trc0))
 have h0:ts.getD 0 trc0∈ts:=Ybq ts 0 trc0 (List.length_pos_iff.2 hne)
 refine⟨?_,?_,h5⟩
 ·rcases h1 with h1|h1
  ·exact⟨_,h0,h1⟩
  ·exact h1
 ·rcases h2 with h2|h2
  ·exact⟨_,h0,h2⟩
  ·exact h2
def wornX (b:Book)(turns:List Int)(x:W4)(k:Nat)(d:Int):Int:=Yd3 b.secs.length x.a x.b x.c x.d turns k d.toNat
theorem wornT_eq (b:Book)(turns:List Int)(k:Nat)(d:Int)(u:TrC):wornT b turns k d u=wornX b turns (wOf u) k d:=rfl
theorem thick_in {b:Book}(hV:Base b){but:List Int}{T:Nat→Int}{x:W4}(h:Feas b but T x)(turns:List Int)(k:Nat)(hk:k<b.secs.length)(d:Int) :
  (Ybn b (Yaj b but) turns k d).lo≤T k-wornX b turns x k d∧T k-wornX b turns x k d≤(Ybn b (Yaj b but) turns k d).hi:=by
 obtain⟨u,hu,rfl,hf⟩:=Ygy hV h
 have hne:Yaj b but≠[]:=fun e=>by rw[e]at hu;cases hu
 have:=(Yek (Yg0 b turns k d) hne).2.2 u hu
 have hk':=hf k hk
 simp only[Yg0,wornT_eq]at this
 unfold Ybn
 omega
theorem thick_lo {b:Book}(hV:Base b){but:List Int}(hne:Yaj b but≠[])(turns:List Int)(k:Nat)(hk:k<b.secs.length)(d:Int):∃ T x,Feas b but T x∧T k-wornX b turns x k d=(Ybn b (Yaj b but) turns k d).lo:=by
 obtain⟨u,hu,h⟩:=(Yek (Yg0 b turns k d) hne).1
 exact⟨fun k=>(Yb5 u k).lo,wOf u,Yd0 hV hu fun k hk=>⟨Int.le_refl _,Ygf hV hu k hk⟩,h.symm⟩
theorem thick_hi {b:Book}(hV:Base b){but:List Int}(hne:Yaj b but≠[])(turns:List Int)(k:Nat)(hk:k<b.secs.length)(d:Int):∃ T x,Feas b but T x∧T k-wornX b turns x k d=(Ybn b (Yaj b but) turns k d).hi:=by
 obtain⟨u,hu,h⟩:=(Yek (Yg0 b turns k d) hne).2.1
 exact⟨fun k=>(Yb5 u k).hi,wOf u,Yd0 hV hu fun k hk=>⟨Ygf hV hu k hk,Int.le_refl _⟩,h.symm⟩
theorem wearAt_eq (p:Nat)(u:TrC):Ybe p u=⟨(wOf u).at p,(wOf u).at p⟩:=by
 unfold Ybe
 rw[Int.toNat_natCast]
 rfl
theorem wear_in {b:Book}(hV:Base b){but:List Int}{T:Nat→Int}{x:W4}(h:Feas b but T x)(p:Nat):(Yc2 (Ybe p) (Yaj b but)).lo≤x.at p∧x.at p≤(Yc2 (Ybe p) (Yaj b but)).hi:=by
 obtain⟨u,hu,rfl,_⟩:=Ygy hV h
 have hne:Yaj b but≠[]:=fun e=>by rw[e]at hu;cases hu
 have:=(Yek (Ybe p) hne).2.2 u hu
 rw[wearAt_eq]at this
 exact this
theorem wear_lo {b:Book}(hV:Base b){but:List Int}(hne:Yaj b but≠[])(p:Nat):∃ T x,Feas b but T x∧x.at p=(Yc2 (Ybe p) (Yaj b but)).lo:=by
 obtain⟨u,hu,h⟩:=(Yek (Ybe p) hne).1
 rw[wearAt_eq]at h
 exact⟨fun k=>(Yb5 u k).lo,wOf u,Yd0 hV hu fun k hk=>⟨Int.le_refl _,Ygf hV hu k hk⟩,h.symm⟩
theorem wear_hi {b:Book}(hV:Base b){but:List Int}(hne:Yaj b but≠[])(p:Nat):∃ T x,Feas b but T x∧x.at p=(Yc2 (Ybe p) (Yaj b but)).hi:=by
 obtain⟨u,hu,h⟩:=(Yek (Ybe p) hne).2.1
 rw[wearAt_eq]at h
 exact⟨fun k=>(Yb5 u k).lo,wOf u,Yd0 hV hu fun k hk=>⟨Int.le_refl _,Ygf hV hu k hk⟩,h.symm⟩
end Go.Di

namespace Go.Di
open Proofs
theorem err_zero {b:Book}(hV:Valid b)(hc:canF b=true):errF b true=0:=by
 unfold errF
 rw[Ycq.2 hV,hc]
 rfl
theorem small_of {b:Book}(hV:Valid b):Small b:=⟨by have:=hV.secs;omega,by have:=hV.turns;omega,by have:=hV.svs;omega⟩
theorem thickU_con {b:Book}(hV:Valid b)(hc:canF b=true){s d:Int}(hs:0≤s∧s<b.secs.length)(hd:0≤d∧d≤b.days):CF 111 [Yag b,.int .i64 s,.int .i64 d] (.tup [spD (Ybn b (Yaj b []) b.turns s d),.int .i64 0]):=by
 have h:=thickA_con (small_of hV) s d
 have h1:Yaf b s=true:=by unfold Yaf;rw[Yat];omega
 have h2:Yaw b d=true:=by unfold Yaw;rw[Yat];omega
 unfold askE at h
 rw[h1,h2,Bool.and_self,err_zero hV hc,show spanOr 0 (Ybn b (Yaj b []) b.turns s d)=Ybn b (Yaj b []) b.turns s d from if_pos rfl]at h
 exact h.up
theorem wearU_con {b:Book}(hV:Valid b)(hc:canF b=true){s:Int}(hs:0≤s∧s<b.secs.length):CF 110 [Yag b,.int .i64 s] (.tup [spD (Yc2 (Ybe s) (Yaj b [])),.int .i64 0]):=by
 have h:=wearA_con (small_of hV) s
 have h1:Yaf b s=true:=by unfold Yaf;rw[Yat];omega
 rw[h1,err_zero hV hc,show spanOr 0 (Yc2 (Ybe s) (Yaj b []))=Yc2 (Ybe s) (Yaj b []) from if_pos rfl]at h
 exact h.up
def Ydv (x:FBook)(s k:Nat):List Int:=(List.range k).map fun d=>thickLo x.chain (s:Nat) (d:Nat)
def thTo (x:FBook)(i:Nat):List (List Int):=(List.range i).map fun s=>Ydv x s (x.chain.days+1).toNat
def wrTo (x:FBook)(i:Nat):List Int:=(List.range i).map fun s=>wearHi x.chain (s:Nat)
theorem Ye7 {α:Type}(f:Nat→α)(i:Nat):(List.range (i+1)).map f=(List.range i).map f++[f i]:=by rw[List.range_succ,List.map_append];rfl
def knIn (x:FBook)(m:List (K2×Bool))(i j:Nat)(y:Int)(r:List Int):List (List Int)→List Int→List (Key×Val)
 | [],[]=>knowAn_S2 x m i j y r
 | [],z::l=>Yep x m i j y r z l
 | t::q,[]=>knowBn_S2 x m i j y r t q
 | t::q,z::l=>Yeo x m i j y r t q z l
def knS (x:FBook)(m:List (K2×Bool))(i:Nat):List Int→List (List Int)→List (Key×Val)
 | y::r,t::q=>Ye0 x m i y r t q
 | _,_=>knowA_S0 x m i
theorem know_in {x:FBook}(hV:Valid x.chain)(hc:canF x.chain=true)(m:List (K2×Bool))(i:Nat)(hi:i<x.chain.secs.length)(y:Int)(r:List Int)(th:List (List Int)) :
  LF 63 (k_81 [1,0,1,0,0,1,1,0,0,1,1,1,1,0,1]) (knIn x m i 0 y r th []) .normal (knIn x m i (x.chain.days+1).toNat y r th (Ydv x i (x.chain.days+1).toNat)):=by
 have hd:=hV.days
 refine LF.each (id:=2) (c:=k_81 [1,0,1,0,0,1,1,0,0,1,1,1,1,0,1,0,0]) (by kernel_rfl) (x.chain.days+1).toNat (fun j=>knIn x m i j y r th (Ydv x i j)) (fun j hj=>?_) ?_
 ·have hth:=thickU_con hV hc (s:=(i:Int)) (d:=(j:Int)) (by omega) (by omega)
  have hn:Ydv x i (j+1)=Ydv x i j++[(Ybn x.chain (Yaj x.chain []) x.chain.turns i j).lo]:=Ye7 _ j
  have hlen:(Ydv x i j).length≤31:=by unfold Ydv;rw[List.length_map,List.length_range];omega
  simp only[hn]
  cases th with
  | nil =>
   cases hl:Ydv x i j with
   | nil=>exact⟨_,_,_,_,_,_,knowAn_2_on x m i j y r (Ybn x.chain (Yaj x.chain []) x.chain.turns i j) 0,⟨decide_eq_true (by omega),hth,by omega,by omega,Yap (by omega) (by omega),trivial⟩,rfl⟩
   | cons z l =>
    rw[hl]at hlen
    exact⟨_,_,_,_,_,_,knowAo_2_on x m i j y r z l (Ybn x.chain (Yaj x.chain []) x.chain.turns i j) 0,⟨decide_eq_true (by omega),hth,by omega,rfl,by rw[List.length_append];simp only[List.length_cons,List.length_nil]at hlen ⊢;omega,Yap (by omega) (by omega),trivial⟩,rfl⟩
  | cons t q =>
   cases hl:Ydv x i j with
   | nil=>exact⟨_,_,_,_,_,_,knowBn_2_on x m i j y r t q (Ybn x.chain (Yaj x.chain []) x.chain.turns i j) 0,⟨decide_eq_true (by omega),hth,by omega,by omega,Yap (by omega) (by omega),trivial⟩,rfl⟩
   | cons z l =>
    rw[hl]at hlen
    exact⟨_,_,_,_,_,_,knowBo_2_on x m i j y r t q z l (Ybn x.chain (Yaj x.chain []) x.chain.turns i j) 0,⟨decide_eq_true (by omega),hth,by omega,rfl,by rw[List.length_append];simp only[List.length_cons,List.length_nil]at hlen ⊢;omega,Yap (by omega) (by omega),trivial⟩,rfl⟩
 ·have hf:decide ((((x.chain.days+1).toNat:Nat):Int)<x.chain.days+1)=false:=decide_eq_false (by omega)
  cases th with
  | nil=>cases Ydv x i (x.chain.days+1).toNat with
   | nil=>exact⟨_,_,_,_,_,_,_,knowAn_2_end x m i _ y r,⟨hf,trivial⟩,.inl ⟨rfl,rfl⟩,rfl⟩
   | cons z l=>exact⟨_,_,_,_,_,_,_,knowAo_2_end x m i _ y r z l,⟨hf,trivial⟩,.inl ⟨rfl,rfl⟩,rfl⟩
  | cons t q=>cases Ydv x i (x.chain.days+1).toNat with
   | nil=>exact⟨_,_,_,_,_,_,_,knowBn_2_end x m i _ y r t q,⟨hf,trivial⟩,.inl ⟨rfl,rfl⟩,rfl⟩
   | cons z l=>exact⟨_,_,_,_,_,_,_,knowBo_2_end x m i _ y r t q z l,⟨hf,trivial⟩,.inl ⟨rfl,rfl⟩,rfl⟩
theorem know_con {x:FBook}(hV:FValid x)(hc:canF x.chain=true)(m:List (K2×Bool)):CF 81 [fopD x m] (fbkD x (.work m) (Ybp x) (Ybo x)):=by
 have hC:=hV.chain
 have hd:=hC.days
 have hn:=hC.secs
 have hfe:=hV.feet
 have hloop:LF 63 (k_81 [1,0,1]) (knS x m 0 (wrTo x 0) (thTo x 0)) .normal (knS x m x.feet.length (wrTo x x.feet.length) (thTo x x.feet.length)):=by
  refine LF.each (id:=0) (c:=k_81 [1,0,1,0,0]) (by kernel_rfl) x.feet.length (fun i=>knS x m i (wrTo x i) (thTo x i)) (fun i hi=>?_) ?_
  ·have hw:=wearU_con hC hc (s:=(i:Int)) (by omega)
   have e1:wrTo x (i+1)=wrTo x i++[(Yc2 (Ybe (i:Int)) (Yaj x.chain [])).hi]:=Ye7 _ i
   have e2:thTo x (i+1)=thTo x i++[Ydv x i (x.chain.days+1).toNat]:=Ye7 _ i
   have hrow:∃ z l,Ydv x i (x.chain.days+1).toNat=z::l:=by
    cases h:Ydv x i (x.chain.days+1).toNat with
    | nil =>
     have:=congrArg List.length h
     unfold Ydv at this
     rw[List.length_map,List.length_range]at this
     simp at this
     omega
    | cons z l=>exact⟨z,l,rfl⟩
   obtain⟨z,l,hrow⟩:=hrow
   simp only[e1,e2]
   have hin:=know_in hC hc m i (by omega)
   rw[hrow]at hin ⊢
   cases i with
   | zero=>exact⟨_,_,_,_,_,_,knowA_0_on x m 0 (Yc2 (Ybe ((0:Nat):Int)) (Yaj x.chain [])) 0 (x.chain.days+1).toNat z l,⟨Yaq hi,hw,by omega,by omega,rfl,Yap (by omega) (by omega),hin (Yc2 (Ybe ((0:Nat):Int)) (Yaj x.chain [])).hi [] [],rfl,by omega,rfl,Yap (by omega) (by omega),trivial⟩,rfl⟩
   | succ i =>
    have hwl:(wrTo x (i+1)).length=i+1:=by unfold wrTo;rw[List.length_map,List.length_range]
    have htl:(thTo x (i+1)).length=i+1:=by unfold thTo;rw[List.length_map,List.length_range]
    obtain⟨y,r,hy⟩:=List.exists_cons_of_length_eq_add_one hwl
    obtain⟨t,q,ht⟩:=List.exists_cons_of_length_eq_add_one htl
    rw[hy]at hwl
    rw[ht]at htl
    rw[hy,ht]
    exact⟨_,_,_,_,_,_,knowB_0_on x m (i+1) y r t q (Yc2 (Ybe ((i+1:Nat):Int)) (Yaj x.chain [])) 0 (x.chain.days+1).toNat z l,⟨Yaq hi,hw,by omega,rfl,by rw[List.length_append,hwl,List.length_singleton];omega,rfl,Yap (by omega) (by omega),hin y _ (t::q),rfl,rfl,by rw[List.length_append,htl,List.length_singleton];omega,rfl,Yap (by omega) (by omega),trivial⟩,rfl⟩
  ·have hwl:(wrTo x x.feet.length).length=(x.feet.length-1)+1:=by unfold wrTo;rw[List.length_map,List.length_range];omega
   have htl:(thTo x x.feet.length).length=(x.feet.length-1)+1:=by unfold thTo;rw[List.length_map,List.length_range];omega
   obtain⟨y,r,hy⟩:=List.exists_cons_of_length_eq_add_one hwl
   obtain⟨t,q,ht⟩:=List.exists_cons_of_length_eq_add_one htl
   rw[hy,ht]
   exact⟨_,_,_,_,_,_,_,knowB_0_end x m _ y r t q,⟨Yaz,trivial⟩,.inl ⟨rfl,rfl⟩,rfl⟩
 have hwl:(wrTo x x.feet.length).length=(x.feet.length-1)+1:=by unfold wrTo;rw[List.length_map,List.length_range];omega
 have htl:(thTo x x.feet.length).length=(x.feet.length-1)+1:=by unfold thTo;rw[List.length_map,List.length_range];omega
 obtain⟨y,r,hy⟩:=List.exists_cons_of_length_eq_add_one hwl
 obtain⟨t,q,ht⟩:=List.exists_cons_of_length_eq_add_one htl
 have e1:Ybo x=y::r:=hy
 have e2:Ybp x=t::q:=ht
 rw[show knS x m 0 (wrTo x 0) (thTo x 0)=knowA_S0 x m 0 from rfl,hy,ht,show knS x m x.feet.length (y::r) (t::q)=Ye0 x m x.feet.length y r t q from rfl]at hloop
 rw[e1,e2]
 exact Yaa (GF 63) knowB_fn (knowB_all x m x.feet.length y r t q) ⟨hloop,rfl,rfl,rfl,rfl,trivial⟩
theorem wearHi_in {b:Book}(hV:Valid b)(hc:canF b=true){p:Nat}(hp:p<4):0≤wearHi b p∧wearHi b p≤1000:=by
 obtain⟨_,⟨t,ht,he⟩,_⟩:=Yek (Ybe p) (ne_of_can hc)
 have ho:=truths_ok hV [] t ht
 unfold wearHi
 rw[he]
 simp only[Ybe,Int.toNat_natCast]
 clear he ht
 have h4:p=0∨p=1∨p=2∨p=3:=by omega
 rcases h4 with rfl|rfl|rfl|rfl
 ·exact ho.w0
 ·exact ho.w1
 ·exact ho.w2
 ·exact ho.w3
theorem thickLo_in {b:Book}(hV:Valid b)(hc:canF b=true){s d:Nat}(hs:s<b.secs.length)(hd:(d:Int)≤b.days):-1000000≤thickLo b s d∧thickLo b s d≤1000000:=by
 obtain⟨⟨t,ht,he⟩,_⟩:=Yek (Yg0 b b.turns s d) (ne_of_can hc)
 have ho:=truths_ok hV [] t ht
 have hdd:=hV.days
 have hn:=hV.secs
 have hw:=wornF_in (n:=b.secs.length) (s:=(s:Int)) (turns:=b.turns) ho.w0 ho.w1 ho.w2 ho.w3 d
 have h200:0≤(Yb5 t s).lo∧(Yb5 t s).lo≤200:=by
  have h2:=(wholeGo_ok hV.sec (Ycf b []) b.secs.length 0 ⟨0,0,0,0⟩ (by omega) zero4 t ht).1
  have hs4:s<4:=by omega
  obtain⟨q0,q1,q2,q3⟩:=h2
  simp only[Yb5,Int.toNat_natCast]
  clear he hw hs hd
  have h4:s=0∨s=1∨s=2∨s=3:=by omega
  rcases h4 with rfl|rfl|rfl|rfl
  ·exact⟨q0.1,Int.le_trans q0.2.1 q0.2.2⟩
  ·exact⟨q1.1,Int.le_trans q1.2.1 q1.2.2⟩
  ·exact⟨q2.1,Int.le_trans q2.2.1 q2.2.2⟩
  ·exact⟨q3.1,Int.le_trans q3.2.1 q3.2.2⟩
 unfold thickLo Ybn
 rw[he]
 simp only[Yg0,wornT,Int.toNat_natCast]
 show -1000000≤(Yb5 t s).lo-Yd3 b.secs.length t.w0 t.w1 t.w2 t.w3 b.turns s d∧(Yb5 t s).lo-Yd3 b.secs.length t.w0 t.w1 t.w2 t.w3 b.turns s d≤1000000
 omega
theorem know_ok {x:FBook}(hV:FValid x)(hc:canF x.chain=true):KnOk x (Ybp x) (Ybo x):=by
 have hfe:=hV.feet
 have hn:=hV.chain.secs
 refine⟨by unfold Ybo;rw[List.length_map,List.length_range],fun n hn'=>?_,by unfold Ybp;rw[List.length_map,List.length_range],fun l hl=>?_,fun l hl n hn'=>?_⟩
 ·obtain⟨s,hs,rfl⟩:=List.mem_map.1 hn'
  rw[List.mem_range]at hs
  exact wearHi_in hV.chain hc (by omega)
 ·obtain⟨s,hs,rfl⟩:=List.mem_map.1 hl
  rw[List.length_map,List.length_range]
 ·obtain⟨s,hs,rfl⟩:=List.mem_map.1 hl
  obtain⟨d,hd,rfl⟩:=List.mem_map.1 hn'
  rw[List.mem_range]at hs hd
  exact thickLo_in hV.chain hc (by omega) (by omega)
end Go.Di

