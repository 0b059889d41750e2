/- Part 17: contracts are proved. No condition. -/
import Derived.Test.YtfkmodcjddfeiaaGreatDoorDi16
set_option linter.unusedVariables false
set_option linter.unusedSimpArgs false
namespace Go.Di
open Proofs
noncomputable abbrev k_74 (p:List Nat):Code:=Code.at p (body Proofs.Tryz.f74)
noncomputable abbrev k_75 (p:List Nat):Code:=Code.at p (body Proofs.Tryz.f75)
noncomputable abbrev k_19 (p:List Nat):Code:=Code.at p (body Proofs.Tryz.f19)
theorem Zcf:FnOk PRG (MF 24) 84 (body Tryz.f84) [.tmp 4]:=by refine⟨Tryz.f84,?_,?_,?_,?_,?_⟩<;>kernel_rfl
theorem Xhf:FnOk PRG (MF 25) 74 (body Tryz.f74) [.tmp 4]:=by refine⟨Tryz.f74,?_,?_,?_,?_,?_⟩<;>kernel_rfl
theorem Xch:FnOk PRG (MF 31) 75 (body Tryz.f75) [.tmp 4]:=by refine⟨Tryz.f75,?_,?_,?_,?_,?_⟩<;>kernel_rfl
theorem Xcj:FnOk PRG (MF 67) 19 (body Tryz.f19) [.tmp 2]:=by refine⟨Tryz.f19,?_,?_,?_,?_,?_⟩<;>kernel_rfl
theorem Xe0:FnOk PRG (MF 16) 6 (body Tryz.f6) [.cell 2 28]:=by refine⟨Tryz.f6,?_,?_,?_,?_,?_⟩<;>kernel_rfl
theorem Xfq:FnOk PRG (MF 45) 9 (body Tryz.f9) [.tmp 4]:=by refine⟨Tryz.f9,?_,?_,?_,?_,?_⟩<;>kernel_rfl
def Yok (x:FBook)(plan:List Work)(n:Int)(i:Nat):KV :=
 [(.tmp 1,.d (D.z E.work plan)),
  (.tmp 2,.d (D.ptr 2 0)),
  (.tmp 5,.d (.I n)),
  (.tmp 6,.d (.I i)),
  (.box 2,.bz (cellsOf (Yab x)))]
def Zre:List Key:=[.tmp 1,.tmp 2,.tmp 5,.tmp 6,.box 2]
def Yhm (x:FBook)(plan:List Work)(i:Nat):KV :=
 [(.tmp 1,.d (D.z E.work plan)),
  (.tmp 2,.d (D.ptr 2 0)),
  (.tmp 5,.d (.I i)),
  (.box 2,.bz (cellsOf (Yab x)))]
def Zgf:List Key:=[.tmp 1,.tmp 2,.tmp 5,.box 2]
def Yom (x:FBook)  : KV :=
 [(.tmp 1,.d (D.ptr 1 0)),
  (.box 1,.bz (cellsOf (Yab x)))]
def Zrp:List Key:=[.tmp 1,.box 1]
def Ylc:List Key:=[.tmp 1,.tmp 3,.box 1]
def Yfj (x:FBook)  (ok:Bool):KV :=
 [(.tmp 1,.d (D.ptr 1 0)),
  (.tmp 3,.d (.bool ok)),
  (.box 1,.bz (cellsOf (Yab x)))]
def Ygd (x:FBook)(ok:Bool)(i:Nat):KV :=
 [(.tmp 1,.d (D.ptr 1 0)),
  (.tmp 3,.d (.bool ok)),
  (.tmp 4,.d (.I i)),
  (.box 1,.bz (cellsOf (Yab x)))]
def Yx0:List Key:=[.tmp 1,.tmp 3,.tmp 4,.box 1]
def Yni (x:FBook)(plan:List Work)(i:Nat)(v:Int):KV :=
 [(.tmp 1,.d (D.z E.work plan)),(.tmp 2,.d (D.ptr 2 0)),(.tmp 5,.d (D.I (i:Int))),(.box 2,.bz (cellsOf (Yab x))),(.tmp 4,.d (D.I (i:Int)))]
theorem Zx9 (x:FBook)(plan:List Work)(n:Int)(i:Nat) :runK (MF 25) [(10,true)] [] [] (k_74 [1,1,0,1,0,0]) (Yok x plan n i) Zre =let Z0:=List.getD plan (i) Yam;some ([decide ((i:Int)<(plan.length:Int))=true,(0:Int)<=(i:Int)/\(i:Int)<(plan.length:Int),0+1+1<=2,(0:Int)<=Work.s Z0/\Work.s Z0<(x.feet.length:Int),0+1<=1,Yae (n+List.getD x.feet (Int.toNat (Work.s Z0)) (0:Int)),Yae ((i:Int)+(1:Int))],Ex.normal,Yok x plan (n+x.feet.getD ((plan.getD i Yam).s).toNat 0) (i+1)):=by kernel_rfl
theorem Zrf (x:FBook)(plan:List Work)(n:Int)(i:Nat) :runK (MF 25) [(10,false)] [] [] (k_74 [1,1,0,1,0,0]) (Yok x plan n i) Zre =some ([decide ((i:Int)<(plan.length:Int))=false],Ex.exit 0,Yok x plan n i):=by kernel_rfl
theorem Zxy (x:FBook)(plan:List Work)(i:Nat)(v:Int) :runK (MF 31) [(9,true),(29,false)] [(17,.I v)] [] (k_75 [1,0,1,0,0]) (Yhm x plan i) Zgf =let Z0:=List.getD plan (i) Yam;let Z1:Prop:=Yae ((i:Int)+(1:Int));some ([decide ((i:Int)<(plan.length:Int))=true,Z1,(0:Int)<=(0:Int)/\(0:Int)<=(i:Int)+(1:Int)/\(i:Int)+(1:Int)<=(plan.length:Int),CF 74 [Yab x,D.z E.work (List.drop 0 (List.take (Int.toNat ((i:Int)+(1:Int))) plan))] (D.I v),(0:Int)<=(i:Int)/\(i:Int)<(plan.length:Int),0+0+1<=2,Yae (x.make*Work.d Z0),Yae (x.stock+x.make*Work.d Z0),decide (v>x.stock+x.make*Work.d Z0)=false,Z1],Ex.normal,Yhm x plan (i+1)):=by kernel_rfl
theorem Zqk (x:FBook)(plan:List Work)(i:Nat)(v:Int) :runK (MF 31) [(9,true),(29,true)] [(17,.I v)] [] (k_75 [1,0,1,0,0]) (Yhm x plan i) [.tmp 1,.tmp 2,.tmp 5,.box 2,.tmp 4] =let Z0:=List.getD plan (i) Yam;some ([decide ((i:Int)<(plan.length:Int))=true,Yae ((i:Int)+(1:Int)),(0:Int)<=(0:Int)/\(0:Int)<=(i:Int)+(1:Int)/\(i:Int)+(1:Int)<=(plan.length:Int),CF 74 [Yab x,D.z E.work (List.drop 0 (List.take (Int.toNat ((i:Int)+(1:Int))) plan))] (D.I v),(0:Int)<=(i:Int)/\(i:Int)<(plan.length:Int),0+0+1<=2,Yae (x.make*Work.d Z0),Yae (x.stock+x.make*Work.d Z0),decide (v>x.stock+x.make*Work.d Z0)=true],Ex.ret,Yni x plan i v):=by kernel_rfl
theorem Zql (x:FBook)(plan:List Work)(i:Nat) :runK (MF 31) [(9,false)] [] [] (k_75 [1,0,1,0,0]) (Yhm x plan i) Zgf =some ([decide ((i:Int)<(plan.length:Int))=false],Ex.exit 0,Yhm x plan i):=by kernel_rfl
theorem Zyn (x:FBook) :runK (MF 67) [(9,false)] [(7,.I (Yai x.chain)),(22,.bool (Yad x.new 0 200)),(37,.bool (Ycq x.opn (x.chain.days+1))),(42,.bool (Yad x.stock 0 200)),(47,.bool (Yad x.make 0 9))] [] (k_19 [1,0]) (Yom x ) Ylc =some ([CF 56 [Yah x.chain] (D.I (Yai x.chain)),(Yai x.chain==(0:Int))=false,(Yai x.chain==(0:Int))=false,(Yai x.chain==(0:Int))=false,(Yai x.chain==(0:Int))=false,(Yai x.chain==(0:Int))=false,(Yai x.chain==(0:Int))=false,(Yai x.chain==(0:Int))=false,(Yai x.chain==(0:Int))=false,(Yai x.chain==(0:Int))=false],Ex.normal,Yfj x false):=by kernel_rfl
theorem Zym (x:FBook) :runK (MF 67) [(9,true),(19,false)] [(7,.I (Yai x.chain)),(22,.bool (Yad x.new 0 200)),(37,.bool (Ycq x.opn (x.chain.days+1))),(42,.bool (Yad x.stock 0 200)),(47,.bool (Yad x.make 0 9))] [] (k_19 [1,0]) (Yom x ) Ylc =some ([CF 56 [Yah x.chain] (D.I (Yai x.chain)),(Yai x.chain==(0:Int))=true,(Yai x.chain==(0:Int))=true,(Yai x.chain==(0:Int))=true,(Yai x.chain==(0:Int))=true,(Yai x.chain==(0:Int))=true,(Yai x.chain==(0:Int))=true,(Yai x.chain==(0:Int))=true,(Yai x.chain==(0:Int))=true,(Yai x.chain==(0:Int))=true,((x.feet.length:Int)==(x.chain.secs.length:Int))=false,((x.feet.length:Int)==(x.chain.secs.length:Int))=false,((x.feet.length:Int)==(x.chain.secs.length:Int))=false,((x.feet.length:Int)==(x.chain.secs.length:Int))=false],Ex.normal,Yfj x false):=by kernel_rfl
theorem Zyl (x:FBook) :runK (MF 67) [(9,true),(19,true),(24,false)] [(7,.I (Yai x.chain)),(22,.bool (Yad x.new 0 200)),(37,.bool (Ycq x.opn (x.chain.days+1))),(42,.bool (Yad x.stock 0 200)),(47,.bool (Yad x.make 0 9))] [] (k_19 [1,0]) (Yom x ) Ylc =let Z0:Prop:=Yad x.new (0:Int) (200:Int)=false;some ([CF 56 [Yah x.chain] (D.I (Yai x.chain)),(Yai x.chain==(0:Int))=true,(Yai x.chain==(0:Int))=true,(Yai x.chain==(0:Int))=true,(Yai x.chain==(0:Int))=true,(Yai x.chain==(0:Int))=true,(Yai x.chain==(0:Int))=true,(Yai x.chain==(0:Int))=true,(Yai x.chain==(0:Int))=true,(Yai x.chain==(0:Int))=true,((x.feet.length:Int)==(x.chain.secs.length:Int))=true,((x.feet.length:Int)==(x.chain.secs.length:Int))=true,((x.feet.length:Int)==(x.chain.secs.length:Int))=true,CF 51 [D.I x.new,D.I 0,D.I 200] (D.bool (Yad x.new (0:Int) (200:Int))),((x.feet.length:Int)==(x.chain.secs.length:Int))=true,Z0,Z0,Z0,Z0,Z0],Ex.normal,Yfj x false):=by kernel_rfl
theorem Zyk (x:FBook) :runK (MF 67) [(9,true),(19,true),(24,true),(30,false)] [(7,.I (Yai x.chain)),(22,.bool (Yad x.new 0 200)),(37,.bool (Ycq x.opn (x.chain.days+1))),(42,.bool (Yad x.stock 0 200)),(47,.bool (Yad x.make 0 9))] [] (k_19 [1,0]) (Yom x ) Ylc =let Z0:Prop:=decide ((x.opn.length:Int)<=(4:Int))=false;let Z1:Prop:=Yad x.new (0:Int) (200:Int)=true;some ([CF 56 [Yah x.chain] (D.I (Yai x.chain)),(Yai x.chain==(0:Int))=true,(Yai x.chain==(0:Int))=true,(Yai x.chain==(0:Int))=true,(Yai x.chain==(0:Int))=true,(Yai x.chain==(0:Int))=true,(Yai x.chain==(0:Int))=true,(Yai x.chain==(0:Int))=true,(Yai x.chain==(0:Int))=true,(Yai x.chain==(0:Int))=true,((x.feet.length:Int)==(x.chain.secs.length:Int))=true,((x.feet.length:Int)==(x.chain.secs.length:Int))=true,((x.feet.length:Int)==(x.chain.secs.length:Int))=true,CF 51 [D.I x.new,D.I 0,D.I 200] (D.bool (Yad x.new (0:Int) (200:Int))),((x.feet.length:Int)==(x.chain.secs.length:Int))=true,Z1,Z1,Z1,Z1,Z1,Z0,Z0,Z0,Z0,Z0,Z0,Z0,Z0],Ex.normal,Yfj x false):=by kernel_rfl
theorem Zyj (x:FBook) :runK (MF 67) [(9,true),(19,true),(24,true),(30,true),(39,false)] [(7,.I (Yai x.chain)),(22,.bool (Yad x.new 0 200)),(37,.bool (Ycq x.opn (x.chain.days+1))),(42,.bool (Yad x.stock 0 200)),(47,.bool (Yad x.make 0 9))] [] (k_19 [1,0]) (Yom x ) Ylc =let Z0:Prop:=decide ((x.opn.length:Int)<=(4:Int))=true;let Z1:Prop:=Yad x.new (0:Int) (200:Int)=true;let Z2:Prop:=Ycq x.opn (x.chain.days+(1:Int))=false;some ([CF 56 [Yah x.chain] (D.I (Yai x.chain)),(Yai x.chain==(0:Int))=true,(Yai x.chain==(0:Int))=true,(Yai x.chain==(0:Int))=true,(Yai x.chain==(0:Int))=true,(Yai x.chain==(0:Int))=true,(Yai x.chain==(0:Int))=true,(Yai x.chain==(0:Int))=true,(Yai x.chain==(0:Int))=true,(Yai x.chain==(0:Int))=true,((x.feet.length:Int)==(x.chain.secs.length:Int))=true,((x.feet.length:Int)==(x.chain.secs.length:Int))=true,((x.feet.length:Int)==(x.chain.secs.length:Int))=true,CF 51 [D.I x.new,D.I 0,D.I 200] (D.bool (Yad x.new (0:Int) (200:Int))),((x.feet.length:Int)==(x.chain.secs.length:Int))=true,Z1,Z1,Z1,Z1,Z1,Z0,Z0,Z0,Z0,Z0,Z0,Yae (x.chain.days+(1:Int)),Z0,CF 57 [D.z E.int x.opn,D.I (x.chain.days+(1:Int))] (D.bool (Ycq x.opn (x.chain.days+(1:Int)))),Z0,Z2,Z2,Z2,Z2],Ex.normal,Yfj x false):=by kernel_rfl
theorem Zyi (x:FBook) :runK (MF 67) [(9,true),(19,true),(24,true),(30,true),(39,true),(44,false)] [(7,.I (Yai x.chain)),(22,.bool (Yad x.new 0 200)),(37,.bool (Ycq x.opn (x.chain.days+1))),(42,.bool (Yad x.stock 0 200)),(47,.bool (Yad x.make 0 9))] [] (k_19 [1,0]) (Yom x ) Ylc =let Z0:Prop:=decide ((x.opn.length:Int)<=(4:Int))=true;let Z1:Prop:=Yad x.new (0:Int) (200:Int)=true;let Z2:Prop:=Ycq x.opn (x.chain.days+(1:Int))=true;let Z3:Prop:=Yad x.stock (0:Int) (200:Int)=false;some ([CF 56 [Yah x.chain] (D.I (Yai x.chain)),(Yai x.chain==(0:Int))=true,(Yai x.chain==(0:Int))=true,(Yai x.chain==(0:Int))=true,(Yai x.chain==(0:Int))=true,(Yai x.chain==(0:Int))=true,(Yai x.chain==(0:Int))=true,(Yai x.chain==(0:Int))=true,(Yai x.chain==(0:Int))=true,(Yai x.chain==(0:Int))=true,((x.feet.length:Int)==(x.chain.secs.length:Int))=true,((x.feet.length:Int)==(x.chain.secs.length:Int))=true,((x.feet.length:Int)==(x.chain.secs.length:Int))=true,CF 51 [D.I x.new,D.I 0,D.I 200] (D.bool (Yad x.new (0:Int) (200:Int))),((x.feet.length:Int)==(x.chain.secs.length:Int))=true,Z1,Z1,Z1,Z1,Z1,Z0,Z0,Z0,Z0,Z0,Z0,Yae (x.chain.days+(1:Int)),Z0,CF 57 [D.z E.int x.opn,D.I (x.chain.days+(1:Int))] (D.bool (Ycq x.opn (x.chain.days+(1:Int)))),Z0,Z2,Z2,Z2,CF 51 [D.I x.stock,D.I 0,D.I 200] (D.bool (Yad x.stock (0:Int) (200:Int))),Z2,Z3,Z3,Z3,Z3],Ex.normal,Yfj x false):=by kernel_rfl
theorem Zyh (x:FBook) :runK (MF 67) [(9,true),(19,true),(24,true),(30,true),(39,true),(44,true)] [(7,.I (Yai x.chain)),(22,.bool (Yad x.new 0 200)),(37,.bool (Ycq x.opn (x.chain.days+1))),(42,.bool (Yad x.stock 0 200)),(47,.bool (Yad x.make 0 9))] [] (k_19 [1,0]) (Yom x ) Ylc =let Z0:Prop:=decide ((x.opn.length:Int)<=(4:Int))=true;let Z1:Prop:=Yad x.new (0:Int) (200:Int)=true;let Z2:Prop:=Ycq x.opn (x.chain.days+(1:Int))=true;let Z3:Prop:=Yad x.stock (0:Int) (200:Int)=true;some ([CF 56 [Yah x.chain] (D.I (Yai x.chain)),(Yai x.chain==(0:Int))=true,(Yai x.chain==(0:Int))=true,(Yai x.chain==(0:Int))=true,(Yai x.chain==(0:Int))=true,(Yai x.chain==(0:Int))=true,(Yai x.chain==(0:Int))=true,(Yai x.chain==(0:Int))=true,(Yai x.chain==(0:Int))=true,(Yai x.chain==(0:Int))=true,((x.feet.length:Int)==(x.chain.secs.length:Int))=true,((x.feet.length:Int)==(x.chain.secs.length:Int))=true,((x.feet.length:Int)==(x.chain.secs.length:Int))=true,CF 51 [D.I x.new,D.I 0,D.I 200] (D.bool (Yad x.new (0:Int) (200:Int))),((x.feet.length:Int)==(x.chain.secs.length:Int))=true,Z1,Z1,Z1,Z1,Z1,Z0,Z0,Z0,Z0,Z0,Z0,Yae (x.chain.days+(1:Int)),Z0,CF 57 [D.z E.int x.opn,D.I (x.chain.days+(1:Int))] (D.bool (Ycq x.opn (x.chain.days+(1:Int)))),Z0,Z2,Z2,Z2,CF 51 [D.I x.stock,D.I 0,D.I 200] (D.bool (Yad x.stock (0:Int) (200:Int))),Z2,Z3,Z3,Z3,CF 51 [D.I x.make,D.I 0,D.I 9] (D.bool (Yad x.make (0:Int) (9:Int))),Z3],Ex.normal,Yfj x (Yad x.make 0 9)):=by kernel_rfl
theorem Zyo (x:FBook)(ok:Bool)(i:Nat)(b:Bool) :runK (MF 67) [(50,true),(56,true)] [(64,.bool b)] [] (k_19 [1,1,0,1,0,0]) (Ygd x ok i) Yx0 =some ([ok=true,ok=true,ok=true,ok=true,ok=true,ok=true,decide ((i:Int)<(x.feet.length:Int))=true,(0:Int)<=(i:Int)/\(i:Int)<(x.feet.length:Int),0+1<=1,CF 51 [D.I (List.getD x.feet (i) (0:Int)),D.I 1,D.I 30] (D.bool b),Yae ((i:Int)+(1:Int))],Ex.normal,Ygd x b (i+1)):=by kernel_rfl
theorem Zrq (x:FBook)(ok:Bool)(i:Nat) :runK (MF 67) [(50,true),(56,false)] [] [] (k_19 [1,1,0,1,0,0]) (Ygd x ok i) Yx0 =some ([ok=true,ok=true,ok=true,ok=true,ok=true,ok=true,decide ((i:Int)<(x.feet.length:Int))=false],Ex.exit 0,Ygd x ok i):=by kernel_rfl
theorem Ytl (x:FBook)(ok:Bool)(i:Nat) :runK (MF 67) [(50,false)] [] [] (k_19 [1,1,0,1,0,0]) (Ygd x ok i) Yx0 =some ([ok=false,ok=false,ok=false,ok=false,ok=false,ok=false],Ex.exit 0,Ygd x ok i):=by kernel_rfl
theorem Xeb (a b:Work) :Yaj (MF 24) [(10,true)] [] [] (body Tryz.f84) [.tmp 4] [wkD a,wkD b] =let Z0:Prop:=decide (a.d<b.d)=true;some ([0+0+1<=2,0+0+1<=2,Z0,Z0,Z0,Z0,Z0,Z0,Z0,Z0],D.bool true):=by kernel_rfl
theorem Xea (a b:Work) :Yaj (MF 24) [(10,false),(16,false)] [] [] (body Tryz.f84) [.tmp 4] [wkD a,wkD b] =let Z0:Prop:=decide (a.d<b.d)=false;let Z1:Prop:=0+0+1<=2;some ([Z1,Z1,Z0,Z0,Z1,Z0,Z0,Z1,Z0,Z0,(a.d==b.d)=false,(a.d==b.d)=false,(a.d==b.d)=false,(a.d==b.d)=false,(a.d==b.d)=false,Z0,(a.d==b.d)=false,Z0],D.bool false):=by kernel_rfl
theorem Xec (a b:Work) :Yaj (MF 24) [(10,false),(16,true)] [] [] (body Tryz.f84) [.tmp 4] [wkD a,wkD b] =let Z0:Prop:=decide (a.d<b.d)=false;let Z1:Prop:=0+0+1<=2;some ([Z1,Z1,Z0,Z0,Z1,Z0,Z0,Z1,Z0,Z0,(a.d==b.d)=true,(a.d==b.d)=true,0+1+1<=2,(a.d==b.d)=true,(a.d==b.d)=true,0+1+1<=2,(a.d==b.d)=true,Z0,(a.d==b.d)=true,Z0],D.bool (decide (a.s<b.s))):=by kernel_rfl
theorem Xd1 (x:FBook)(plan:List Work)(n:Int)(i:Nat) :Yaj (MF 25) [] [] [(0,(Zre,(.normal,Yok x plan n i)))] (body Tryz.f74) [.tmp 4] [Yab x,.z .work plan] =some ([LF 25 (k_74 [1,1,0,1]) (Yok x plan 0 0) Ex.normal (Yok x plan n i)],D.I n):=by kernel_rfl
theorem Zxx (x:FBook)(plan:List Work)(i:Nat) :Yaj (MF 31) [] [] [(0,(Zgf,(.normal,Yhm x plan i)))] (body Tryz.f75) [.tmp 4] [Yab x,.z .work plan] =some ([LF 31 (k_75 [1,0,1]) (Yhm x plan 0) Ex.normal (Yhm x plan i)],D.I (-(1:Int))):=by kernel_rfl
theorem Xdh (x:FBook)(plan:List Work)(i:Nat)(v:Int) :Yaj (MF 31) [] [] [(0,(Zgf,(.ret,Yni x plan i v)))] (body Tryz.f75) [.tmp 4] [Yab x,.z .work plan] =some ([LF 31 (k_75 [1,0,1]) (Yhm x plan 0) Ex.ret (Yni x plan i v)],D.I (i:Int)):=by kernel_rfl
theorem Xd5 (x:FBook)(ok:Bool)(i:Nat) :Yaj (MF 67) [] [] [(1001,(Zrp,(.normal,Yfj x ok))),(0,(Yx0,(.normal,Ygd x false i)))] (body Tryz.f19) [.tmp 2] [Yab x] =some ([LF 67 (k_19 [1,0]) [(.tmp 1,.d (D.ptr 1 0)),(.box 1,.bz (cellsOf (Yab x)))] Ex.normal (Yfj x ok),LF 67 (k_19 [1,1,0,1]) (Ygd x ok 0) Ex.normal (Ygd x false i)],D.I 70):=by kernel_rfl
theorem Zyg (x:FBook)(ok:Bool)(i:Nat) :Yaj (MF 67) [] [] [(1001,(Zrp,(.normal,Yfj x ok))),(0,(Yx0,(.normal,Ygd x true i)))] (body Tryz.f19) [.tmp 2] [Yab x] =some ([LF 67 (k_19 [1,0]) [(.tmp 1,.d (D.ptr 1 0)),(.box 1,.bz (cellsOf (Yab x)))] Ex.normal (Yfj x ok),LF 67 (k_19 [1,1,0,1]) (Ygd x ok 0) Ex.normal (Ygd x true i)],D.I 0):=by kernel_rfl
theorem Zzo (x:FBook) :Yaj (MF 16) [] [(5,Yah x.chain),(8,.z .int x.feet),(11,.z .int x.opn)] [] (body Tryz.f6) [.cell 2 28] [Yab x] =some ([CF 14 [Yah x.chain] (Yah x.chain),CF 15 [D.z E.int x.feet] (D.z E.int x.feet),CF 15 [D.z E.int x.opn] (D.z E.int x.opn)],Yab x):=by kernel_rfl
theorem Xag (x:FBook) :Yaj (MF 45) [(24,true),(38,true)] [(9,.bool true),(15,.bool true),(29,.bool true)] [] (body Tryz.f9) [.tmp 4] [Yab x,Yab x] =some ([CF 24 [Yah x.chain,Yah x.chain] (D.bool true),CF 25 [D.z E.int x.feet,D.z E.int x.feet] (D.bool true),(x.new==x.new)=true,(x.new==x.new)=true,(x.new==x.new)=true,(x.new==x.new)=true,(x.new==x.new)=true,CF 25 [D.z E.int x.opn,D.z E.int x.opn] (D.bool true),(x.new==x.new)=true,(x.stock==x.stock)=true,(x.stock==x.stock)=true,(x.stock==x.stock)=true,(x.stock==x.stock)=true,(x.stock==x.stock)=true,(x.stock==x.stock)=true],D.bool (x.make==x.make)):=by kernel_rfl
structure Ups (xs:LI) (n:Int):Prop where
 inn:∀ k<xs.length,0<=xs.getD k 0/\xs.getD k 0<n
 up:∀ k,0<k->k<xs.length->xs.getD (k-1) 0<xs.getD k 0
theorem Ups.mono {xs:LI}{n m:Int}(h:Ups xs n)(hnm:n<=m):Ups xs m:=⟨fun k hk=>by have:=h.inn k hk;omega,h.up⟩
def SatE (b:Book)(x:W4)(k t:Int)(e:Ent):Prop:=eqI [e.1.1,e.1.2] [-1,-1]=false->(e.1.1==k)=true->e.2.lo+Yei b.secs.length x.a x.b x.c x.d b.turns k e.1.2.toNat<=t/\t<=e.2.hi+Yei b.secs.length x.a x.b x.c x.d b.turns k e.1.2.toNat
theorem Zv3 {s u:Span}{t:Int}:((bothF s u).lo<=t/\t<=(bothF s u).hi)↔(s.lo<=t/\t<=s.hi)/\(u.lo<=t/\t<=u.hi):=by
 simp only[bothF,mx,mn]
 constructor
 ·intro h
  split at h<;>split at h<;>omega
 ·intro h
  split<;>split<;>omega
theorem Ytg (b:Book)(x:W4)(k t:Int):∀(l:List Ent) (s:Span),((l.foldl (Ybb b x.a x.b x.c x.d k) s).lo<=t/\t<=(l.foldl (Ybb b x.a x.b x.c x.d k) s).hi)↔(s.lo<=t/\t<=s.hi)/\∀ e∈l,SatE b x k t e
 | [],s=>by simp
 | e::l,s=>by
  simp only[List.foldl_cons];rw[Ytg b x k t l]
  have:((Ybb b x.a x.b x.c x.d k s e).lo<=t/\t<=(Ybb b x.a x.b x.c x.d k s e).hi)↔(s.lo<=t/\t<=s.hi)/\SatE b x k t e:=by
   unfold Ybb SatE
   by_cases h:eqI [e.1.1,e.1.2] [-1,-1]=false/\(e.1.1==k)=true
   ·rw[if_pos h,Zv3];exact and_congr_right fun _=>⟨fun h' _ _=>h',fun h'=>h' h.1 h.2⟩
   ·rw[if_neg h]
    constructor
    ·exact fun h'=>⟨h',fun h1 h2=>absurd ⟨h1,h2⟩ h⟩
    ·exact fun h'=>h'.1
  rw[this];simp only[List.mem_cons,forall_eq_or_imp];exact and_assoc
def SatY (b:Book)(x:W4)(k t:Int)(y:Sv):Prop:=y.s=k->y.r-y.e+Yei b.secs.length x.a x.b x.c x.d b.turns k y.d.toNat<=t/\t<=y.r+y.e+Yei b.secs.length x.a x.b x.c x.d b.turns k y.d.toNat
theorem Zvd {a c:Int}(h:0<=a):eqI [a,c] [-1,-1]=false:=by
 cases hq:eqI [a,c] [-1,-1] with
 | false=>rfl
 | true =>
  have:=(Yn9 _ _).1 hq
  simp only[List.cons.injEq,and_true]at this;omega
theorem Zxq {b:Book}{x:W4}{k t:Int}{ks kd:Int}(h:0<=ks)(s u:Span):SatE b x k t ((ks,kd),bothF s u)↔SatE b x k t ((ks,kd),s)/\SatE b x k t ((ks,kd),u):=by
 unfold SatE;simp only[Zvd h,true_implies];have e:∀ z:Span,(z.lo+Yei b.secs.length x.a x.b x.c x.d b.turns k kd.toNat<=t/\t<=z.hi+Yei b.secs.length x.a x.b x.c x.d b.turns k kd.toNat)↔(z.lo<=t-Yei b.secs.length x.a x.b x.c x.d b.turns k kd.toNat/\t-Yei b.secs.length x.a x.b x.c x.d b.turns k kd.toNat<=z.hi):=fun z=>by omega
 rw[e,e,e,Zv3]
 constructor
 ·exact fun h=>⟨fun hk=>(h hk).1,fun hk=>(h hk).2⟩
 ·exact fun h hk=>⟨h.1 hk,h.2 hk⟩
theorem Zo2 {b:Book}{x:W4}{k t:Int}{ks kd:Int}(h:0<=ks)(s:Span):∀ l:List Ent,(∀ e∈updK l (ks,kd) (match Ybq l (ks,kd) with|some old=>bothF old s|none=>s),SatE b x k t e)↔(∀ e∈l,SatE b x k t e)/\SatE b x k t ((ks,kd),s)
 | []=>by simp[updK,Ybq]
 | (k',v)::l=>by
  simp only[updK,Ybq]
  by_cases hk:(ks,kd)=k'
  ·subst hk;rw[if_pos rfl,if_pos rfl];simp only[List.mem_cons,forall_eq_or_imp];rw[Zxq h];exact⟨fun⟨⟨h1,h2⟩,h3⟩=>⟨⟨h1,h3⟩,h2⟩,fun⟨⟨h1,h3⟩,h2⟩=>⟨⟨h1,h2⟩,h3⟩⟩
  ·rw[if_neg hk,if_neg hk];simp only[List.mem_cons,forall_eq_or_imp];rw[Zo2 h s l];exact and_assoc.symm
theorem Zgx {b:Book}(but:LI){x:W4}{k t:Int}(hs:∀ y∈b.svs,0<=y.s):∀ m,m<=b.svs.length->((∀ e∈Yfl b but m,SatE b x k t e)↔∀ i<m,(i:Int)∉but->SatY b x k t (svZ b i))
 | 0,_=>by
  simp only[Yfl,List.mem_singleton,forall_eq,Nat.not_lt_zero,false_implies,implies_true,iff_true];intro h
  cases h
 | m+1,hm=>by
  have ih:=Zgx but (x:=x) (k:=k) (t:=t) hs m (by omega);simp only[Yfl,Yki];have hin:svZ b m∈b.svs:=Yb0 b.svs m sv0 (by omega)
  have hY:SatE b x k t (((svZ b m).s,(svZ b m).d),⟨(svZ b m).r-(svZ b m).e,(svZ b m).r+(svZ b m).e⟩)↔SatY b x k t (svZ b m):=by
   unfold SatE SatY;simp only[Zvd (hs _ hin),true_implies,beq_iff_eq]
  by_cases hb:(m:Int)∈but
  ·rw[if_pos hb,ih]
   constructor
   ·intro h i hi hn
    by_cases e:i=m
    ·subst e;exact absurd hb hn
    ·exact h i (by omega) hn
   ·exact fun h i hi hn=>h i (by omega) hn
  ·rw[if_neg hb]
   have:=Zo2 (b:=b) (x:=x) (k:=k) (t:=t) (kd:=(svZ b m).d) (hs _ hin) ⟨(svZ b m).r-(svZ b m).e,(svZ b m).r+(svZ b m).e⟩ (Yfl b but m)
   refine this.trans ?_;rw[ih,hY]
   constructor
   ·rintro⟨h1,h2⟩ i hi hn
    by_cases e:i=m
    ·subst e;exact h2
    ·exact h1 i (by omega) hn
   ·exact fun h=>⟨fun i hi hn=>h i (by omega) hn,h m (by omega) hb⟩
def W4.at (x:W4)(p:Nat):Int:=[x.a,x.b,x.c,x.d].getD p 0
structure Feas (b:Book) (but:LI) (T:Nat->Int) (x:W4):Prop where
 wear:∀ p<b.secs.length,(b.secs.getD p sec0).w.lo<=x.at p/\x.at p<=(b.secs.getD p sec0).w.hi
 zero:∀ p,b.secs.length<=p->x.at p=0
 thick:∀ k<b.secs.length,(b.secs.getD k sec0).t.lo<=T k/\T k<=(b.secs.getD k sec0).t.hi
 right:∀ i<b.svs.length,(i:Int)∉but->∀ k:Nat,k<b.secs.length->SatY b x k (T k) (svZ b i)
theorem Yxu {b:Book}(but:LI){x:W4}(hs:∀ y∈b.svs,0<=y.s)(k:Nat)(t:Int):((Yb2 b (Yco b but) x.a x.b x.c x.d k).lo<=t/\t<=(Yb2 b (Yco b but) x.a x.b x.c x.d k).hi)↔((b.secs.getD k sec0).t.lo<=t/\t<=(b.secs.getD k sec0).t.hi)/\∀ i<b.svs.length,(i:Int)∉but->SatY b x k t (svZ b i):=by
 unfold Yb2;rw[Ytg,Int.toNat_natCast];unfold Yco;rw[Zgx but hs _ (Nat.le_refl _)]
def Yd3 (b:Book)(l:List Ent)(x:W4):Nat->Nat->TrC->TrC
 | 0,_,t=>t
 | f+1,i,t=>Yd3 b l x f (i+1) (setF t i (Yb2 b l x.a x.b x.c x.d i))
theorem Ynz (b:Book)(l:List Ent)(x:W4)(u:TrC):∀(f i:Nat) (t:TrC),u∈Yeo b l x f i t↔(∀ k,i<=k->k<i+f->(Yb2 b l x.a x.b x.c x.d k).lo<=(Yb2 b l x.a x.b x.c x.d k).hi)/\u=Yd3 b l x f i t
 | 0,i,t=>by
  simp only[Yeo,Yd3,List.mem_singleton];exact⟨fun h=>⟨fun k h1 h2=>by omega,h⟩,fun h=>h.2⟩
 | f+1,i,t=>by
  simp only[Yeo,Yd3]
  by_cases h:(Yb2 b l x.a x.b x.c x.d i).lo<=(Yb2 b l x.a x.b x.c x.d i).hi
  ·rw[if_pos h,Ynz b l x u f (i+1)];refine and_congr_left fun _=>⟨fun h' k h1 h2=>?_,fun h' k h1 h2=>h' k (by omega) (by omega)⟩
   by_cases e:k=i
   ·subst e;exact h
   ·exact h' k (by omega) (by omega)
  ·rw[if_neg h];simp only[List.not_mem_nil,false_iff,not_and];exact fun h'=>absurd (h' i (Nat.le_refl _) (by omega)) h
theorem Zmm (t:TrC)(i:Nat)(s:Span)(hi:i<4)(k:Nat)(hk:k<4):Yci (setF t i s) k=if k=i then s else Yci t k:=by
 unfold Yci;rw[Int.toNat_natCast]
 match i,hi,k,hk with
 | 0,_,0,_=>rfl|0,_,1,_=>rfl|0,_,2,_=>rfl|0,_,3,_=>rfl
 | 1,_,0,_=>rfl|1,_,1,_=>rfl|1,_,2,_=>rfl|1,_,3,_=>rfl
 | 2,_,0,_=>rfl|2,_,1,_=>rfl|2,_,2,_=>rfl|2,_,3,_=>rfl
 | 3,_,0,_=>rfl|3,_,1,_=>rfl|3,_,2,_=>rfl|3,_,3,_=>rfl
theorem Yfq (b:Book)(l:List Ent)(x:W4):∀(f i:Nat) (t:TrC),i+f<=4->∀ k:Nat,k<4->Yci (Yd3 b l x f i t) k=if i<=k/\k<i+f then Yb2 b l x.a x.b x.c x.d k else Yci t k
 | 0,i,t,_,k,_=>by
  rw[if_neg (by omega)];rfl
 | f+1,i,t,h,k,hk=>by
  simp only[Yd3];rw[Yfq b l x f (i+1) _ (by omega) k hk]
  by_cases h1:i+1<=k/\k<i+1+f
  ·rw[if_pos h1,if_pos (by omega)]
  ·rw[if_neg h1,Zmm t i _ (by omega) k hk]
   by_cases e:k=i
   ·subst e;rw[if_pos rfl,if_pos (by omega)]
   ·rw[if_neg e,if_neg (by omega)]
theorem Yyy (b:Book)(l:List Ent)(x:W4):∀(f i:Nat) (t:TrC),(Yd3 b l x f i t).w0=t.w0/\(Yd3 b l x f i t).w1=t.w1/\(Yd3 b l x f i t).w2=t.w2/\(Yd3 b l x f i t).w3=t.w3
 | 0,_,_=>⟨rfl,rfl,rfl,rfl⟩
 | f+1,i,t=>by
  simp only[Yd3];obtain⟨h1,h2,h3,h4⟩:=Yyy b l x f (i+1) (setF t i (Yb2 b l x.a x.b x.c x.d i));obtain⟨g1,g2,g3,g4⟩:=Xce t i (Yb2 b l x.a x.b x.c x.d i);exact⟨h1.trans g1,h2.trans g2,h3.trans g3,h4.trans g4⟩
theorem Yxm (x:W4)(p:Nat)(n:Int)(hp:p<4)(q:Nat):(x.set p n).at q=if q=p then n else x.at q:=by
 match p,hp,q with
 | 0,_,0=>rfl|0,_,1=>rfl|0,_,2=>rfl|0,_,3=>rfl
 | 1,_,0=>rfl|1,_,1=>rfl|1,_,2=>rfl|1,_,3=>rfl
 | 2,_,0=>rfl|2,_,1=>rfl|2,_,2=>rfl|2,_,3=>rfl
 | 3,_,0=>rfl|3,_,1=>rfl|3,_,2=>rfl|3,_,3=>rfl
 | 0,_,q+4=>simp[W4.at]
 | 1,_,q+4=>simp[W4.at]
 | 2,_,q+4=>simp[W4.at]
 | 3,_,q+4=>simp[W4.at]
theorem W4.ext_at {x y:W4}(h:∀ q,q<4->x.at q=y.at q):x=y:=by
 obtain⟨a,b,c,d⟩:=x;obtain⟨a',b',c',d'⟩:=y;have h0:a=a':=h 0 (by omega);have h1:b=b':=h 1 (by omega);have h2:c=c':=h 2 (by omega);have h3:d=d':=h 3 (by omega);rw[h0,h1,h2,h3]
theorem Ytm {s:Span}{n:Int}(h0:0<=s.lo):n∈Yi8 s↔s.lo<=n/\n<=s.hi:=by
 rw[Yx1];omega
theorem Yp0 {b:Book}(l:List Ent)(u:TrC)(hw:∀ p,0<=(b.secs.getD p sec0).w.lo):∀(f p:Nat) (x:W4),p+f<=4->(u∈Ybd b l f p x↔∃ y:W4,(∀ q,¬(p<=q/\q<p+f)->y.at q=x.at q)/\(∀ q,p<=q->q<p+f->(b.secs.getD q sec0).w.lo<=y.at q/\y.at q<=(b.secs.getD q sec0).w.hi)/\u∈Yy0 b l y)
 | 0,p,x,_=>by
  simp only[Ybd]
  constructor
  ·exact fun h=>⟨x,fun _ _=>rfl,fun q h1 h2=>by omega,h⟩
  ·rintro⟨y,h1,_,h3⟩
   have:y=x:=W4.ext_at fun q _=>h1 q (by omega)
   rwa [this]at h3
 | f+1,p,x,hp=>by
  simp only[Ybd,List.mem_flatMap]
  constructor
  ·rintro⟨n,hn,h⟩
   obtain⟨y,h1,h2,h3⟩:=(Yp0 l u hw f (p+1) (x.set p n) (by omega)).1 h;have hn':=(Ytm (hw p)).1 hn;refine⟨y,fun q hq=>?_,fun q q1 q2=>?_,h3⟩
   ·rw[h1 q (by omega),Yxm x p n (by omega),if_neg (by omega)]
   ·by_cases e:q=p
    ·subst e;rw[h1 q (by omega),Yxm x q n (by omega),if_pos rfl];exact hn'
    ·exact h2 q (by omega) (by omega)
  ·rintro⟨y,h1,h2,h3⟩
   refine⟨y.at p,(Ytm (hw p)).2 (h2 p (Nat.le_refl _) (by omega)),(Yp0 l u hw f (p+1) (x.set p (y.at p)) (by omega)).2 ⟨y,fun q hq=>?_,fun q q1 q2=>h2 q (by omega) (by omega),h3⟩⟩;rw[Yxm x p _ (by omega)]
   by_cases e:q=p
   ·rw[if_pos e,e]
   ·rw[if_neg e];exact h1 q (by omega)
def wOf (u:TrC):W4:=⟨u.w0,u.w1,u.w2,u.w3⟩
theorem Valid.wlo {b:Book}(hV:Valid b)(p:Nat):0<=(b.secs.getD p sec0).w.lo:=by
 by_cases h:p<b.secs.length
 ·exact(hV.sec _ (Yb0 b.secs p sec0 h)).w.1
 ·rw[List.getD_eq_getElem?_getD,List.getElem?_eq_none (by omega)]
  decide
theorem Valid.svs0 {b:Book}(hV:Valid b):∀ y∈b.svs,0<=y.s:=fun y hy=>(Yhi.1 (hV.sv y hy)).1.1
structure Base (b:Book):Prop where
 n4:b.secs.length<=4
 wlo:∀ p:Nat,0<=(b.secs.getD p sec0).w.lo
 svs0:∀ y∈b.svs,0<=y.s
theorem Valid.base {b:Book}(hV:Valid b):Base b:=⟨hV.secs.2,hV.wlo,hV.svs0⟩
theorem Base.more {b:Book}(hB:Base b){y:Sv}(hy:0<=y.s):Base (more b y):=⟨hB.n4,hB.wlo,fun z hz=>by
 rcases List.mem_append.1 hz with hz|hz
 ·exact hB.svs0 z hz
 ·simp only[List.mem_singleton]at hz;subst hz;exact hy⟩
theorem Yp7 {b:Book}(hV:Base b)(but:LI)(u:TrC):u∈Yak b but↔∃ x:W4,(∀ p<b.secs.length,(b.secs.getD p sec0).w.lo<=x.at p/\x.at p<=(b.secs.getD p sec0).w.hi)/\(∀ p,b.secs.length<=p->x.at p=0) /\
  (∀ k,k<b.secs.length->(Yb2 b (Yco b but) x.a x.b x.c x.d k).lo<=(Yb2 b (Yco b but) x.a x.b x.c x.d k).hi)/\u=Yd3 b (Yco b but) x b.secs.length 0 (trOf x):=by
 have h4:=hV.n4
 have h0:∀ q:Nat,(⟨0,0,0,0⟩:W4).at q=0:=fun q=>by
  match q with
  | 0=>rfl
  | 1=>rfl
  | 2=>rfl
  | 3=>rfl
  | q+4=>simp[W4.at]
 unfold Yak;rw[Yp0 (Yco b but) u hV.wlo b.secs.length 0 ⟨0,0,0,0⟩ (by omega)];unfold Yy0
 constructor
 ·rintro⟨y,h1,h2,h3⟩
  obtain⟨h5,h6⟩:=(Ynz b _ y u _ _ _).1 h3;exact⟨y,fun p hp=>h2 p (Nat.zero_le _) (by omega),fun p hp=>(h1 p (by omega)).trans (h0 p),fun k hk=>h5 k (Nat.zero_le _) (by omega),h6⟩
 ·rintro⟨x,h1,h2,h3,h5⟩
  exact⟨x,fun q hq=>(h2 q (by omega)).trans (h0 q).symm,fun q _ hq=>h1 q (by omega),(Ynz b _ x u _ _ _).2 ⟨fun k _ hk=>h3 k (by omega),h5⟩⟩
theorem Zg9 (b:Book)(l:List Ent)(x:W4)(f:Nat):wOf (Yd3 b l x f 0 (trOf x))=x:=by
 obtain⟨h1,h2,h3,h4⟩:=Yyy b l x f 0 (trOf x);unfold wOf;rw[h1,h2,h3,h4];rfl
theorem Yeg {b:Book}(hV:Base b){but:LI}{u:TrC}(hu:u∈Yak b but){T:Nat->Int}(hT:∀ k:Nat,k<b.secs.length->(Yci u k).lo<=T k/\T k<=(Yci u k).hi):Feas b but T (wOf u):=by
 have h4:=hV.n4;obtain⟨x,h1,h2,h3,rfl⟩:=(Yp7 hV but u).1 hu;rw[Zg9]
 have hf:∀ k:Nat,k<b.secs.length->Yci (Yd3 b (Yco b but) x b.secs.length 0 (trOf x)) k=Yb2 b (Yco b but) x.a x.b x.c x.d k:=fun k hk=>by
  rw[Yfq b _ x _ 0 _ (by omega) k (by omega),if_pos (by omega)]
 have hr:∀ k:Nat,k<b.secs.length->((b.secs.getD k sec0).t.lo<=T k/\T k<=(b.secs.getD k sec0).t.hi)/\∀ i<b.svs.length,(i:Int)∉but->SatY b x k (T k) (svZ b i):=fun k hk=>by
  have:=hT k hk
  rw[hf k hk]at this;exact(Yxu but hV.svs0 k (T k)).1 this
 exact⟨h1,h2,fun k hk=>(hr k hk).1,fun i hi hn k hk=>(hr k hk).2 i hi hn⟩
theorem Yh3 {b:Book}(hV:Base b){but:LI}{T:Nat->Int}{x:W4}(h:Feas b but T x):∃ u∈Yak b but,wOf u=x/\∀ k:Nat,k<b.secs.length->(Yci u k).lo<=T k/\T k<=(Yci u k).hi:=by
 have h4:=hV.n4
 have hr:∀ k:Nat,k<b.secs.length->(Yb2 b (Yco b but) x.a x.b x.c x.d k).lo<=T k/\T k<=(Yb2 b (Yco b but) x.a x.b x.c x.d k).hi:=fun k hk =>
  (Yxu but hV.svs0 k (T k)).2 ⟨h.thick k hk,fun i hi hn=>h.right i hi hn k hk⟩
 refine⟨Yd3 b (Yco b but) x b.secs.length 0 (trOf x),(Yp7 hV but _).2 ⟨x,h.wear,h.zero,fun k hk=>by have:=hr k hk;omega,rfl⟩,Zg9 _ _ _ _,fun k hk=>?_⟩;rw[Yfq b _ x _ 0 _ (by omega) k (by omega),if_pos (by omega)];exact hr k hk
theorem Yhh {b:Book}(hV:Base b){but:LI}{u:TrC}(hu:u∈Yak b but)(k:Nat)(hk:k<b.secs.length):(Yci u k).lo<=(Yci u k).hi:=by
 have h4:=hV.n4;obtain⟨x,h1,h2,h3,rfl⟩:=(Yp7 hV but u).1 hu;rw[Yfq b _ x _ 0 _ (by omega) k (by omega),if_pos (by omega)];exact h3 k hk
theorem Xga {b:Book}(hV:Base b)(but:LI):Yak b but≠[]↔∃ T x,Feas b but T x:=by
 constructor
 ·intro h;obtain⟨u,hu⟩:=List.exists_mem_of_ne_nil _ h;exact⟨fun k=>(Yci u k).lo,wOf u,Yeg hV hu fun k hk=>⟨Int.le_refl _,Yhh hV hu k hk⟩⟩
 ·rintro⟨T,x,h⟩ h0
  obtain⟨u,hu,_⟩:=Yh3 hV h;rw[h0]at hu
  cases hu
theorem Yxe (g:TrC->Span):∀(ts:List TrC) (s:Span),((ts.foldl (fun o t=>Ycp o (g t)) s).lo=s.lo\/∃ t∈ts,(ts.foldl (fun o t=>Ycp o (g t)) s).lo=(g t).lo)/\((ts.foldl (fun o t=>Ycp o (g t)) s).hi=s.hi\/∃ t∈ts,(ts.foldl (fun o t=>Ycp o (g t)) s).hi=(g t).hi) /\
  (ts.foldl (fun o t=>Ycp o (g t)) s).lo<=s.lo/\s.hi<=(ts.foldl (fun o t=>Ycp o (g t)) s).hi/\∀ t∈ts,(ts.foldl (fun o t=>Ycp o (g t)) s).lo<=(g t).lo/\(g t).hi<=(ts.foldl (fun o t=>Ycp o (g t)) s).hi
 | [],s=>⟨.inl rfl,.inl rfl,Int.le_refl _,Int.le_refl _,fun t ht=>by cases ht⟩
 | t::ts,s=>by
  obtain⟨h1,h2,h3,h4,h5⟩:=Yxe g ts (Ycp s (g t));have e1:(Ycp s (g t)).lo=s.lo\/(Ycp s (g t)).lo=(g t).lo:=by simp only[Ycp,mn];split<;>simp
  have e2:(Ycp s (g t)).hi=s.hi\/(Ycp s (g t)).hi=(g t).hi:=by simp only[Ycp,mx];split<;>simp
  have e3:(Ycp s (g t)).lo<=s.lo/\(Ycp s (g t)).lo<=(g t).lo:=by simp only[Ycp,mn];split<;>omega
  have e4:s.hi<=(Ycp s (g t)).hi/\(g t).hi<=(Ycp s (g t)).hi:=by simp only[Ycp,mx];split<;>omega
  simp only[List.foldl_cons];refine⟨?_,?_,by omega,by omega,fun u hu=>?_⟩
  ·rcases h1 with h1|⟨u,hu,h1⟩
   ·rcases e1 with e1|e1
    ·exact .inl (h1.trans e1)
    ·exact .inr ⟨t,by simp,h1.trans e1⟩
   ·exact .inr ⟨u,by simp[hu],h1⟩
  ·rcases h2 with h2|⟨u,hu,h2⟩
   ·rcases e2 with e2|e2
    ·exact .inl (h2.trans e2)
    ·exact .inr ⟨t,by simp,h2.trans e2⟩
   ·exact .inr ⟨u,by simp[hu],h2⟩
  ·rcases List.mem_cons.1 hu with rfl|hu
   ·omega
   ·exact h5 u hu
theorem Ye8 (g:TrC->Span){ts:List TrC}(hne:ts≠[]):(∃ t∈ts,(Ydf g ts).lo=(g t).lo)/\(∃ t∈ts,(Ydf g ts).hi=(g t).hi)/\∀ t∈ts,(Ydf g ts).lo<=(g t).lo/\(g t).hi<=(Ydf g ts).hi:=by
 obtain⟨h1,h2,_,_,h5⟩:=Yxe g ts (g (ts.getD 0 trc0));have h0:ts.getD 0 trc0∈ts:=Yb0 ts 0 trc0 (List.length_pos_iff.2 hne);refine⟨?_,?_,h5⟩
 ·rcases h1 with h1|h1
  ·exact⟨_,h0,h1⟩
  ·exact h1
 ·rcases h2 with h2|h2
  ·exact⟨_,h0,h2⟩
  ·exact h2
def Yr7 (b:Book)(turns:LI)(x:W4)(k:Nat)(d:Int):Int:=Yei b.secs.length x.a x.b x.c x.d turns k d.toNat
theorem Zwi (b:Book)(turns:LI)(k:Nat)(d:Int)(u:TrC):Zid b turns k d u=Yr7 b turns (wOf u) k d:=rfl
theorem Zf5 {b:Book}(hV:Base b){but:LI}{T:Nat->Int}{x:W4}(h:Feas b but T x)(turns:LI)(k:Nat)(hk:k<b.secs.length)(d:Int) :
  (Yby b (Yak b but) turns k d).lo<=T k-Yr7 b turns x k d/\T k-Yr7 b turns x k d<=(Yby b (Yak b but) turns k d).hi:=by
 obtain⟨u,hu,rfl,hf⟩:=Yh3 hV h;have hne:Yak b but≠[]:=fun e=>by rw[e]at hu;cases hu
 have:=(Ye8 (Yh5 b turns k d) hne).2.2 u hu
 have hk':=hf k hk;simp only[Yh5,Zwi]at this;unfold Yby;omega
theorem Zxf {b:Book}(hV:Base b){but:LI}(hne:Yak b but≠[])(turns:LI)(k:Nat)(hk:k<b.secs.length)(d:Int):∃ T x,Feas b but T x/\T k-Yr7 b turns x k d=(Yby b (Yak b but) turns k d).lo:=by
 obtain⟨u,hu,h⟩:=(Ye8 (Yh5 b turns k d) hne).1;exact⟨fun k=>(Yci u k).lo,wOf u,Yeg hV hu fun k hk=>⟨Int.le_refl _,Yhh hV hu k hk⟩,h.symm⟩
theorem Zxg {b:Book}(hV:Base b){but:LI}(hne:Yak b but≠[])(turns:LI)(k:Nat)(hk:k<b.secs.length)(d:Int):∃ T x,Feas b but T x/\T k-Yr7 b turns x k d=(Yby b (Yak b but) turns k d).hi:=by
 obtain⟨u,hu,h⟩:=(Ye8 (Yh5 b turns k d) hne).2.1;exact⟨fun k=>(Yci u k).hi,wOf u,Yeg hV hu fun k hk=>⟨Yhh hV hu k hk,Int.le_refl _⟩,h.symm⟩
theorem Yp2 (p:Nat)(u:TrC):Ybp p u=⟨(wOf u).at p,(wOf u).at p⟩:=by
 unfold Ybp;rw[Int.toNat_natCast];rfl
theorem Zor {b:Book}(hV:Base b){but:LI}{T:Nat->Int}{x:W4}(h:Feas b but T x)(p:Nat):(Ydf (Ybp p) (Yak b but)).lo<=x.at p/\x.at p<=(Ydf (Ybp p) (Yak b but)).hi:=by
 obtain⟨u,hu,rfl,_⟩:=Yh3 hV h;have hne:Yak b but≠[]:=fun e=>by rw[e]at hu;cases hu
 have:=(Ye8 (Ybp p) hne).2.2 u hu
 rw[Yp2]at this;exact this
theorem Xc0 {b:Book}(hV:Base b){but:LI}(hne:Yak b but≠[])(p:Nat):∃ T x,Feas b but T x/\x.at p=(Ydf (Ybp p) (Yak b but)).lo:=by
 obtain⟨u,hu,h⟩:=(Ye8 (Ybp p) hne).1;rw[Yp2]at h;exact⟨fun k=>(Yci u k).lo,wOf u,Yeg hV hu fun k hk=>⟨Int.le_refl _,Yhh hV hu k hk⟩,h.symm⟩
theorem Xc1 {b:Book}(hV:Base b){but:LI}(hne:Yak b but≠[])(p:Nat):∃ T x,Feas b but T x/\x.at p=(Ydf (Ybp p) (Yak b but)).hi:=by
 obtain⟨u,hu,h⟩:=(Ye8 (Ybp p) hne).2.1;rw[Yp2]at h;exact⟨fun k=>(Yci u k).lo,wOf u,Yeg hV hu fun k hk=>⟨Int.le_refl _,Yhh hV hu k hk⟩,h.symm⟩
theorem Ypq {b:Book}(hV:Valid b)(hc:canF b=true):errF b true=0:=by
 unfold errF;rw[Yc0.2 hV,hc];rfl
theorem Yo7 {b:Book}(hV:Valid b):Small b:=⟨by have:=hV.secs;omega,by have:=hV.turns;omega,by have:=hV.svs;omega⟩
theorem Zij {b:Book}(hV:Valid b)(hc:canF b=true){s d:Int}(hs:0<=s/\s<b.secs.length)(hd:0<=d/\d<=b.days):CF 111 [Yah b,.I s,.I d] (.tup [spD (Yby b (Yak b []) b.turns s d),.I 0]):=by
 have h:=Zim (Yo7 hV) s d;have h1:Yaf b s=true:=by unfold Yaf;rw[Ya2];omega
 have h2:Ya3 b d=true:=by unfold Ya3;rw[Ya2];omega
 unfold askE at h;rw[h1,h2,Bool.and_self,Ypq hV hc,show spanOr 0 (Yby b (Yak b []) b.turns s d)=Yby b (Yak b []) b.turns s d from if_pos rfl]at h;exact h.up
theorem Zot {b:Book}(hV:Valid b)(hc:canF b=true){s:Int}(hs:0<=s/\s<b.secs.length):CF 110 [Yah b,.I s] (.tup [spD (Ydf (Ybp s) (Yak b [])),.I 0]):=by
 have h:=Zow (Yo7 hV) s;have h1:Yaf b s=true:=by unfold Yaf;rw[Ya2];omega
 rw[h1,Ypq hV hc,show spanOr 0 (Ydf (Ybp s) (Yak b []))=Ydf (Ybp s) (Yak b []) from if_pos rfl]at h;exact h.up
def Yea (x:FBook)(s k:Nat):LI:=(List.range k).map fun d=>Yqb x.chain (s:Nat) (d:Nat)
def thTo (x:FBook)(i:Nat):LL:=(List.range i).map fun s=>Yea x s (x.chain.days+1).toNat
def wrTo (x:FBook)(i:Nat):LI:=(List.range i).map fun s=>Yw6 x.chain (s:Nat)
theorem Yev {α:Type}(f:Nat->α)(i:Nat):(List.range (i+1)).map f=(List.range i).map f++[f i]:=by rw[List.range_succ,List.map_append];rfl
def knIn (x:FBook)(m:List (K2×Bool))(i j:Nat)(y:Int)(r:LI):LL->LI->KV
 | [],[]=>Ymf x m i j y r
 | [],z::l=>Yfe x m i j y r z l
 | t::q,[]=>Ymd x m i j y r t q
 | t::q,z::l=>Yfd x m i j y r t q z l
def knS (x:FBook)(m:List (K2×Bool))(i:Nat):LI->LL->KV
 | y::r,t::q=>Yfr x m i y r t q
 | _,_=>Yvr x m i
theorem Xfm {x:FBook}(hV:Valid x.chain)(hc:canF x.chain=true)(m:List (K2×Bool))(i:Nat)(hi:i<x.chain.secs.length)(y:Int)(r:LI)(th:LL) :
  LF 63 (k_81 [1,0,1,0,0,1,1,0,0,1,1,1,1,0,1]) (knIn x m i 0 y r th []) .normal (knIn x m i (x.chain.days+1).toNat y r th (Yea x i (x.chain.days+1).toNat)):=by
 have hd:=hV.days;refine LF.each (id:=2) (c:=k_81 [1,0,1,0,0,1,1,0,0,1,1,1,1,0,1,0,0]) (by kernel_rfl) (x.chain.days+1).toNat (fun j=>knIn x m i j y r th (Yea x i j)) (fun j hj=>?_) ?_
 ·have hth:=Zij hV hc (s:=(i:Int)) (d:=(j:Int)) (by omega) (by omega);have hn:Yea x i (j+1)=Yea x i j++[(Yby x.chain (Yak x.chain []) x.chain.turns i j).lo]:=Yev _ j;have hlen:(Yea x i j).length<=31:=by unfold Yea;rw[List.length_map,List.length_range];omega
  simp only[hn]
  cases th with
  | nil =>
   cases hl:Yea x i j with
   | nil=>exact⟨_,_,_,_,_,_,Zdz x m i j y r (Yby x.chain (Yak x.chain []) x.chain.turns i j) 0,⟨decide_eq_true (by omega),hth,by omega,by omega,Yap (by omega) (by omega),trivial⟩,rfl⟩
   | cons z l =>
    rw[hl]at hlen;exact⟨_,_,_,_,_,_,Zdy x m i j y r z l (Yby x.chain (Yak x.chain []) x.chain.turns i j) 0,⟨decide_eq_true (by omega),hth,by omega,rfl,by rw[List.length_append];simp only[List.length_cons,List.length_nil]at hlen ⊢;omega,Yap (by omega) (by omega),trivial⟩,rfl⟩
  | cons t q =>
   cases hl:Yea x i j with
   | nil=>exact⟨_,_,_,_,_,_,Zdw x m i j y r t q (Yby x.chain (Yak x.chain []) x.chain.turns i j) 0,⟨decide_eq_true (by omega),hth,by omega,by omega,Yap (by omega) (by omega),trivial⟩,rfl⟩
   | cons z l =>
    rw[hl]at hlen;exact⟨_,_,_,_,_,_,Zdv x m i j y r t q z l (Yby x.chain (Yak x.chain []) x.chain.turns i j) 0,⟨decide_eq_true (by omega),hth,by omega,rfl,by rw[List.length_append];simp only[List.length_cons,List.length_nil]at hlen ⊢;omega,Yap (by omega) (by omega),trivial⟩,rfl⟩
 ·have hf:decide ((((x.chain.days+1).toNat:Nat):Int)<x.chain.days+1)=false:=decide_eq_false (by omega)
  cases th with
  | nil=>cases Yea x i (x.chain.days+1).toNat with
   | nil=>exact⟨_,_,_,_,_,_,_,Yy5 x m i _ y r,⟨hf,trivial⟩,.inl ⟨rfl,rfl⟩,rfl⟩
   | cons z l=>exact⟨_,_,_,_,_,_,_,Yy4 x m i _ y r z l,⟨hf,trivial⟩,.inl ⟨rfl,rfl⟩,rfl⟩
  | cons t q=>cases Yea x i (x.chain.days+1).toNat with
   | nil=>exact⟨_,_,_,_,_,_,_,Yy3 x m i _ y r t q,⟨hf,trivial⟩,.inl ⟨rfl,rfl⟩,rfl⟩
   | cons z l=>exact⟨_,_,_,_,_,_,_,Yy2 x m i _ y r t q z l,⟨hf,trivial⟩,.inl ⟨rfl,rfl⟩,rfl⟩
theorem Zz4 {x:FBook}(hV:FValid x)(hc:canF x.chain=true)(m:List (K2×Bool)):CF 81 [fopD x m] (fbkD x (.work m) (Yas x) (Yar x)):=by
 have hC:=hV.chain;have hd:=hC.days;have hn:=hC.secs;have hfe:=hV.feet
 have hloop:LF 63 (k_81 [1,0,1]) (knS x m 0 (wrTo x 0) (thTo x 0)) .normal (knS x m x.feet.length (wrTo x x.feet.length) (thTo x x.feet.length)):=by
  refine LF.each (id:=0) (c:=k_81 [1,0,1,0,0]) (by kernel_rfl) x.feet.length (fun i=>knS x m i (wrTo x i) (thTo x i)) (fun i hi=>?_) ?_
  ·have hw:=Zot hC hc (s:=(i:Int)) (by omega);have e1:wrTo x (i+1)=wrTo x i++[(Ydf (Ybp (i:Int)) (Yak x.chain [])).hi]:=Yev _ i;have e2:thTo x (i+1)=thTo x i++[Yea x i (x.chain.days+1).toNat]:=Yev _ i
   have hrow:∃ z l,Yea x i (x.chain.days+1).toNat=z::l:=by
    cases h:Yea x i (x.chain.days+1).toNat with
    | nil =>
     have:=congrArg List.length h
     unfold Yea at this;rw[List.length_map,List.length_range]at this;simp at this;omega
    | cons z l=>exact⟨z,l,rfl⟩
   obtain⟨z,l,hrow⟩:=hrow;simp only[e1,e2];have hin:=Xfm hC hc m i (by omega);rw[hrow]at hin ⊢
   cases i with
   | zero=>exact⟨_,_,_,_,_,_,Zlp x m 0 (Ydf (Ybp ((0:Nat):Int)) (Yak x.chain [])) 0 (x.chain.days+1).toNat z l,⟨Yat hi,hw,by omega,by omega,rfl,Yap (by omega) (by omega),hin (Ydf (Ybp ((0:Nat):Int)) (Yak x.chain [])).hi [] [],rfl,by omega,rfl,Yap (by omega) (by omega),trivial⟩,rfl⟩
   | succ i =>
    have hwl:(wrTo x (i+1)).length=i+1:=by unfold wrTo;rw[List.length_map,List.length_range]
    have htl:(thTo x (i+1)).length=i+1:=by unfold thTo;rw[List.length_map,List.length_range]
    obtain⟨y,r,hy⟩:=List.exists_cons_of_length_eq_add_one hwl;obtain⟨t,q,ht⟩:=List.exists_cons_of_length_eq_add_one htl;rw[hy]at hwl;rw[ht]at htl;rw[hy,ht];exact⟨_,_,_,_,_,_,Zlo x m (i+1) y r t q (Ydf (Ybp ((i+1:Nat):Int)) (Yak x.chain [])) 0 (x.chain.days+1).toNat z l,⟨Yat hi,hw,by omega,rfl,by rw[List.length_append,hwl,List.length_singleton];omega,rfl,Yap (by omega) (by omega),hin y _ (t::q),rfl,rfl,by rw[List.length_append,htl,List.length_singleton];omega,rfl,Yap (by omega) (by omega),trivial⟩,rfl⟩
  ·have hwl:(wrTo x x.feet.length).length=(x.feet.length-1)+1:=by unfold wrTo;rw[List.length_map,List.length_range];omega
   have htl:(thTo x x.feet.length).length=(x.feet.length-1)+1:=by unfold thTo;rw[List.length_map,List.length_range];omega
   obtain⟨y,r,hy⟩:=List.exists_cons_of_length_eq_add_one hwl;obtain⟨t,q,ht⟩:=List.exists_cons_of_length_eq_add_one htl;rw[hy,ht];exact⟨_,_,_,_,_,_,_,Zdx x m _ y r t q,⟨Yay,trivial⟩,.inl ⟨rfl,rfl⟩,rfl⟩
 have hwl:(wrTo x x.feet.length).length=(x.feet.length-1)+1:=by unfold wrTo;rw[List.length_map,List.length_range];omega
 have htl:(thTo x x.feet.length).length=(x.feet.length-1)+1:=by unfold thTo;rw[List.length_map,List.length_range];omega
 obtain⟨y,r,hy⟩:=List.exists_cons_of_length_eq_add_one hwl;obtain⟨t,q,ht⟩:=List.exists_cons_of_length_eq_add_one htl;have e1:Yar x=y::r:=hy;have e2:Yas x=t::q:=ht;rw[show knS x m 0 (wrTo x 0) (thTo x 0)=Yvr x m 0 from rfl,hy,ht,show knS x m x.feet.length (y::r) (t::q)=Yfr x m x.feet.length y r t q from rfl]at hloop;rw[e1,e2];exact Yaa (GF 63) Zz5 (Zth x m x.feet.length y r t q) ⟨hloop,rfl,rfl,rfl,rfl,trivial⟩
theorem Zou {b:Book}(hV:Valid b)(hc:canF b=true){p:Nat}(hp:p<4):0<=Yw6 b p/\Yw6 b p<=1000:=by
 obtain⟨_,⟨t,ht,he⟩,_⟩:=Ye8 (Ybp p) (Yjj hc);have ho:=Yp5 hV [] t ht;unfold Yw6;rw[he];simp only[Ybp,Int.toNat_natCast]
 clear he ht
 have h4:p=0\/p=1\/p=2\/p=3:=by omega
 rcases h4 with rfl|rfl|rfl|rfl
 ·exact ho.w0
 ·exact ho.w1
 ·exact ho.w2
 ·exact ho.w3
theorem Zik {b:Book}(hV:Valid b)(hc:canF b=true){s d:Nat}(hs:s<b.secs.length)(hd:(d:Int)<=b.days):-1000000<=Yqb b s d/\Yqb b s d<=1000000:=by
 obtain⟨⟨t,ht,he⟩,_⟩:=Ye8 (Yh5 b b.turns s d) (Yjj hc);have ho:=Yp5 hV [] t ht;have hdd:=hV.days;have hn:=hV.secs;have hw:=Ylr (n:=b.secs.length) (s:=(s:Int)) (turns:=b.turns) ho.w0 ho.w1 ho.w2 ho.w3 d
 have h200:0<=(Yci t s).lo/\(Yci t s).lo<=200:=by
  have h2:=(Ym8 hV.sec (Yco b []) b.secs.length 0 ⟨0,0,0,0⟩ (by omega) Xgz t ht).1;have hs4:s<4:=by omega
  obtain⟨q0,q1,q2,q3⟩:=h2;simp only[Yci,Int.toNat_natCast]
  clear he hw hs hd
  have h4:s=0\/s=1\/s=2\/s=3:=by omega
  rcases h4 with rfl|rfl|rfl|rfl
  ·exact⟨q0.1,Int.le_trans q0.2.1 q0.2.2⟩
  ·exact⟨q1.1,Int.le_trans q1.2.1 q1.2.2⟩
  ·exact⟨q2.1,Int.le_trans q2.2.1 q2.2.2⟩
  ·exact⟨q3.1,Int.le_trans q3.2.1 q3.2.2⟩
 unfold Yqb Yby;rw[he];simp only[Yh5,Zid,Int.toNat_natCast];show -1000000<=(Yci t s).lo-Yei b.secs.length t.w0 t.w1 t.w2 t.w3 b.turns s d/\(Yci t s).lo-Yei b.secs.length t.w0 t.w1 t.w2 t.w3 b.turns s d<=1000000;omega
theorem Yjl {x:FBook}(hV:FValid x)(hc:canF x.chain=true):KnOk x (Yas x) (Yar x):=by
 have hfe:=hV.feet;have hn:=hV.chain.secs;refine⟨by unfold Yar;rw[List.length_map,List.length_range],fun n hn'=>?_,by unfold Yas;rw[List.length_map,List.length_range],fun l hl=>?_,fun l hl n hn'=>?_⟩
 ·obtain⟨s,hs,rfl⟩:=List.mem_map.1 hn';rw[List.mem_range]at hs;exact Zou hV.chain hc (by omega)
 ·obtain⟨s,hs,rfl⟩:=List.mem_map.1 hl;rw[List.length_map,List.length_range]
 ·obtain⟨s,hs,rfl⟩:=List.mem_map.1 hl;obtain⟨d,hd,rfl⟩:=List.mem_map.1 hn';rw[List.mem_range]at hs hd;exact Zik hV.chain hc (by omega) (by omega)
end Go.Di
