/- Part 16: contracts are proved. No condition. -/
import Derived.Test.YtfkmodcjddfeiaaGreatDoorDi15
set_option linter.unusedVariables false
set_option linter.unusedSimpArgs false
namespace Go.Di
open Proofs
noncomputable abbrev k_18 (p:List Nat):Code:=Code.at p (body Proofs.Tryz.f18)
noncomputable abbrev k_81 (p:List Nat):Code:=Code.at p (body Proofs.Tryz.f81)
noncomputable abbrev k_31 (p:List Nat):Code:=Code.at p (body Proofs.Tryz.f31)
def Xcy:List D:=[.nil,.nil,.nil,.int .i64 0,.int .i64 0,.nil,.int .i64 0,.nil,.int .i64 0,.int .i64 0,.nilmap,.nil,.nil]
def Za1:D:=.agg Xcy
def fbkC (x:FBook)(m t u:D):List D:=[.z .sec x.chain.secs,.z .int x.chain.turns,.z .sv x.chain.svs,.int .i64 x.chain.rule,.int .i64 x.chain.days,.z .int x.feet,.int .i64 x.new,.z .int x.opn,.int .i64 x.stock,.int .i64 x.make,m,t,u]
def fopD (x:FBook)(l:List (K2×Bool)):D:=.agg (fbkC x (.map (.work l)) .nil .nil)
theorem Yzy:FnOk PRG (MF 78) 18 (body Tryz.f18) [.tmp 2]:=by refine⟨Tryz.f18,?_,?_,?_,?_,?_⟩<;>kernel_rfl
theorem Zz5:FnOk PRG (MF 63) 81 (body Tryz.f81) [.cell 2 67]:=by refine⟨Tryz.f81,?_,?_,?_,?_,?_⟩<;>kernel_rfl
theorem Ymr:FnOk PRG (MF 34) 44 (body Tryz.f44) [.cell 4 67,.tmp 5]:=by refine⟨Tryz.f44,?_,?_,?_,?_,?_⟩<;>kernel_rfl
theorem Yn6:FnOk PRG (MF 25) 45 (body Tryz.f45) [.tmp 6]:=by refine⟨Tryz.f45,?_,?_,?_,?_,?_⟩<;>kernel_rfl
theorem Zmp:FnOk PRG (MF 7) 59 (body Tryz.f59) [.tmp 3]:=by refine⟨Tryz.f59,?_,?_,?_,?_,?_⟩<;>kernel_rfl
theorem Zm4:FnOk PRG (MF 3) 68 (body Tryz.f68) [.tmp 2]:=by refine⟨Tryz.f68,?_,?_,?_,?_,?_⟩<;>kernel_rfl
theorem Yrp:FnOk PRG (MF 26) 16 (body Tryz.f16) [.tmp 8,.tmp 9]:=by refine⟨Tryz.f16,?_,?_,?_,?_,?_⟩<;>kernel_rfl
theorem Ymt:FnOk PRG (MF 29) 22 (body Tryz.f22) [.tmp 4,.tmp 5,.tmp 6]:=by refine⟨Tryz.f22,?_,?_,?_,?_,?_⟩<;>kernel_rfl
theorem Ywf:FnOk PRG (MF 23) 20 (body Tryz.f20) [.tmp 4,.tmp 5]:=by refine⟨Tryz.f20,?_,?_,?_,?_,?_⟩<;>kernel_rfl
theorem Ywh:FnOk PRG (MF 22) 29 (body Tryz.f29) [.tmp 4,.tmp 5]:=by refine⟨Tryz.f29,?_,?_,?_,?_,?_⟩<;>kernel_rfl
theorem Yrn:FnOk PRG (MF 37) 31 (body Tryz.f31) [.tmp 4,.tmp 5]:=by refine⟨Tryz.f31,?_,?_,?_,?_,?_⟩<;>kernel_rfl
def Ygm (x:FBook)  : KV :=
 [(.tmp 1,.d (D.ptr 1 0)),
  (.box 1,.bz (cellsOf (Yab x)))]
def Yt8:List Key:=[.tmp 1,.box 1]
def Yf3:List Key:=[.tmp 1,.tmp 3,.box 1]
def Yc3 (x:FBook)  (ok:Bool):KV :=
 [(.tmp 1,.d (D.ptr 1 0)),
  (.tmp 3,.d (.bool ok)),
  (.box 1,.bz (cellsOf (Yab x)))]
def Ymf (x:FBook)(m:List (K2×Bool))(i j:Nat)(y:Int)(r:LI):KV :=
 [(.tmp 1,.d (D.ptr 1 0)),
  (.tmp 2,.d (D.ptr 2 0)),
  (.tmp 3,.d (.I i)),
  (.tmp 6,.d (.sl true .int [])),
  (.tmp 13,.d (D.I ((List.length (FBook.feet x):Int)))),
  (.tmp 14,.d (.I i)),
  (.tmp 36,.d (D.I (Book.days (FBook.chain x)+(1:Int)))),
  (.tmp 37,.d (.I j)),
  (.box 1,.bx (some ⟨false,fbkC x (.map (.work m)) .nil (.own 30 (y::r).length)⟩)),
  (.box 2,.bz [D.nil,D.nil,D.nil,D.I 0,D.I 0,D.nil,D.I 0,D.nil,D.I 0,D.I 0,D.nilmap,D.nil,D.nil]),
  (.obj 30,.ob (some ⟨.int,y::r⟩)),
  (.obj 53,.ob none),
  (.obj 59,.ob none)]
def Zti:List Key:=[.tmp 1,.tmp 2,.tmp 3,.tmp 6,.tmp 13,.tmp 14,.tmp 36,.tmp 37,.box 1,.box 2,.obj 30,.obj 53,.obj 59]
def Yfe (x:FBook)(m:List (K2×Bool))(i j:Nat)(y:Int)(r:LI)(z:Int)(l:LI):KV :=
 [(.tmp 1,.d (D.ptr 1 0)),
  (.tmp 2,.d (D.ptr 2 0)),
  (.tmp 3,.d (.I i)),
  (.tmp 6,.d (.own 53 (z::l).length)),
  (.tmp 13,.d (D.I ((List.length (FBook.feet x):Int)))),
  (.tmp 14,.d (.I i)),
  (.tmp 36,.d (D.I (Book.days (FBook.chain x)+(1:Int)))),
  (.tmp 37,.d (.I j)),
  (.box 1,.bx (some ⟨false,fbkC x (.map (.work m)) .nil (.own 30 (y::r).length)⟩)),
  (.box 2,.bz [D.nil,D.nil,D.nil,D.I 0,D.I 0,D.nil,D.I 0,D.nil,D.I 0,D.I 0,D.nilmap,D.nil,D.nil]),
  (.obj 30,.ob (some ⟨.int,y::r⟩)),
  (.obj 53,.ob (some ⟨.int,z::l⟩)),
  (.obj 59,.ob none)]
def Yme:List Key:=[.tmp 1,.tmp 2,.tmp 3,.tmp 6,.tmp 13,.tmp 14,.tmp 36,.tmp 37,.box 1,.box 2,.obj 30,.obj 53,.obj 59]
def Ymd (x:FBook)(m:List (K2×Bool))(i j:Nat)(y:Int)(r:LI)(t:LI)(q:LL):KV :=
 [(.tmp 1,.d (D.ptr 1 0)),
  (.tmp 2,.d (D.ptr 2 0)),
  (.tmp 3,.d (.I i)),
  (.tmp 6,.d (.sl true .int [])),
  (.tmp 13,.d (D.I ((List.length (FBook.feet x):Int)))),
  (.tmp 14,.d (.I i)),
  (.tmp 36,.d (D.I (Book.days (FBook.chain x)+(1:Int)))),
  (.tmp 37,.d (.I j)),
  (.box 1,.bx (some ⟨false,fbkC x (.map (.work m)) (.own 59 (t::q).length) (.own 30 (y::r).length)⟩)),
  (.box 2,.bz [D.nil,D.nil,D.nil,D.I 0,D.I 0,D.nil,D.I 0,D.nil,D.I 0,D.I 0,D.nilmap,D.nil,D.nil]),
  (.obj 30,.ob (some ⟨.int,y::r⟩)),
  (.obj 53,.ob none),
  (.obj 59,.ob (some ⟨.list .int,t::q⟩))]
def Ztg:List Key:=[.tmp 1,.tmp 2,.tmp 3,.tmp 6,.tmp 13,.tmp 14,.tmp 36,.tmp 37,.box 1,.box 2,.obj 30,.obj 53,.obj 59]
def Yfd (x:FBook)(m:List (K2×Bool))(i j:Nat)(y:Int)(r:LI)(t:LI)(q:LL)(z:Int)(l:LI):KV :=
 [(.tmp 1,.d (D.ptr 1 0)),
  (.tmp 2,.d (D.ptr 2 0)),
  (.tmp 3,.d (.I i)),
  (.tmp 6,.d (.own 53 (z::l).length)),
  (.tmp 13,.d (D.I ((List.length (FBook.feet x):Int)))),
  (.tmp 14,.d (.I i)),
  (.tmp 36,.d (D.I (Book.days (FBook.chain x)+(1:Int)))),
  (.tmp 37,.d (.I j)),
  (.box 1,.bx (some ⟨false,fbkC x (.map (.work m)) (.own 59 (t::q).length) (.own 30 (y::r).length)⟩)),
  (.box 2,.bz [D.nil,D.nil,D.nil,D.I 0,D.I 0,D.nil,D.I 0,D.nil,D.I 0,D.I 0,D.nilmap,D.nil,D.nil]),
  (.obj 30,.ob (some ⟨.int,y::r⟩)),
  (.obj 53,.ob (some ⟨.int,z::l⟩)),
  (.obj 59,.ob (some ⟨.list .int,t::q⟩))]
def Ymc:List Key:=[.tmp 1,.tmp 2,.tmp 3,.tmp 6,.tmp 13,.tmp 14,.tmp 36,.tmp 37,.box 1,.box 2,.obj 30,.obj 53,.obj 59]
def Yvr (x:FBook)(m:List (K2×Bool))(i:Nat):KV :=
 [(.tmp 1,.d (D.ptr 1 0)),
  (.tmp 2,.d (D.ptr 2 0)),
  (.tmp 13,.d (D.I ((List.length (FBook.feet x):Int)))),
  (.tmp 14,.d (.I i)),
  (.box 1,.bx (some ⟨false,fbkC x (.map (.work m)) .nil .nil⟩)),
  (.box 2,.bz [D.nil,D.nil,D.nil,D.I 0,D.I 0,D.nil,D.I 0,D.nil,D.I 0,D.I 0,D.nilmap,D.nil,D.nil]),
  (.obj 30,.ob none),
  (.obj 59,.ob none)]
def Yfr (x:FBook)(m:List (K2×Bool))(i:Nat)(y:Int)(r:LI)(t:LI)(q:LL):KV :=
 [(.tmp 1,.d (D.ptr 1 0)),
  (.tmp 2,.d (D.ptr 2 0)),
  (.tmp 13,.d (D.I ((List.length (FBook.feet x):Int)))),
  (.tmp 14,.d (.I i)),
  (.box 1,.bx (some ⟨false,fbkC x (.map (.work m)) (.own 59 (t::q).length) (.own 30 (y::r).length)⟩)),
  (.box 2,.bz [D.nil,D.nil,D.nil,D.I 0,D.I 0,D.nil,D.I 0,D.nil,D.I 0,D.I 0,D.nilmap,D.nil,D.nil]),
  (.obj 30,.ob (some ⟨.int,y::r⟩)),
  (.obj 59,.ob (some ⟨.list .int,t::q⟩))]
def Ypj:List Key:=[.tmp 1,.tmp 2,.tmp 13,.tmp 14,.box 1,.box 2,.obj 30,.obj 59]
def Yc4 (x:FBook)(plan:List Work)(l:List (K2×Bool))(i:Nat):KV :=
 [(.tmp 1,.d (D.z E.work plan)),
  (.tmp 2,.d (D.ptr 2 0)),
  (.tmp 8,.d (D.ptr 8 0)),
  (.tmp 22,.d (D.I ((List.length plan:Int)))),
  (.tmp 23,.d (.I i)),
  (.box 2,.bz (cellsOf (Yab x))),
  (.box 8,.bz (cellsOf (fopD x l)))]
def Yms:List Key:=[.tmp 1,.tmp 2,.tmp 8,.tmp 22,.tmp 23,.box 2,.box 8]
def Ycl (x:FBook)(ok:Bool)(i:Nat):KV :=
 [(.tmp 1,.d (D.ptr 1 0)),
  (.tmp 3,.d (.bool ok)),
  (.tmp 45,.d (D.z E.int (FBook.feet x))),
  (.tmp 46,.d (D.I ((List.length (FBook.feet x):Int)))),
  (.tmp 47,.d (.I i)),
  (.box 1,.bz (cellsOf (Yab x)))]
def Yjz:List Key:=[.tmp 1,.tmp 3,.tmp 45,.tmp 46,.tmp 47,.box 1]
def Yck (x:FBook)(ok:Bool)(la:Int)(i:Nat):KV :=
 [(.tmp 1,.d (D.ptr 1 0)),
  (.tmp 3,.d (.bool ok)),
  (.tmp 6,.d (.I la)),
  (.tmp 58,.d (D.z E.int (FBook.opn x))),
  (.tmp 59,.d (D.I ((List.length (FBook.opn x):Int)))),
  (.tmp 60,.d (.I i)),
  (.box 1,.bz (cellsOf (Yab x)))]
def Yjy:List Key:=[.tmp 1,.tmp 3,.tmp 6,.tmp 58,.tmp 59,.tmp 60,.box 1]
def Yip (x:FBook)(plan:List Work)(l:List (K2×Bool))(i:Nat)(v:Int):KV :=
 [(.tmp 1,.d (D.z E.work plan)),(.tmp 2,.d (D.ptr 2 0)),(.tmp 8,.d (D.ptr 8 0)),(.tmp 22,.d (D.I ((List.length plan:Int)))),(.tmp 23,.d (D.I (i:Int))),(.box 2,.bz (cellsOf (Yab x))),(.box 8,.bz (cellsOf (fopD x l))),(.tmp 4,.d (D.I (i:Int))),(.tmp 5,.d (D.I 0))]
theorem Zex (x:FBook) :runK (MF 78) [(13,false)] [(11,.I (Yai x.chain)),(26,.bool (Yad x.new 0 200)),(37,.bool (Yad x.stock 0 200)),(42,.bool (Yad x.make 0 9))] [] (k_18 [1,0]) (Ygm x ) Yf3 =some ([CF 55 [Yah x.chain] (D.I (Yai x.chain)),(Yai x.chain==(0:Int))=false,(Yai x.chain==(0:Int))=false,(Yai x.chain==(0:Int))=false,(Yai x.chain==(0:Int))=false,(Yai x.chain==(0:Int))=false,(Yai x.chain==(0:Int))=false,(Yai x.chain==(0:Int))=false,(Yai x.chain==(0:Int))=false,(Yai x.chain==(0:Int))=false],Ex.normal,Yc3 x false):=by kernel_rfl
theorem Zew (x:FBook) :runK (MF 78) [(13,true),(23,false)] [(11,.I (Yai x.chain)),(26,.bool (Yad x.new 0 200)),(37,.bool (Yad x.stock 0 200)),(42,.bool (Yad x.make 0 9))] [] (k_18 [1,0]) (Ygm x ) Yf3 =some ([CF 55 [Yah x.chain] (D.I (Yai x.chain)),(Yai x.chain==(0:Int))=true,(Yai x.chain==(0:Int))=true,(Yai x.chain==(0:Int))=true,(Yai x.chain==(0:Int))=true,(Yai x.chain==(0:Int))=true,(Yai x.chain==(0:Int))=true,(Yai x.chain==(0:Int))=true,(Yai x.chain==(0:Int))=true,(Yai x.chain==(0:Int))=true,((x.feet.length:Int)==(x.chain.secs.length:Int))=false,((x.feet.length:Int)==(x.chain.secs.length:Int))=false,((x.feet.length:Int)==(x.chain.secs.length:Int))=false,((x.feet.length:Int)==(x.chain.secs.length:Int))=false],Ex.normal,Yc3 x false):=by kernel_rfl
theorem Zev (x:FBook) :runK (MF 78) [(13,true),(23,true),(28,false)] [(11,.I (Yai x.chain)),(26,.bool (Yad x.new 0 200)),(37,.bool (Yad x.stock 0 200)),(42,.bool (Yad x.make 0 9))] [] (k_18 [1,0]) (Ygm x ) Yf3 =let Z0:Prop:=Yad x.new (0:Int) (200:Int)=false;some ([CF 55 [Yah x.chain] (D.I (Yai x.chain)),(Yai x.chain==(0:Int))=true,(Yai x.chain==(0:Int))=true,(Yai x.chain==(0:Int))=true,(Yai x.chain==(0:Int))=true,(Yai x.chain==(0:Int))=true,(Yai x.chain==(0:Int))=true,(Yai x.chain==(0:Int))=true,(Yai x.chain==(0:Int))=true,(Yai x.chain==(0:Int))=true,((x.feet.length:Int)==(x.chain.secs.length:Int))=true,((x.feet.length:Int)==(x.chain.secs.length:Int))=true,((x.feet.length:Int)==(x.chain.secs.length:Int))=true,CF 47 [D.I x.new,D.I 0,D.I 200] (D.bool (Yad x.new (0:Int) (200:Int))),((x.feet.length:Int)==(x.chain.secs.length:Int))=true,Z0,Z0,Z0,Z0,Z0],Ex.normal,Yc3 x false):=by kernel_rfl
theorem Zeu (x:FBook) :runK (MF 78) [(13,true),(23,true),(28,true),(34,false)] [(11,.I (Yai x.chain)),(26,.bool (Yad x.new 0 200)),(37,.bool (Yad x.stock 0 200)),(42,.bool (Yad x.make 0 9))] [] (k_18 [1,0]) (Ygm x ) Yf3 =let Z0:Prop:=Yad x.new (0:Int) (200:Int)=true;let Z1:Prop:=decide ((x.opn.length:Int)<=(4:Int))=false;some ([CF 55 [Yah x.chain] (D.I (Yai x.chain)),(Yai x.chain==(0:Int))=true,(Yai x.chain==(0:Int))=true,(Yai x.chain==(0:Int))=true,(Yai x.chain==(0:Int))=true,(Yai x.chain==(0:Int))=true,(Yai x.chain==(0:Int))=true,(Yai x.chain==(0:Int))=true,(Yai x.chain==(0:Int))=true,(Yai x.chain==(0:Int))=true,((x.feet.length:Int)==(x.chain.secs.length:Int))=true,((x.feet.length:Int)==(x.chain.secs.length:Int))=true,((x.feet.length:Int)==(x.chain.secs.length:Int))=true,CF 47 [D.I x.new,D.I 0,D.I 200] (D.bool (Yad x.new (0:Int) (200:Int))),((x.feet.length:Int)==(x.chain.secs.length:Int))=true,Z0,Z0,Z0,Z0,Z0,Z1,Z1,Z1,Z1],Ex.normal,Yc3 x false):=by kernel_rfl
theorem Zet (x:FBook) :runK (MF 78) [(13,true),(23,true),(28,true),(34,true),(39,false)] [(11,.I (Yai x.chain)),(26,.bool (Yad x.new 0 200)),(37,.bool (Yad x.stock 0 200)),(42,.bool (Yad x.make 0 9))] [] (k_18 [1,0]) (Ygm x ) Yf3 =let Z0:Prop:=Yad x.new (0:Int) (200:Int)=true;let Z1:Prop:=decide ((x.opn.length:Int)<=(4:Int))=true;let Z2:Prop:=Yad x.stock (0:Int) (200:Int)=false;some ([CF 55 [Yah x.chain] (D.I (Yai x.chain)),(Yai x.chain==(0:Int))=true,(Yai x.chain==(0:Int))=true,(Yai x.chain==(0:Int))=true,(Yai x.chain==(0:Int))=true,(Yai x.chain==(0:Int))=true,(Yai x.chain==(0:Int))=true,(Yai x.chain==(0:Int))=true,(Yai x.chain==(0:Int))=true,(Yai x.chain==(0:Int))=true,((x.feet.length:Int)==(x.chain.secs.length:Int))=true,((x.feet.length:Int)==(x.chain.secs.length:Int))=true,((x.feet.length:Int)==(x.chain.secs.length:Int))=true,CF 47 [D.I x.new,D.I 0,D.I 200] (D.bool (Yad x.new (0:Int) (200:Int))),((x.feet.length:Int)==(x.chain.secs.length:Int))=true,Z0,Z0,Z0,Z0,Z0,Z1,Z1,Z1,CF 47 [D.I x.stock,D.I 0,D.I 200] (D.bool (Yad x.stock (0:Int) (200:Int))),Z1,Z2,Z2,Z2,Z2],Ex.normal,Yc3 x false):=by kernel_rfl
theorem Zes (x:FBook) :runK (MF 78) [(13,true),(23,true),(28,true),(34,true),(39,true)] [(11,.I (Yai x.chain)),(26,.bool (Yad x.new 0 200)),(37,.bool (Yad x.stock 0 200)),(42,.bool (Yad x.make 0 9))] [] (k_18 [1,0]) (Ygm x ) Yf3 =let Z0:Prop:=Yad x.new (0:Int) (200:Int)=true;let Z1:Prop:=decide ((x.opn.length:Int)<=(4:Int))=true;let Z2:Prop:=Yad x.stock (0:Int) (200:Int)=true;some ([CF 55 [Yah x.chain] (D.I (Yai x.chain)),(Yai x.chain==(0:Int))=true,(Yai x.chain==(0:Int))=true,(Yai x.chain==(0:Int))=true,(Yai x.chain==(0:Int))=true,(Yai x.chain==(0:Int))=true,(Yai x.chain==(0:Int))=true,(Yai x.chain==(0:Int))=true,(Yai x.chain==(0:Int))=true,(Yai x.chain==(0:Int))=true,((x.feet.length:Int)==(x.chain.secs.length:Int))=true,((x.feet.length:Int)==(x.chain.secs.length:Int))=true,((x.feet.length:Int)==(x.chain.secs.length:Int))=true,CF 47 [D.I x.new,D.I 0,D.I 200] (D.bool (Yad x.new (0:Int) (200:Int))),((x.feet.length:Int)==(x.chain.secs.length:Int))=true,Z0,Z0,Z0,Z0,Z0,Z1,Z1,Z1,CF 47 [D.I x.stock,D.I 0,D.I 200] (D.bool (Yad x.stock (0:Int) (200:Int))),Z1,Z2,Z2,Z2,CF 47 [D.I x.make,D.I 0,D.I 9] (D.bool (Yad x.make (0:Int) (9:Int))),Z2],Ex.normal,Yc3 x (Yad x.make 0 9)):=by kernel_rfl
theorem Zez (x:FBook)(ok:Bool)(i:Nat) :runK (MF 78) [(48,true),(52,false)] [] [] (k_18 [1,1,0,1,0,0]) (Ycl x ok i) Yjz =some ([decide ((i:Int)<(x.feet.length:Int))=true,(0:Int)<=(i:Int)/\(i:Int)<(x.feet.length:Int),0+1<=1,ok=false,ok=false,ok=false,Yae ((i:Int)+(1:Int))],Ex.normal,Ycl x false (i+1)):=by kernel_rfl
theorem Yz1 (x:FBook)(ok:Bool)(i:Nat)(b:Bool) :runK (MF 78) [(48,true),(52,true)] [(54,.bool b)] [] (k_18 [1,1,0,1,0,0]) (Ycl x ok i) Yjz =some ([decide ((i:Int)<(x.feet.length:Int))=true,(0:Int)<=(i:Int)/\(i:Int)<(x.feet.length:Int),0+1<=1,ok=true,ok=true,CF 47 [D.I (List.getD x.feet (i) (0:Int)),D.I 1,D.I 30] (D.bool b),ok=true,Yae ((i:Int)+(1:Int))],Ex.normal,Ycl x b (i+1)):=by kernel_rfl
theorem Yz2 (x:FBook)(ok:Bool)(i:Nat) :runK (MF 78) [(48,false)] [] [] (k_18 [1,1,0,1,0,0]) (Ycl x ok i) Yjz =some ([decide ((i:Int)<(x.feet.length:Int))=false],Ex.exit 0,Ycl x ok i):=by kernel_rfl
theorem Zey (x:FBook)(ok:Bool)(la:Int)(i:Nat) :runK (MF 78) [(61,true),(65,false)] [] [] (k_18 [1,1,1,1,0,1,0,0]) (Yck x ok la i) Yjy =some ([decide ((i:Int)<(x.opn.length:Int))=true,(0:Int)<=(i:Int)/\(i:Int)<(x.opn.length:Int),0+1<=1,ok=false,ok=false,ok=false,ok=false,ok=false,ok=false,ok=false,ok=false,Yae ((i:Int)+(1:Int))],Ex.normal,Yck x false (x.opn.getD i 0) (i+1)):=by kernel_rfl
theorem Yzz (x:FBook)(ok:Bool)(la:Int)(i:Nat)(b:Bool) :runK (MF 78) [(61,true),(65,true)] [(72,.bool b)] [] (k_18 [1,1,1,1,0,1,0,0]) (Yck x ok la i) Yjy =some ([decide ((i:Int)<(x.opn.length:Int))=true,(0:Int)<=(i:Int)/\(i:Int)<(x.opn.length:Int),0+1<=1,ok=true,ok=true,ok=true,Yae (la+(1:Int)),ok=true,ok=true,ok=true,ok=true,CF 47 [D.I (List.getD x.opn (i) (0:Int)),D.I (la+(1:Int)),D.I x.chain.days] (D.bool b),ok=true,Yae ((i:Int)+(1:Int))],Ex.normal,Yck x b (x.opn.getD i 0) (i+1)):=by kernel_rfl
theorem Yz0 (x:FBook)(ok:Bool)(la:Int)(i:Nat) :runK (MF 78) [(61,false)] [] [] (k_18 [1,1,1,1,0,1,0,0]) (Yck x ok la i) Yjy =some ([decide ((i:Int)<(x.opn.length:Int))=false],Ex.exit 2,Yck x ok la i):=by kernel_rfl
theorem Zdz (x:FBook)(m:List (K2×Bool))(i j:Nat)(y:Int)(r:LI)(s:Span)(e:Int) :runK (MF 63) [(38,true)] [(46,.tup [spD s,.I e])] [] (k_81 [1,0,1,0,0,1,1,0,0,1,1,1,1,0,1,0,0]) (Ymf x m i j y r) Yme =some ([decide ((j:Int)<x.chain.days+(1:Int))=true,CF 111 [Yah x.chain,D.I (i:Int),D.I (j:Int)] (D.tup [D.agg [D.I s.lo,D.I s.hi],D.I e]),0+0+1<=2,1*(8+1)<=140737488355328,Yae ((j:Int)+(1:Int))],Ex.normal,Yfe x m i (j+1) y r s.lo []):=by kernel_rfl
theorem Yy5 (x:FBook)(m:List (K2×Bool))(i j:Nat)(y:Int)(r:LI) :runK (MF 63) [(38,false)] [] [] (k_81 [1,0,1,0,0,1,1,0,0,1,1,1,1,0,1,0,0]) (Ymf x m i j y r) Zti =some ([decide ((j:Int)<x.chain.days+(1:Int))=false],Ex.exit 2,Ymf x m i j y r):=by kernel_rfl
theorem Zdy (x:FBook)(m:List (K2×Bool))(i j:Nat)(y:Int)(r:LI)(z:Int)(l:LI)(s:Span)(e:Int) :runK (MF 63) [(38,true)] [(46,.tup [spD s,.I e])] [] (k_81 [1,0,1,0,0,1,1,0,0,1,1,1,1,0,1,0,0]) (Yfe x m i j y r z l) Yme =some ([decide ((j:Int)<x.chain.days+(1:Int))=true,CF 111 [Yah x.chain,D.I (i:Int),D.I (j:Int)] (D.tup [D.agg [D.I s.lo,D.I s.hi],D.I e]),0+0+1<=2,(z::l).length=List.length ((z::l)),List.length ((z::l)++[s.lo])*(8+1)<=140737488355328,Yae ((j:Int)+(1:Int))],Ex.normal,Yfe x m i (j+1) y r z (l++[s.lo])):=by kernel_rfl
theorem Yy4 (x:FBook)(m:List (K2×Bool))(i j:Nat)(y:Int)(r:LI)(z:Int)(l:LI) :runK (MF 63) [(38,false)] [] [] (k_81 [1,0,1,0,0,1,1,0,0,1,1,1,1,0,1,0,0]) (Yfe x m i j y r z l) Yme =some ([decide ((j:Int)<x.chain.days+(1:Int))=false],Ex.exit 2,Yfe x m i j y r z l):=by kernel_rfl
theorem Zdw (x:FBook)(m:List (K2×Bool))(i j:Nat)(y:Int)(r:LI)(t:LI)(q:LL)(s:Span)(e:Int) :runK (MF 63) [(38,true)] [(46,.tup [spD s,.I e])] [] (k_81 [1,0,1,0,0,1,1,0,0,1,1,1,1,0,1,0,0]) (Ymd x m i j y r t q) Ymc =some ([decide ((j:Int)<x.chain.days+(1:Int))=true,CF 111 [Yah x.chain,D.I (i:Int),D.I (j:Int)] (D.tup [D.agg [D.I s.lo,D.I s.hi],D.I e]),0+0+1<=2,1*(8+1)<=140737488355328,Yae ((j:Int)+(1:Int))],Ex.normal,Yfd x m i (j+1) y r t q s.lo []):=by kernel_rfl
theorem Yy3 (x:FBook)(m:List (K2×Bool))(i j:Nat)(y:Int)(r:LI)(t:LI)(q:LL) :runK (MF 63) [(38,false)] [] [] (k_81 [1,0,1,0,0,1,1,0,0,1,1,1,1,0,1,0,0]) (Ymd x m i j y r t q) Ztg =some ([decide ((j:Int)<x.chain.days+(1:Int))=false],Ex.exit 2,Ymd x m i j y r t q):=by kernel_rfl
theorem Zdv (x:FBook)(m:List (K2×Bool))(i j:Nat)(y:Int)(r:LI)(t:LI)(q:LL)(z:Int)(l:LI)(s:Span)(e:Int) :runK (MF 63) [(38,true)] [(46,.tup [spD s,.I e])] [] (k_81 [1,0,1,0,0,1,1,0,0,1,1,1,1,0,1,0,0]) (Yfd x m i j y r t q z l) Ymc =some ([decide ((j:Int)<x.chain.days+(1:Int))=true,CF 111 [Yah x.chain,D.I (i:Int),D.I (j:Int)] (D.tup [D.agg [D.I s.lo,D.I s.hi],D.I e]),0+0+1<=2,(z::l).length=List.length ((z::l)),List.length ((z::l)++[s.lo])*(8+1)<=140737488355328,Yae ((j:Int)+(1:Int))],Ex.normal,Yfd x m i (j+1) y r t q z (l++[s.lo])):=by kernel_rfl
theorem Yy2 (x:FBook)(m:List (K2×Bool))(i j:Nat)(y:Int)(r:LI)(t:LI)(q:LL)(z:Int)(l:LI) :runK (MF 63) [(38,false)] [] [] (k_81 [1,0,1,0,0,1,1,0,0,1,1,1,1,0,1,0,0]) (Yfd x m i j y r t q z l) Ymc =some ([decide ((j:Int)<x.chain.days+(1:Int))=false],Ex.exit 2,Yfd x m i j y r t q z l):=by kernel_rfl
theorem Zlp (x:FBook)(m:List (K2×Bool))(i:Nat)(s:Span)(e:Int)(j:Nat)(z:Int)(l:LI) :runK (MF 63) [(15,true)] [(22,.tup [spD s,.I e])] [(2,(Yme,(.normal,Yfe x m i j s.hi [] z l)))] (k_81 [1,0,1,0,0]) (Yvr x m i) Ypj =some ([decide ((i:Int)<(x.feet.length:Int))=true,CF 110 [Yah x.chain,D.I (i:Int)] (D.tup [D.agg [D.I s.lo,D.I s.hi],D.I e]),0+1+1<=2,1*(8+1)<=140737488355328,1=1,Yae (x.chain.days+(1:Int)),LF 63 (k_81 [1,0,1,0,0,1,1,0,0,1,1,1,1,0,1]) [(.tmp 1,.d (D.ptr 1 0)),(.tmp 2,.d (D.ptr 2 0)),(.tmp 3,.d (D.I (i:Int))),(.tmp 6,.d (D.sl true E.int [])),(.tmp 13,.d (D.I ((x.feet.length:Int)))),(.tmp 14,.d (D.I (i:Int))),(.tmp 36,.d (D.I (x.chain.days+(1:Int)))),(.tmp 37,.d (D.I 0)),(.box 1,.bz [D.z E.sec x.chain.secs,D.z E.int x.chain.turns,D.z E.sv x.chain.svs,D.I x.chain.rule,D.I x.chain.days,D.z E.int x.feet,D.I x.new,D.z E.int x.opn,D.I x.stock,D.I x.make,D.map (Mp.work m),D.nil,D.own 30 1]),(.box 2,.bz [D.nil,D.nil,D.nil,D.I 0,D.I 0,D.nil,D.I 0,D.nil,D.I 0,D.I 0,D.nilmap,D.nil,D.nil]),(.obj 30,.ob (some (Ob.mk E.int ([]++[s.hi])))),(.obj 53,.ob Option.none),(.obj 59,.ob Option.none)] Ex.normal (Yfe x m i j s.hi [] z l),(z::l).length=List.length ((z::l)),1*(24+1)<=140737488355328,1=1,Yae ((i:Int)+(1:Int))],Ex.normal,Yfr x m (i+1) s.hi [] (z::l) []):=by kernel_rfl
theorem Zlo (x:FBook)(m:List (K2×Bool))(i:Nat)(y:Int)(r:LI)(t:LI)(q:LL)(s:Span)(e:Int)(j:Nat)(z:Int)(l:LI) :runK (MF 63) [(15,true)] [(22,.tup [spD s,.I e])] [(2,(Ymc,(.normal,Yfd x m i j y (r++[s.hi]) t q z l)))] (k_81 [1,0,1,0,0]) (Yfr x m i y r t q) Ypj =some ([decide ((i:Int)<(x.feet.length:Int))=true,CF 110 [Yah x.chain,D.I (i:Int)] (D.tup [D.agg [D.I s.lo,D.I s.hi],D.I e]),0+1+1<=2,(y::r).length=List.length ((y::r)),List.length ((y::r)++[s.hi])*(8+1)<=140737488355328,List.length ((y::r)++[s.hi])=List.length (((y::r)++[s.hi])),Yae (x.chain.days+(1:Int)),LF 63 (k_81 [1,0,1,0,0,1,1,0,0,1,1,1,1,0,1]) [(.tmp 1,.d (D.ptr 1 0)),(.tmp 2,.d (D.ptr 2 0)),(.tmp 3,.d (D.I (i:Int))),(.tmp 6,.d (D.sl true E.int [])),(.tmp 13,.d (D.I ((x.feet.length:Int)))),(.tmp 14,.d (D.I (i:Int))),(.tmp 36,.d (D.I (x.chain.days+(1:Int)))),(.tmp 37,.d (D.I 0)),(.box 1,.bz [D.z E.sec x.chain.secs,D.z E.int x.chain.turns,D.z E.sv x.chain.svs,D.I x.chain.rule,D.I x.chain.days,D.z E.int x.feet,D.I x.new,D.z E.int x.opn,D.I x.stock,D.I x.make,D.map (Mp.work m),D.own 59 ((t::q).length),D.own 30 (List.length ((y::r)++[s.hi]))]),(.box 2,.bz [D.nil,D.nil,D.nil,D.I 0,D.I 0,D.nil,D.I 0,D.nil,D.I 0,D.I 0,D.nilmap,D.nil,D.nil]),(.obj 30,.ob (some (Ob.mk E.int ((y::r)++[s.hi])))),(.obj 53,.ob Option.none),(.obj 59,.ob (some (Ob.mk (E.list E.int) (t::q))))] Ex.normal (Yfd x m i j y (r++[s.hi]) t q z l),(z::l).length=List.length ((z::l)),(t::q).length=List.length ((t::q)),List.length ((t::q)++[(z::l)])*(24+1)<=140737488355328,List.length ((t::q)++[(z::l)])=List.length (((t::q)++[(z::l)])),Yae ((i:Int)+(1:Int))],Ex.normal,Yfr x m (i+1) y (r++[s.hi]) t (q++[z::l])):=by kernel_rfl
theorem Zdx (x:FBook)(m:List (K2×Bool))(i:Nat)(y:Int)(r:LI)(t:LI)(q:LL) :runK (MF 63) [(15,false)] [] [] (k_81 [1,0,1,0,0]) (Yfr x m i y r t q) Ypj =some ([decide ((i:Int)<(x.feet.length:Int))=false],Ex.exit 0,Yfr x m i y r t q):=by kernel_rfl
theorem Ze5 (x:FBook)(plan:List Work)(l:List (K2×Bool))(i:Nat)(v:Int) :runK (MF 37) [(24,true),(34,false)] [(31,.I v)] [] (k_31 [1,1,1,0,1,0,0]) (Yc4 x plan l i) Yms =let Z0:Prop:=Yae ((i:Int)+(1:Int));some ([decide ((i:Int)<(plan.length:Int))=true,Z0,(0:Int)<=(0:Int)/\(0:Int)<=(i:Int)+(1:Int)/\(i:Int)+(1:Int)<=(plan.length:Int),CF 67 [fopD x l,D.z E.work (List.drop 0 (List.take (Int.toNat ((i:Int)+(1:Int))) plan))] (D.I v),decide (v>x.stock)=false,Z0],Ex.normal,Yc4 x plan l (i+1)):=by kernel_rfl
theorem Yz5 (x:FBook)(plan:List Work)(l:List (K2×Bool))(i:Nat)(v:Int) :runK (MF 37) [(24,true),(34,true)] [(31,.I v)] [] (k_31 [1,1,1,0,1,0,0]) (Yc4 x plan l i) [.tmp 1,.tmp 2,.tmp 8,.tmp 22,.tmp 23,.box 2,.box 8,.tmp 4,.tmp 5] =some ([decide ((i:Int)<(plan.length:Int))=true,Yae ((i:Int)+(1:Int)),(0:Int)<=(0:Int)/\(0:Int)<=(i:Int)+(1:Int)/\(i:Int)+(1:Int)<=(plan.length:Int),CF 67 [fopD x l,D.z E.work (List.drop 0 (List.take (Int.toNat ((i:Int)+(1:Int))) plan))] (D.I v),decide (v>x.stock)=true],Ex.ret,Yip x plan l i v):=by kernel_rfl
theorem Yz6 (x:FBook)(plan:List Work)(l:List (K2×Bool))(i:Nat) :runK (MF 37) [(24,false)] [] [] (k_31 [1,1,1,0,1,0,0]) (Yc4 x plan l i) Yms =some ([decide ((i:Int)<(plan.length:Int))=false],Ex.exit 0,Yc4 x plan l i):=by kernel_rfl
theorem Zm0 (x:FBook)(ok0 ok1 ok2:Bool)(la:Int) :Yaj (MF 78) [(77,true)] [] [(1001,(Yt8,(.normal,Yc3 x ok0))),(0,(Yjz,(.normal,Ycl x ok1 x.feet.length))),(2,(Yjy,(.normal,Yck x ok2 la x.opn.length)))] (body Tryz.f18) [.tmp 2] [Yab x] =some ([LF 78 (k_18 [1,0]) [(.tmp 1,.d (D.ptr 1 0)),(.box 1,.bz (cellsOf (Yab x)))] Ex.normal (Yc3 x ok0),LF 78 (k_18 [1,1,0,1]) (Ycl x ok0 0) Ex.normal (Ycl x ok1 x.feet.length),LF 78 (k_18 [1,1,1,1,0,1]) (Yck x ok1 (- 1) 0) Ex.normal (Yck x ok2 la x.opn.length),(!ok2)=true],D.I 70):=by kernel_rfl
theorem Zer (x:FBook)(ok0 ok1 ok2:Bool)(la:Int) :Yaj (MF 78) [(77,false)] [] [(1001,(Yt8,(.normal,Yc3 x ok0))),(0,(Yjz,(.normal,Ycl x ok1 x.feet.length))),(2,(Yjy,(.normal,Yck x ok2 la x.opn.length)))] (body Tryz.f18) [.tmp 2] [Yab x] =some ([LF 78 (k_18 [1,0]) [(.tmp 1,.d (D.ptr 1 0)),(.box 1,.bz (cellsOf (Yab x)))] Ex.normal (Yc3 x ok0),LF 78 (k_18 [1,1,0,1]) (Ycl x ok0 0) Ex.normal (Ycl x ok1 x.feet.length),LF 78 (k_18 [1,1,1,1,0,1]) (Yck x ok1 (- 1) 0) Ex.normal (Yck x ok2 la x.opn.length),(!ok2)=false],D.I 0):=by kernel_rfl
theorem Zth (x:FBook)(m:List (K2×Bool))(i:Nat)(y:Int)(r:LI)(t:LI)(q:LL) :Yaj (MF 63) [] [] [(0,(Ypj,(.normal,Yfr x m i y r t q)))] (body Tryz.f81) [.cell 2 67] [fopD x m] =some ([LF 63 (k_81 [1,0,1]) [(.tmp 1,.d (D.ptr 1 0)),(.tmp 2,.d (D.ptr 2 0)),(.tmp 13,.d (D.I ((x.feet.length:Int)))),(.tmp 14,.d (D.I 0)),(.box 1,.bz (cellsOf (fopD x m))),(.box 2,.bz [D.nil,D.nil,D.nil,D.I 0,D.I 0,D.nil,D.I 0,D.nil,D.I 0,D.I 0,D.nilmap,D.nil,D.nil]),(.obj 30,.ob Option.none),(.obj 59,.ob Option.none)] Ex.normal (Yfr x m i y r t q),(t::q).length=List.length ((t::q)),(y::r).length=List.length ((y::r)),(t::q).length=List.length ((t::q)),(y::r).length=List.length ((y::r))],D.agg [D.z E.sec x.chain.secs,D.z E.int x.chain.turns,D.z E.sv x.chain.svs,D.I x.chain.rule,D.I x.chain.days,D.z E.int x.feet,D.I x.new,D.z E.int x.opn,D.I x.stock,D.I x.make,D.map (Mp.work m),D.z (E.list E.int) ((t::q)),D.z E.int ((y::r))]):=by kernel_rfl
theorem Zm2 (x:FBook)(g:FuncId)(fs:List D)(cs:List (List D))(e:Int) :Yaj (MF 34) [(13,true)] [(11,.I e)] [] (body Tryz.f44) [.cell 4 67,.tmp 5] [Yab x,.fn g fs cs] =some ([CF 18 [Yab x] (D.I e),(e != (0:Int))=true],D.tup [D.agg [D.nil,D.nil,D.nil,D.I 0,D.I 0,D.nil,D.I 0,D.nil,D.I 0,D.I 0,D.nilmap,D.nil,D.nil],D.I e]):=by kernel_rfl
theorem Zm3 (x:FBook)(g:FuncId)(fs:List D)(cs:List (List D))(l:List (K2×Bool)) :Yaj (MF 34) [] [(11,.I 0),(17,fopD x l),(20,.bool false)] [] (body Tryz.f44) [.cell 4 67,.tmp 5] [Yab x,.fn g fs cs] =some ([CF 18 [Yab x] (D.I 0),CF 64 [Yab x] (fopD x l),CF g (fs++List.map weak [fopD x l]++List.map (fun cs ↦ D.ref cs 0) cs) (D.bool false)],D.tup [fopD x l,D.I 71]):=by kernel_rfl
theorem Zu4 (x:FBook)(g:FuncId)(fs:List D)(cs:List (List D))(l:List (K2×Bool))(e:Int) :Yaj (MF 34) [] [(11,.I 0),(17,fopD x l),(20,.bool true),(26,.tup [.bool false,.I e])] [] (body Tryz.f44) [.cell 4 67,.tmp 5] [Yab x,.fn g fs cs] =some ([CF 18 [Yab x] (D.I 0),CF 64 [Yab x] (fopD x l),CF g (fs++List.map weak [fopD x l]++List.map (fun cs ↦ D.ref cs 0) cs) (D.bool true),CF 80 [Yah x.chain] (D.tup [D.bool false,D.I e])],D.tup [fopD x l,D.I 72]):=by kernel_rfl
theorem Zu3 (x:FBook)(g:FuncId)(fs:List D)(cs:List (List D))(l:List (K2×Bool))(e:Int)(th:LL)(wr:LI) :Yaj (MF 34) [] [(11,.I 0),(17,fopD x l),(20,.bool true),(26,.tup [.bool true,.I e]),(33,fbkD x (.work l) th wr)] [] (body Tryz.f44) [.cell 4 67,.tmp 5] [Yab x,.fn g fs cs] =some ([CF 18 [Yab x] (D.I 0),CF 64 [Yab x] (fopD x l),CF g (fs++List.map weak [fopD x l]++List.map (fun cs ↦ D.ref cs 0) cs) (D.bool true),CF 80 [Yah x.chain] (D.tup [D.bool true,D.I e]),CF 81 [fopD x l] (fbkD x (Mp.work l) th wr)],D.tup [fbkD x (Mp.work l) th wr,D.I 0]):=by kernel_rfl
theorem Zuq (y:FBook)(m:Mp)(th:LL)(wr:LI)(x:FBook)(plan:List Work)(s d:Int)(p q r:Bool) :Yaj (MF 25) [(10,false)] [(9,.bool p),(16,.bool q),(23,.bool r)] [] (body Tryz.f45) [.tmp 6] [fbkD y m th wr,.ref [.z .work plan] 0,.ref [.I s] 0,.ref (cellsOf (Yab x)) 0,.ref [.I d] 0] =some ([CF 46 [fbkD y m th wr,D.z E.work plan] (D.bool p),p=false,p=false,p=false,p=false,p=false,p=false,p=false],D.bool false):=by kernel_rfl
theorem Zup (y:FBook)(m:Mp)(th:LL)(wr:LI)(x:FBook)(plan:List Work)(s d:Int)(p q r:Bool) :Yaj (MF 25) [(10,true),(18,false)] [(9,.bool p),(16,.bool q),(23,.bool r)] [] (body Tryz.f45) [.tmp 6] [fbkD y m th wr,.ref [.z .work plan] 0,.ref [.I s] 0,.ref (cellsOf (Yab x)) 0,.ref [.I d] 0] =some ([CF 46 [fbkD y m th wr,D.z E.work plan] (D.bool p),p=true,0+1<=1,p=true,p=true,p=true,p=true,Yae ((x.feet.length:Int)-(1:Int)),p=true,CF 47 [D.I s,D.I 0,D.I ((x.feet.length:Int)-(1:Int))] (D.bool q),p=true,q=false,q=false,q=false,q=false,q=false,q=false],D.bool false):=by kernel_rfl
theorem Zuo (y:FBook)(m:Mp)(th:LL)(wr:LI)(x:FBook)(plan:List Work)(s d:Int)(p q r:Bool) :Yaj (MF 25) [(10,true),(18,true)] [(9,.bool p),(16,.bool q),(23,.bool r)] [] (body Tryz.f45) [.tmp 6] [fbkD y m th wr,.ref [.z .work plan] 0,.ref [.I s] 0,.ref (cellsOf (Yab x)) 0,.ref [.I d] 0] =some ([CF 46 [fbkD y m th wr,D.z E.work plan] (D.bool p),p=true,0+1<=1,p=true,p=true,p=true,p=true,Yae ((x.feet.length:Int)-(1:Int)),p=true,CF 47 [D.I s,D.I 0,D.I ((x.feet.length:Int)-(1:Int))] (D.bool q),p=true,q=true,0+1<=1,q=true,q=true,q=true,q=true,CF 47 [D.I d,D.I 0,D.I x.chain.days] (D.bool r),q=true],D.bool r):=by kernel_rfl
theorem Zel (y:FBook)(m:Mp)(th:LL)(wr:LI)(plan:List Work)(p:Bool) :Yaj (MF 7) [] [(6,.bool p)] [] (body Tryz.f59) [.tmp 3] [fbkD y m th wr,.ref [.z .work plan] 0] =some ([CF 46 [fbkD y m th wr,D.z E.work plan] (D.bool p)],D.bool p):=by kernel_rfl
theorem Ze1 (y:FBook)(m:Mp)(th:LL)(wr:LI) :Yaj (MF 3) [] [] [] (body Tryz.f68) [.tmp 2] [fbkD y m th wr] =some ([],D.bool true):=by kernel_rfl
theorem Ze6 (x:FBook)(plan:List Work)(s d:Int)(e:Int) :Yaj (MF 26) [(19,true)] [(15,.tup [Za1,.I e])] [] (body Tryz.f16) [.tmp 8,.tmp 9] [Yab x,.z .work plan,.I s,.I d] =some ([CF 44 [Yab x,D.fn 45 [] [[D.z E.work plan],[D.I s],(cellsOf (Yab x)),[D.I d]]] (D.tup [D.agg [D.nil,D.nil,D.nil,D.I 0,D.I 0,D.nil,D.I 0,D.nil,D.I 0,D.I 0,D.nilmap,D.nil,D.nil],D.I e]),(e != (0:Int))=true],D.tup [D.I 0,D.I e]):=by kernel_rfl
theorem Ze7 (x:FBook)(plan:List Work)(s d:Int)(l:List (K2×Bool))(e:Int) :Yaj (MF 26) [(19,true)] [(15,.tup [fopD x l,.I e])] [] (body Tryz.f16) [.tmp 8,.tmp 9] [Yab x,.z .work plan,.I s,.I d] =some ([CF 44 [Yab x,D.fn 45 [] [[D.z E.work plan],[D.I s],(cellsOf (Yab x)),[D.I d]]] (D.tup [fopD x l,D.I e]),(e != (0:Int))=true],D.tup [D.I 0,D.I e]):=by kernel_rfl
theorem Zu7 (x:FBook)(plan:List Work)(s d:Int)(l:List (K2×Bool))(th:LL)(wr:LI)(v:Int) :Yaj (MF 26) [] [(15,.tup [fbkD x (.work l) th wr,.I 0]),(25,.I v)] [] (body Tryz.f16) [.tmp 8,.tmp 9] [Yab x,.z .work plan,.I s,.I d] =some ([CF 44 [Yab x,D.fn 45 [] [[D.z E.work plan],[D.I s],(cellsOf (Yab x)),[D.I d]]] (D.tup [fbkD x (Mp.work l) th wr,D.I 0]),0+1<=1,0+1<=1,CF 48 [fbkD x (Mp.work l) th wr,D.z E.work plan,D.I s,D.I d] (D.I v)],D.tup [D.I v,D.I 0]):=by kernel_rfl
theorem Zfa (x:FBook)(plan:List Work)(e:Int) :Yaj (MF 29) [(16,true)] [(12,.tup [Za1,.I e])] [] (body Tryz.f22) [.tmp 4,.tmp 5,.tmp 6] [Yab x,.z .work plan] =some ([CF 44 [Yab x,D.fn 59 [] [[D.z E.work plan]]] (D.tup [D.agg [D.nil,D.nil,D.nil,D.I 0,D.I 0,D.nil,D.I 0,D.nil,D.I 0,D.I 0,D.nilmap,D.nil,D.nil],D.I e]),(e != (0:Int))=true],D.tup [D.I 0,D.I 0,D.I e]):=by kernel_rfl
theorem Zfb (x:FBook)(plan:List Work)(l:List (K2×Bool))(e:Int) :Yaj (MF 29) [(16,true)] [(12,.tup [fopD x l,.I e])] [] (body Tryz.f22) [.tmp 4,.tmp 5,.tmp 6] [Yab x,.z .work plan] =some ([CF 44 [Yab x,D.fn 59 [] [[D.z E.work plan]]] (D.tup [fopD x l,D.I e]),(e != (0:Int))=true],D.tup [D.I 0,D.I 0,D.I e]):=by kernel_rfl
theorem Ze8 (x:FBook)(plan:List Work)(l:List (K2×Bool))(th:LL)(wr:LI)(d s:Int) :Yaj (MF 29) [] [(12,.tup [fbkD x (.work l) th wr,.I 0]),(21,.tup [.I d,.I s,.bool true])] [] (body Tryz.f22) [.tmp 4,.tmp 5,.tmp 6] [Yab x,.z .work plan] =some ([CF 44 [Yab x,D.fn 59 [] [[D.z E.work plan]]] (D.tup [fbkD x (Mp.work l) th wr,D.I 0]),CF 60 [fbkD x (Mp.work l) th wr,D.z E.work plan] (D.tup [D.I d,D.I s,D.bool true])],D.tup [D.I d,D.I s,D.I 0]):=by kernel_rfl
theorem Ze9 (x:FBook)(plan:List Work)(l:List (K2×Bool))(th:LL)(wr:LI)(d s:Int) :Yaj (MF 29) [] [(12,.tup [fbkD x (.work l) th wr,.I 0]),(21,.tup [.I d,.I s,.bool false])] [] (body Tryz.f22) [.tmp 4,.tmp 5,.tmp 6] [Yab x,.z .work plan] =some ([CF 44 [Yab x,D.fn 59 [] [[D.z E.work plan]]] (D.tup [fbkD x (Mp.work l) th wr,D.I 0]),CF 60 [fbkD x (Mp.work l) th wr,D.z E.work plan] (D.tup [D.I d,D.I s,D.bool false])],D.tup [D.I 0,D.I 0,D.I 4]):=by kernel_rfl
theorem Xbd (x:FBook)(plan:List Work)(a b e:Int) :Yaj (MF 23) [(17,true)] [(12,.tup [.I a,.I b,.I e])] [] (body Tryz.f20) [.tmp 4,.tmp 5] [Yab x,.z .work plan] =some ([CF 22 [Yab x,D.z E.work plan] (D.tup [D.I a,D.I b,D.I e]),(e==(0:Int))=true],D.tup [D.bool false,D.I e]):=by kernel_rfl
theorem Zm8 (x:FBook)(plan:List Work)(a b e:Int) :Yaj (MF 23) [(17,false),(20,true)] [(12,.tup [.I a,.I b,.I e])] [] (body Tryz.f20) [.tmp 4,.tmp 5] [Yab x,.z .work plan] =some ([CF 22 [Yab x,D.z E.work plan] (D.tup [D.I a,D.I b,D.I e]),(e==(0:Int))=false,(e==(4:Int))=true],D.tup [D.bool true,D.I 0]):=by kernel_rfl
theorem Zu5 (x:FBook)(plan:List Work)(a b e:Int) :Yaj (MF 23) [(17,false),(20,false)] [(12,.tup [.I a,.I b,.I e])] [] (body Tryz.f20) [.tmp 4,.tmp 5] [Yab x,.z .work plan] =some ([CF 22 [Yab x,D.z E.work plan] (D.tup [D.I a,D.I b,D.I e]),(e==(0:Int))=false,(e==(4:Int))=false],D.tup [D.bool false,D.I e]):=by kernel_rfl
theorem Zu8 (x:FBook)(plan:List Work)(e:Int) :Yaj (MF 22) [(11,true)] [(9,.I e)] [] (body Tryz.f29) [.tmp 4,.tmp 5] [Yab x,.z .work plan] =some ([CF 18 [Yab x] (D.I e),(e != (0:Int))=true],D.tup [D.I 0,D.I e]):=by kernel_rfl
theorem Zu9 (x:FBook)(plan:List Work)(l:List (K2×Bool)) :Yaj (MF 22) [] [(9,.I 0),(14,fopD x l),(17,.bool false)] [] (body Tryz.f29) [.tmp 4,.tmp 5] [Yab x,.z .work plan] =some ([CF 18 [Yab x] (D.I 0),CF 64 [Yab x] (fopD x l),CF 46 [fopD x l,D.z E.work plan] (D.bool false)],D.tup [D.I 0,D.I 71]):=by kernel_rfl
theorem Xbe (x:FBook)(plan:List Work)(l:List (K2×Bool))(v:Int) :Yaj (MF 22) [] [(9,.I 0),(14,fopD x l),(17,.bool true),(21,.I v)] [] (body Tryz.f29) [.tmp 4,.tmp 5] [Yab x,.z .work plan] =some ([CF 18 [Yab x] (D.I 0),CF 64 [Yab x] (fopD x l),CF 46 [fopD x l,D.z E.work plan] (D.bool true),CF 65 [fopD x l,D.z E.work plan] (D.I v)],D.tup [D.I v,D.I 0]):=by kernel_rfl
theorem Zm7 (x:FBook)(plan:List Work)(k e:Int) :Yaj (MF 37) [(17,true)] [(13,.tup [.I k,.I e])] [] (body Tryz.f31) [.tmp 4,.tmp 5] [Yab x,.z .work plan] =some ([CF 29 [Yab x,D.z E.work plan] (D.tup [D.I k,D.I e]),(e != (0:Int))=true],D.tup [D.I 0,D.I e]):=by kernel_rfl
theorem Ze4 (x:FBook)(plan:List Work)(l:List (K2×Bool))(k:Int)(i:Nat) :Yaj (MF 37) [] [(13,.tup [.I k,.I 0]),(20,fopD x l)] [(0,(Yms,(.normal,Yc4 x plan l i)))] (body Tryz.f31) [.tmp 4,.tmp 5] [Yab x,.z .work plan] =some ([CF 29 [Yab x,D.z E.work plan] (D.tup [D.I k,D.I 0]),CF 64 [Yab x] (fopD x l),LF 37 (k_31 [1,1,1,0,1]) (Yc4 x plan l 0) Ex.normal (Yc4 x plan l i)],D.tup [D.I 0,D.I 4]):=by kernel_rfl
theorem Zm5 (x:FBook)(plan:List Work)(l:List (K2×Bool))(k v:Int)(i:Nat) :Yaj (MF 37) [] [(13,.tup [.I k,.I 0]),(20,fopD x l)] [(0,(Yms,(.ret,Yip x plan l i v)))] (body Tryz.f31) [.tmp 4,.tmp 5] [Yab x,.z .work plan] =some ([CF 29 [Yab x,D.z E.work plan] (D.tup [D.I k,D.I 0]),CF 64 [Yab x] (fopD x l),LF 37 (k_31 [1,1,1,0,1]) (Yc4 x plan l 0) Ex.ret (Yip x plan l i v)],D.tup [D.I (i:Int),D.I 0]):=by kernel_rfl
noncomputable abbrev k_64 (p:List Nat):Code:=Code.at p (body Proofs.Tryz.f64)
def foA (x:FBook):KV:=[(.tmp 1,.d (.ptr 1 0)),(.tmp 2,.d (.ptr 2 0)),(.box 1,.bx (some ⟨false,cellsOf (Yab x)⟩)),(.box 2,.bx (some ⟨false,Xcy⟩))]
def foAK:List Key:=[.tmp 1,.tmp 2,.box 1,.box 2]
def foM (x:FBook)(l:List (K2×Bool)):KV:=[(.tmp 3,.d (.ptr 3 0)),(.box 3,.bx (some ⟨false,fbkC x (.mref 8) .nil .nil⟩)),(.mp 8,.mp (some (.work l)))]
def foB (x:FBook):KV:=foA x++foM x [((-1,0),false)]
def foBK:List Key:=foAK++[.tmp 3,.box 3,.mp 8]
def foS (x:FBook)(l:List (K2×Bool))(i:Nat):KV:=(foA x++foM x l)++[(.tmp 13,.d (.z .int x.opn)),(.tmp 14,.d (.I x.opn.length)),(.tmp 15,.d (.I i))]
def foK:List Key:=foBK++[.tmp 13,.tmp 14,.tmp 15]
def foT (x:FBook)(l:List (K2×Bool))(i:Nat)(d:Int)(j:Nat):KV:=foS x l i++[(.tmp 5,.d (.I d)),(.tmp 21,.d (.I x.feet.length)),(.tmp 22,.d (.I j))]
def foTK:List Key:=foK++[.tmp 5,.tmp 21,.tmp 22]
def foE (x:FBook)(l:List (K2×Bool)):KV:=[(.tmp 2,.d (.ptr 2 0)),(.box 2,.bx (some ⟨false,fbkC x (.map (.work l)) .nil .nil⟩))]
theorem fo_0 (x:FBook) :runK (MF 33) [] [] [] (k_64 [0]) (entry 0 [Yab x]) foAK =some ([],.normal,foA x):=by kernel_rfl
theorem fo_1 (x:FBook) :runK (MF 33) [] [] [] (k_64 [1,0]) (foA x) foBK =some ([Cfg.plain (MF 33),0+2<=2,Cfg.plain (MF 33)],.normal,foB x):=by kernel_rfl
theorem fo_2 (x:FBook) :runK (MF 33) [] [] [] (k_64 [1,1,0,0]) (foB x) foK =some ([],.normal,foS x [((-1,0),false)] 0):=by kernel_rfl
theorem Xjz (x:FBook)(l:List (K2×Bool))(i:Nat)(u:List (K2×Bool)) :runK (MF 33) [(16,true)] [] [(2,(foTK,(.normal,foT x u i (x.opn.getD i 0) x.feet.length)))] (k_64 [1,1,0,1,0,0]) (foS x l i) foK =some ([decide ((i:Int)<(x.opn.length:Int))=true,(0:Int)<=(i:Int)/\(i:Int)<(x.opn.length:Int),0+1<=1,LF 33 (k_64 [1,1,0,1,0,0,1,1,0,0,1,1]) (foT x l i (x.opn.getD i 0) 0) Ex.normal (foT x u i (List.getD x.opn i (0:Int)) x.feet.length),Yae ((i:Int)+(1:Int))],.normal,foS x u (i+1)):=by kernel_rfl
theorem Xip (x:FBook)(l:List (K2×Bool))(i:Nat) :runK (MF 33) [(16,false)] [] [] (k_64 [1,1,0,1,0,0]) (foS x l i) foK =some ([decide ((i:Int)<(x.opn.length:Int))=false],.exit 0,foS x l i):=by kernel_rfl
theorem Xj0 (x:FBook)(l:List (K2×Bool))(i:Nat)(d:Int)(j:Nat) :runK (MF 33) [(23,true)] [] [] (k_64 [1,1,0,1,0,0,1,1,0,0,1,1,0,0]) (foT x l i d j) foTK =some ([decide ((j:Int)<(x.feet.length:Int))=true,Cfg.plain (MF 33),Yae ((j:Int)+(1:Int))],.normal,foT x (updK l (d,(j:Int)) true) i d (j+1)):=by kernel_rfl
theorem Xio (x:FBook)(l:List (K2×Bool))(i:Nat)(d:Int)(j:Nat) :runK (MF 33) [(23,false)] [] [] (k_64 [1,1,0,1,0,0,1,1,0,0,1,1,0,0]) (foT x l i d j) foTK =some ([decide ((j:Int)<(x.feet.length:Int))=false],.exit 2,foT x l i d j):=by kernel_rfl
theorem fo_3 (x:FBook)(l:List (K2×Bool))(i:Nat) :runK (MF 33) [] [] [] (k_64 [1,1,1,0]) (Zip 8 (.work l) (foS x l i)) [.tmp 2,.box 2] =some ([],.normal,foE x l):=by kernel_rfl
theorem Xj1:FnOk PRG (MF 33) 64 (body Tryz.f64) [.cell 2 67]:=by refine⟨Tryz.f64,?_,?_,?_,?_,?_⟩<;>kernel_rfl
theorem Yjo {n:Nat}{dec:List (Nat×Bool)}{orc:List (Nat×D)}{lorc:Lorc}{c:Code}{L L' L2:KV}{ks:List Key}{ps:List Prop}
  (h:Di.runK (MF n) dec orc lorc c L ks=some (ps,.normal,L')) (hp:allP ps) (he:L'=L2):LF n c L .normal L2 :=
 LoopT.of (tt:=Yac Ybl) (WpL.path (GF n) h hp ⟨rfl,he⟩)
structure FSmall (x:FBook):Prop where
 chain:Small x.chain
 feet:x.feet.length<=9223372036854775807
 opn:x.opn.length<=9223372036854775807
theorem Yrm (x:FBook)(hs:FSmall x):LF 78 (k_18 [1,0]) (Ygm x) .normal (Yc3 x (Yrh x)):=by
 have c0:=(Yir hs.chain).up;have c1:=Yd4 x.new 0 200;have c2:=Yd4 x.stock 0 200;have c3:=Yd4 x.make 0 9;unfold Yrh
 cases h1:(Yai x.chain==0) with
 | false =>
  refine Yjo (Zex x) ?_ rfl
  repeat(first|exact trivial|refine⟨by first|exact h1|exact c0,?_⟩)
 | true =>
  by_cases h2:(x.feet.length:Int)=x.chain.secs.length
  ·have h2':((x.feet.length:Int)==(x.chain.secs.length:Int))=true:=beq_iff_eq.2 h2;rw[decide_eq_true h2]
   cases h3:Yad x.new 0 200 with
   | false =>
    refine Yjo (Zev x) ?_ rfl
    repeat(first|exact trivial|refine⟨by first|exact h1|exact h2'|exact h3|exact c0|exact c1,?_⟩)
   | true =>
    by_cases h4:x.opn.length<=4
    ·have h4':decide ((x.opn.length:Int)<=4)=true:=decide_eq_true (by omega);rw[decide_eq_true h4]
     cases h5:Yad x.stock 0 200 with
     | false =>
      refine Yjo (Zet x) ?_ rfl
      repeat(first|exact trivial|refine⟨by first|exact h1|exact h2'|exact h3|exact h4'|exact h5|exact c0|exact c1|exact c2,?_⟩)
     | true =>
      refine Yjo (Zes x) ?_ rfl
      repeat(first|exact trivial|refine⟨by first|exact h1|exact h2'|exact h3|exact h4'|exact h5|exact c0|exact c1|exact c2|exact c3,?_⟩)
    ·have h4':decide ((x.opn.length:Int)<=4)=false:=decide_eq_false (by omega);rw[decide_eq_false h4];refine Yjo (Zeu x) ?_ rfl
     repeat(first|exact trivial|refine⟨by first|exact h1|exact h2'|exact h3|exact h4'|exact c0|exact c1,?_⟩)
  ·have h2':((x.feet.length:Int)==(x.chain.secs.length:Int))=false:=beq_eq_false_iff_ne.2 h2;rw[decide_eq_false h2];refine Yjo (Zew x) ?_ rfl
   repeat(first|exact trivial|refine⟨by first|exact h1|exact h2'|exact c0,?_⟩)
theorem Yov (x:FBook)(hs:FSmall x):LF 78 (k_18 [1,1,0,1]) (Ycl x (Yrh x) 0) .normal (Ycl x (Yn3 x x.feet) x.feet.length):=by
 have hl:=hs.feet;refine LF.each (id:=0) (c:=k_18 [1,1,0,1,0,0]) (by kernel_rfl) x.feet.length (fun i=>Ycl x (Yn3 x (x.feet.take i)) i) (fun i hi=>?_) ⟨_,_,_,_,_,_,_,Yz2 x _ _,⟨Yay,trivial⟩,.inl ⟨rfl,rfl⟩,by rw[List.take_length]⟩;have hf:=Ybm (fun(ok:Bool) n=>ok&&Yad n 1 30) x.feet (Yrh x) i 0 hi;have hi64:Yae ((i:Int)+1):=by simp only[Yae];omega
 have he:Yn3 x (x.feet.take (i+1))=(Yn3 x (x.feet.take i)&&Yad (x.feet.getD i 0) 1 30):=hf
 cases hok:Yn3 x (x.feet.take i) with
 | false =>
  exact⟨_,_,_,_,_,_,Zez x false i,by repeat(first|exact trivial|refine⟨by first|rfl|exact Yat hi|exact hi64|omega,?_⟩),by rw[he,hok];rfl⟩
 | true =>
  have c:=Yd4 (x.feet.getD i 0) 1 30;exact⟨_,_,_,_,_,_,Yz1 x true i (Yad (x.feet.getD i 0) 1 30),by repeat(first|exact trivial|refine⟨by first|rfl|exact c|exact Yat hi|exact hi64|omega,?_⟩),by rw[he,hok];rfl⟩
theorem Zhj {days:Int}(hd:days<=30):∀(l:LI) (p:Bool×Int),(p.1=true->-1<=p.2/\p.2<=30)->(l.foldl (Ydz days) p).1=true->-1<=(l.foldl (Ydz days) p).2/\(l.foldl (Ydz days) p).2<=30
 | [],p,h,h1=>h h1
 | t::l,p,h,h1=>by
  refine Zhj hd l (Ydz days p t) (fun h2=>?_) h1;simp only[Ydz,Bool.and_eq_true,Ya2]at h2
  have:=h h2.1
  simp only[Ydz];omega
theorem check_zero {b:Book}:(Yai b==0)=Yen b:=by
 unfold Yai
 cases Yen b<;>rfl
theorem Yt4 {x:FBook}(h:Yrh x=true):Valid x.chain:=by
 unfold Yrh at h;simp only[Bool.and_eq_true]at h;rw[check_zero]at h;exact Yc0.1 h.1.1.1.1.1
theorem Zuk (x:FBook)(l:LI):Yn3 x l=(Yrh x&&l.all fun n=>Yad n 1 30):=Yhw _ _ _
theorem Xa7 {x:FBook}{l:LI}(h:Yn3 x l=true):Yrh x=true:=by
 rw[Zuk,Bool.and_eq_true]at h;exact h.1
theorem You (x:FBook)(hs:FSmall x):LF 78 (k_18 [1,1,1,1,0,1]) (Yck x (Yn3 x x.feet) (-1) 0) .normal (Yck x (Yks x x.opn).1 (Yks x x.opn).2 x.opn.length):=by
 have hl:=hs.opn;refine LF.each (id:=2) (c:=k_18 [1,1,1,1,0,1,0,0]) (by kernel_rfl) x.opn.length (fun i=>Yck x (Yks x (x.opn.take i)).1 (Yks x (x.opn.take i)).2 i) (fun i hi=>?_) ⟨_,_,_,_,_,_,_,Yz0 x _ _ _,⟨Yay,trivial⟩,.inl ⟨rfl,rfl⟩,by rw[List.take_length]⟩;have hf:Yks x (x.opn.take (i+1))=Ydz x.chain.days (Yks x (x.opn.take i)) (x.opn.getD i 0):=Ybm (Ydz x.chain.days) x.opn (Yn3 x x.feet,-1) i 0 hi
 have hi64:Yae ((i:Int)+1):=by simp only[Yae];omega
 cases hok:(Yks x (x.opn.take i)).1 with
 | false =>
  refine⟨_,_,_,_,_,_,Zey x false _ i,by repeat(first|exact trivial|refine⟨by first|rfl|exact Yat hi|exact hi64|omega,?_⟩),?_⟩;rw[hf];simp only[Ydz,hok,Bool.false_and]
 | true =>
  have c:=Yd4 (x.opn.getD i 0) ((Yks x (x.opn.take i)).2+1) x.chain.days
  have h1:Yn3 x x.feet=true:=by
   cases h:Yn3 x x.feet with
   | true=>rfl
   | false =>
    unfold Yks at hok;rw[h,Yf5]at hok;simp at hok
  have hd:=(Yt4 (Xa7 h1)).days;have hin:=Zhj (days:=x.chain.days) (by omega) (x.opn.take i) (Yn3 x x.feet,-1) (fun _=>⟨(by decide:(-1:Int)<=-1),(by decide:(-1:Int)<=30)⟩) hok;have hin':-1<=(Yks x (x.opn.take i)).2/\(Yks x (x.opn.take i)).2<=30:=hin;have hl64:Yae ((Yks x (x.opn.take i)).2+1):=Yap (by omega) (by omega);refine⟨_,_,_,_,_,_,Yzz x true _ i (Yad (x.opn.getD i 0) ((Yks x (x.opn.take i)).2+1) x.chain.days),by repeat(first|exact trivial|refine⟨by first|rfl|exact c|exact Yat hi|exact hi64|exact hl64|omega,?_⟩),?_⟩
  rw[hf];simp only[Ydz,hok,Bool.true_and]
theorem Yt7 {x:FBook}(hs:FSmall x):CF 18 [Yab x] (.I (Ylm x)):=by
 unfold Ylm Yey
 cases h:(Yks x x.opn).1 with
 | false=>exact Yaa (GF 78) Yzy (Zm0 x _ _ _ _) ⟨Yrm x hs,Yov x hs,You x hs,by rw[h];rfl,trivial⟩
 | true=>exact Yaa (GF 78) Yzy (Zer x _ _ _ _) ⟨Yrm x hs,Yov x hs,You x hs,by rw[h];rfl,trivial⟩
structure FValid (x:FBook):Prop where
 chain:Valid x.chain
 feet:x.feet.length=x.chain.secs.length
 new:0<=x.new/\x.new<=200
 opnl:x.opn.length<=4
 stock:0<=x.stock/\x.stock<=200
 make:0<=x.make/\x.make<=9
 each:∀ n∈x.feet,1<=n/\n<=30
 rises:(x.opn.foldl (Ydz x.chain.days) (true,-1)).1=true
theorem Yf1 {x:FBook}:Yey x=true↔FValid x:=by
 unfold Yey Yks;rw[Yf5,Bool.and_eq_true,Zuk,Bool.and_eq_true]
 constructor
 ·rintro⟨⟨h1,h2⟩,h3⟩
  have hc:=Yt4 h1;unfold Yrh at h1;simp only[Bool.and_eq_true,decide_eq_true_eq,Ya2]at h1;exact⟨hc,by omega,h1.1.1.1.2,h1.1.1.2,h1.1.2,h1.2,fun n hn=>Ya2.1 (List.all_eq_true.1 h2 n hn),h3⟩
 ·intro h;refine⟨⟨?_,List.all_eq_true.2 fun n hn=>Ya2.2 (h.each n hn)⟩,h.rises⟩;unfold Yrh;simp only[Bool.and_eq_true,decide_eq_true_eq,Ya2];refine⟨⟨⟨⟨⟨by rw[check_zero];exact Yc0.2 h.chain,by have:=h.feet;omega⟩,h.new⟩,h.opnl⟩,h.stock⟩,h.make⟩
theorem Yxt {days:Int}:∀(l:LI) (n:Int),(l.foldl (Ydz days) (true,n)).1=true->(∀ d∈l,n<d/\d<=days)/\l.Pairwise (·<·)
 | [],n,_=>⟨fun d hd=>(by cases hd),List.Pairwise.nil⟩
 | t::l,n,h=>by
  simp only[List.foldl_cons,Ydz,Bool.true_and]at h;rw[Yf5,Bool.and_eq_true,Ya2]at h;obtain⟨h1,h2⟩:=Yxt l t h.2;refine⟨fun d hd=>?_,List.pairwise_cons.2 ⟨fun d hd=>(h1 d hd).1,h2⟩⟩;rcases List.mem_cons.1 hd with rfl|hd
  ·omega
  ·have:=h1 d hd
   omega
theorem FValid.opn {x:FBook}(h:FValid x):(∀ d∈x.opn,0<=d/\d<=x.chain.days)/\x.opn.Pairwise (·<·):=by
 obtain⟨h1,h2⟩:=Yxt x.opn (-1) h.rises;exact⟨fun d hd=>by have:=h1 d hd;omega,h2⟩
theorem FValid.inn {x:FBook}(h:FValid x):FIn x:=by
 have hc:=h.chain;have hsec:=hc.secs;have hd:=hc.days;have hf:=h.feet;exact⟨by omega,by omega,by have:=hc.turns;omega,fun n hn=>by have:=h.each n hn;omega,by have:=h.new;omega,by have:=h.opnl;omega,fun d hd=>by have:=h.opn.1 d hd;omega,by have:=h.stock;omega,by have:=h.make;omega⟩
theorem Xe2 {R:Foot}{w:World}{x:FBook}{m:List (K2×Bool)}{v:Value}(h:Rel R w (fopD x m) v):Rel R w (fbkD x (.work m) [] []) v:=by
 obtain⟨vs,hv,h⟩:=h;have hlen:(fbkC x (.map (.work m)) (.z (.list .int) []) (.z .int [])).length=vs.toList.length:=by have:=All2.length h;exact this
 refine⟨vs,hv,All2.of_get hlen fun i d u hd hu=>?_⟩;have hi:i<13:=(List.getElem?_eq_some_iff.1 hd).1
 by_cases h1:i<11
 ·have hd':(fbkC x (.map (.work m)) .nil .nil)[i]?=some d:=by
   match i,h1,hd with
   | 0,_,hd=>exact hd
   | 1,_,hd=>exact hd
   | 2,_,hd=>exact hd
   | 3,_,hd=>exact hd
   | 4,_,hd=>exact hd
   | 5,_,hd=>exact hd
   | 6,_,hd=>exact hd
   | 7,_,hd=>exact hd
   | 8,_,hd=>exact hd
   | 9,_,hd=>exact hd
   | 10,_,hd=>exact hd
   | n+11,h1,_=>omega
  obtain⟨u',hu',hr⟩:=All2.get h i d hd';rw[hu]at hu'
  cases hu'
  exact hr
 ·have h2:i=11\/i=12:=by omega
  rcases h2 with rfl|rfl
  ·cases hd
   obtain⟨u',hu',hr⟩:=All2.get h 11 .nil rfl;rw[hu]at hu'
   cases hu'
   have hr:u=.slice none 0 0:=hr;rw[hr];exact Yoi _ _ _ _ _
  ·cases hd
   obtain⟨u',hu',hr⟩:=All2.get h 12 .nil rfl;rw[hu]at hu'
   cases hu'
   have hr:u=.slice none 0 0:=hr;rw[hr];exact Yoi _ _ _ _ _
theorem Contract.ofOp {f:FuncId}{x:FBook}{m:List (K2×Bool)}{args:List D}{r:D}(h:CF f (fbkD x (.work m) [] []::args) r):CF f (fopD x m::args) r :=
 h.toArgs fun R w vs hr=>by
  obtain⟨v,l,rfl,h1,h2⟩:=Yaq hr;exact⟨Xe2 h1,h2⟩
theorem Zdl:Cfg.plain (MF 33):=⟨fun _ h=>h,fun _ h=>h,rfl⟩
theorem Ylg {x:FBook}(hf:x.feet.length<=1000)(ho:x.opn.length<=1000):CF 64 [Yab x] (fopD x (Ybj x)):=by
 refine Yk3 (C:=MF 33) Yav rfl (fun _ h=>h) (fun _ h=>h) rfl rfl Xj1 ?_;have hcode:body Tryz.f64=.seq (k_64 [0]) (.seq (k_64 [1,0]) (.seq (.seq (k_64 [1,1,0,0]) (k_64 [1,1,0,1])) (.seq (k_64 [1,1,1,0]) .ret))):=by kernel_rfl
 rw[hcode]
 have hloop:LF 33 (k_64 [1,1,0,1]) (foS x (Yi1 x 0) 0) .normal (foS x (Ybj x) x.opn.length):=by
  refine LF.each (id:=0) (c:=k_64 [1,1,0,1,0,0]) (by kernel_rfl) x.opn.length (fun i=>foS x (Yi1 x i) i) (fun i hi=>?_) ⟨_,_,_,_,_,_,_,Xip x _ _,⟨Yay,trivial⟩,.inl ⟨rfl,rfl⟩,rfl⟩;refine⟨_,_,_,_,_,_,Xjz x (Yi1 x i) i (Yi1 x (i+1)),⟨Yat hi,⟨by omega,by omega⟩,by omega,?_,Yap (by omega) (by omega),trivial⟩,rfl⟩;refine LF.each (id:=2) (c:=k_64 [1,1,0,1,0,0,1,1,0,0,1,1,0,0]) (by kernel_rfl) x.feet.length (fun j=>foT x (Yw2 (Yi1 x i) (x.opn.getD i 0) j) i (x.opn.getD i 0) j) (fun j hj=>?_) ⟨_,_,_,_,_,_,_,Xio x _ i _ _,⟨Yay,trivial⟩,.inl ⟨rfl,rfl⟩,rfl⟩
  exact⟨_,_,_,_,_,_,Xj0 x _ i _ j,⟨Yat hj,Zdl,Yap (by omega) (by omega),trivial⟩,rfl⟩
 refine WpL.seq (WpL.path (GF 33) (fo_0 x) trivial ?_);refine WpL.seq (WpL.path (GF 33) (fo_1 x) ⟨Zdl,by omega,Zdl,trivial⟩ ?_);refine WpL.seq (WpL.seq (WpL.path (GF 33) (fo_2 x) trivial ?_));have hl2:WpL PRG (MF 33) (k_64 [1,1,0,1]) (foS x (Yi1 x 0) 0) (fun e L'=>e=.normal/\L'=foS x (Ybj x) x.opn.length):=WpL.same (C:=mk0 Yca 33) (C':=MF 33) rfl rfl rfl rfl rfl rfl rfl rfl (fun _ _=>trivial) (fun _=>rfl) hloop.wp
 refine hl2.mono fun e L' he=>?_;obtain⟨rfl,rfl⟩:=he;show WpL _ _ _ _ _;refine WpL.seq (WpL.tell (fun _ h=>h) (j:=8) (m:=.work (Ybj x)) rfl (WpL.path (GF 33) (fo_3 x (Ybj x) x.opn.length) trivial ?_));show WpL _ _ _ _ _;exact WpL.path (GF 33) (dec:=[]) (orc:=[]) (lorc:=[]) (ks:=[.tmp 2,.box 2]) (ps:=[]) (e:=.ret) (L':=foE x (Ybj x)) (by kernel_rfl) trivial ⟨fun id h=>(by cases h),[],by kernel_rfl,fun p hp=>by cases hp⟩
end Go.Di
