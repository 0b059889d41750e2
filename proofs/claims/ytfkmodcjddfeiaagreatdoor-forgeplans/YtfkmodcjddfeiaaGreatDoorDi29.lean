/- Part 29: contracts are proved. No condition. -/
import Derived.Test.YtfkmodcjddfeiaaGreatDoorDi28
set_option linter.unusedVariables false
set_option linter.unusedSimpArgs false
namespace Go.Di
open Proofs
noncomputable abbrev Ydj (p:List Nat):Code:=Code.at p (body Proofs.Tryz.f127)
noncomputable abbrev Yfs (p:List Nat):Code:=Code.at p (body Proofs.Tryz.f107)
noncomputable abbrev Yht (p:List Nat):Code:=Code.at p (body Proofs.Tryz.f128)
noncomputable abbrev Yvu (p:List Nat):Code:=Code.at p (body Proofs.Tryz.f106)
noncomputable abbrev k_79 (p:List Nat):Code:=Code.at p (body Proofs.Tryz.f79)
theorem Xg6:FnOk PRG (MH 10) 141 (body Tryz.f141) [.tmp 4]:=by refine⟨Tryz.f141,?_,?_,?_,?_,?_⟩<;>kernel_rfl
theorem Zqq:FnOk PRG (MH 72) 127 (body Tryz.f127) [.tmp 6]:=by refine⟨Tryz.f127,?_,?_,?_,?_,?_⟩<;>kernel_rfl
theorem Zqf:FnOk PRG (MH 60) 107 (body Tryz.f107) [.tmp 6]:=by refine⟨Tryz.f107,?_,?_,?_,?_,?_⟩<;>kernel_rfl
theorem Zq0:FnOk PRG (MH 38) 128 (body Tryz.f128) [.tmp 4]:=by refine⟨Tryz.f128,?_,?_,?_,?_,?_⟩<;>kernel_rfl
theorem Xcg:FnOk PRG (MH 38) 106 (body Tryz.f106) [.tmp 4]:=by refine⟨Tryz.f106,?_,?_,?_,?_,?_⟩<;>kernel_rfl
theorem Xdc:FnOk PRG (MH 33) 79 (body Tryz.f79) [.cell 4 28]:=by refine⟨Tryz.f79,?_,?_,?_,?_,?_⟩<;>kernel_rfl
def Yf9 (x:FBook)(th:LL)(wr:LI)(s:Nat)(i d k:Nat)(la:Int)(y:Int)(r:LI):KV :=
 [(.tmp 2,.d (D.I (s:Int))),
  (.tmp 3,.d (D.ptr 3 0)),
  (.tmp 4,.d (D.ptr 4 0)),
  (.tmp 7,.d (.own 70 (y::r).length)),
  (.tmp 8,.d (.I i)),
  (.tmp 10,.d (.I d)),
  (.tmp 11,.d (.I la)),
  (.tmp 12,.d (.I k)),
  (.box 3,.bz (cellsOf (Yab x))),
  (.box 4,.bz [D.z (E.list E.int) th,D.z E.int wr]),
  (.obj 70,.ob (some ⟨.int,y::r⟩))]
def Yqk:List Key:=[.tmp 2,.tmp 3,.tmp 4,.tmp 7,.tmp 8,.tmp 10,.tmp 11,.tmp 12,.box 3,.box 4,.obj 70]
def Yga (x:FBook)(th:LL)(wr:LI)(s:Nat)(i d:Nat)(ok:Bool)(y:Int)(r:LI):KV :=
 [(.tmp 2,.d (D.I (s:Int))),
  (.tmp 3,.d (D.ptr 3 0)),
  (.tmp 4,.d (D.ptr 4 0)),
  (.tmp 7,.d (.own 70 (y::r).length)),
  (.tmp 8,.d (.I i)),
  (.tmp 9,.d (.bool ok)),
  (.tmp 10,.d (.I d)),
  (.box 3,.bz (cellsOf (Yab x))),
  (.box 4,.bz [D.z (E.list E.int) th,D.z E.int wr]),
  (.obj 70,.ob (some ⟨.int,y::r⟩))]
def Yql:List Key:=[.tmp 2,.tmp 3,.tmp 4,.tmp 7,.tmp 8,.tmp 9,.tmp 10,.box 3,.box 4,.obj 70]
def Yg5 (x:FBook)(th:LL)(wr:LI)(s:Nat)(i:Nat)(y:Int)(r:LI):KV :=
 [(.tmp 2,.d (D.I (s:Int))),
  (.tmp 3,.d (D.ptr 3 0)),
  (.tmp 4,.d (D.ptr 4 0)),
  (.tmp 7,.d (.own 70 (y::r).length)),
  (.tmp 8,.d (.I i)),
  (.box 3,.bz (cellsOf (Yab x))),
  (.box 4,.bz [D.z (E.list E.int) th,D.z E.int wr]),
  (.obj 70,.ob (some ⟨.int,y::r⟩))]
def Yuv:List Key:=[.tmp 2,.tmp 3,.tmp 4,.tmp 7,.tmp 8,.box 3,.box 4,.obj 70]
def Yfh (x:FBook)(th:LL)(wr:LI)(s:Nat)(i d k:Nat)(la:Int):KV :=
 [(.tmp 2,.d (D.I (s:Int))),
  (.tmp 3,.d (D.ptr 3 0)),
  (.tmp 4,.d (D.ptr 4 0)),
  (.tmp 7,.d (.sl true .int [])),
  (.tmp 8,.d (.I i)),
  (.tmp 10,.d (.I d)),
  (.tmp 11,.d (.I la)),
  (.tmp 12,.d (.I k)),
  (.box 3,.bz (cellsOf (Yab x))),
  (.box 4,.bz [D.z (E.list E.int) th,D.z E.int wr]),
  (.obj 70,.ob none)]
def Yqm:List Key:=[.tmp 2,.tmp 3,.tmp 4,.tmp 7,.tmp 8,.tmp 10,.tmp 11,.tmp 12,.box 3,.box 4,.obj 70]
def Ygb (x:FBook)(th:LL)(wr:LI)(s:Nat)(i d:Nat)(ok:Bool):KV :=
 [(.tmp 2,.d (D.I (s:Int))),
  (.tmp 3,.d (D.ptr 3 0)),
  (.tmp 4,.d (D.ptr 4 0)),
  (.tmp 7,.d (.sl true .int [])),
  (.tmp 8,.d (.I i)),
  (.tmp 9,.d (.bool ok)),
  (.tmp 10,.d (.I d)),
  (.box 3,.bz (cellsOf (Yab x))),
  (.box 4,.bz [D.z (E.list E.int) th,D.z E.int wr]),
  (.obj 70,.ob none)]
def Yqn:List Key:=[.tmp 2,.tmp 3,.tmp 4,.tmp 7,.tmp 8,.tmp 9,.tmp 10,.box 3,.box 4,.obj 70]
def Yg6 (x:FBook)(th:LL)(wr:LI)(s:Nat)(i:Nat):KV :=
 [(.tmp 2,.d (D.I (s:Int))),
  (.tmp 3,.d (D.ptr 3 0)),
  (.tmp 4,.d (D.ptr 4 0)),
  (.tmp 7,.d (.sl true .int [])),
  (.tmp 8,.d (.I i)),
  (.box 3,.bz (cellsOf (Yab x))),
  (.box 4,.bz [D.z (E.list E.int) th,D.z E.int wr]),
  (.obj 70,.ob none)]
def Yuw:List Key:=[.tmp 2,.tmp 3,.tmp 4,.tmp 7,.tmp 8,.box 3,.box 4,.obj 70]
def Yet (x:FBook)(th:LL)(wr:LI)(s:Nat)(l:LI)(i j:Nat)(ok:Bool)(y:Int)(r:LI):KV :=
 [(.tmp 7,.d (D.z E.int l)),
  (.tmp 8,.d (.own 58 (y::r).length)),
  (.tmp 9,.d (.I i)),
  (.tmp 10,.d (.bool ok)),
  (.tmp 11,.d (.I j)),
  (.obj 58,.ob (some ⟨.int,y::r⟩))]
def Yng:List Key:=[.tmp 7,.tmp 8,.tmp 9,.tmp 10,.tmp 11,.obj 58]
def Yg3 (x:FBook)(th:LL)(wr:LI)(s:Nat)(l:LI)(i:Nat)(y:Int)(r:LI):KV :=
 [(.tmp 7,.d (D.z E.int l)),
  (.tmp 8,.d (.own 58 (y::r).length)),
  (.tmp 9,.d (.I i)),
  (.obj 58,.ob (some ⟨.int,y::r⟩))]
def Yut:List Key:=[.tmp 7,.tmp 8,.tmp 9,.obj 58]
def Yd1 (x:FBook)(th:LL)(wr:LI)(s:Nat)(l:LI)(i j:Nat)(ok:Bool):KV :=
 [(.tmp 7,.d (D.z E.int l)),
  (.tmp 8,.d (.sl true .int [])),
  (.tmp 9,.d (.I i)),
  (.tmp 10,.d (.bool ok)),
  (.tmp 11,.d (.I j)),
  (.obj 58,.ob none)]
def Ynh:List Key:=[.tmp 7,.tmp 8,.tmp 9,.tmp 10,.tmp 11,.obj 58]
def Yg4 (x:FBook)(th:LL)(wr:LI)(s:Nat)(l:LI)(i:Nat):KV :=
 [(.tmp 7,.d (D.z E.int l)),
  (.tmp 8,.d (.sl true .int [])),
  (.tmp 9,.d (.I i)),
  (.obj 58,.ob none)]
def Yuu:List Key:=[.tmp 7,.tmp 8,.tmp 9,.obj 58]
def Yfi (x:FBook)(l:LI)(i s:Nat)(y:Work)(r:List Work):KV :=
 [(.tmp 1,.d (D.z E.int l)),
  (.tmp 2,.d (D.ptr 2 0)),
  (.tmp 5,.d (.own 36 (y::r).length)),
  (.tmp 6,.d (.I i)),
  (.tmp 7,.d (.I s)),
  (.box 2,.bz (cellsOf (Yab x))),
  (.obj 36,.ob (some ⟨.work,y::r⟩))]
def Yqo:List Key:=[.tmp 1,.tmp 2,.tmp 5,.tmp 6,.tmp 7,.box 2,.obj 36]
def Yi6 (x:FBook)(l:LI)(i:Nat)(y:Work)(r:List Work):KV :=
 [(.tmp 1,.d (D.z E.int l)),
  (.tmp 2,.d (D.ptr 2 0)),
  (.tmp 5,.d (.own 36 (y::r).length)),
  (.tmp 6,.d (.I i)),
  (.box 2,.bz (cellsOf (Yab x))),
  (.obj 36,.ob (some ⟨.work,y::r⟩))]
def Zbs:List Key:=[.tmp 1,.tmp 2,.tmp 5,.tmp 6,.box 2,.obj 36]
def Yg7 (x:FBook)(l:LI)(i s:Nat):KV :=
 [(.tmp 1,.d (D.z E.int l)),
  (.tmp 2,.d (D.ptr 2 0)),
  (.tmp 5,.d (.sl true .work [])),
  (.tmp 6,.d (.I i)),
  (.tmp 7,.d (.I s)),
  (.box 2,.bz (cellsOf (Yab x))),
  (.obj 36,.ob none)]
def Yuy:List Key:=[.tmp 1,.tmp 2,.tmp 5,.tmp 6,.tmp 7,.box 2,.obj 36]
def Yg8 (x:FBook)(l:LI)(i:Nat):KV :=
 [(.tmp 1,.d (D.z E.int l)),
  (.tmp 2,.d (D.ptr 2 0)),
  (.tmp 5,.d (.sl true .work [])),
  (.tmp 6,.d (.I i)),
  (.box 2,.bz (cellsOf (Yab x))),
  (.obj 36,.ob none)]
def Yuz:List Key:=[.tmp 1,.tmp 2,.tmp 5,.tmp 6,.box 2,.obj 36]
def Yf8 (p q:List Work)(i:Nat):KV :=
 [(.tmp 0,.d (D.z E.work p)),
  (.tmp 1,.d (D.z E.work q)),
  (.tmp 5,.d (.I i))]
def Zge:List Key:=[.tmp 0,.tmp 1,.tmp 5]
def Yes (x:FBook)(w:Int)(d:Nat)(y:Int)(r:LI):KV :=
 [(.tmp 1,.d (D.I w)),
  (.tmp 2,.d (D.ptr 2 0)),
  (.tmp 4,.d (D.ptr 4 0)),
  (.tmp 5,.d (D.ptr 5 0)),
  (.tmp 6,.d (.I d)),
  (.box 2,.bz (cellsOf (Yab x))),
  (.box 4,.bz [D.nil,D.nil,D.nil,D.I 0,D.I 0,D.nil,D.I 0,D.nil,D.I 0,D.I 0]),
  (.box 5,.bx (some ⟨false,[.z .sec x.chain.secs,.z .int x.chain.turns,.z .sv x.chain.svs,.I x.chain.rule,.I x.chain.days,.z .int x.feet,.I x.new,.own 30 (y::r).length,.I x.stock,.I x.make]⟩)),
  (.obj 30,.ob (some ⟨.int,y::r⟩))]
def Ynf:List Key:=[.tmp 1,.tmp 2,.tmp 4,.tmp 5,.tmp 6,.box 2,.box 4,.box 5,.obj 30]
def Ylb (x:FBook)(w:Int)(d:Nat):KV :=
 [(.tmp 1,.d (D.I w)),
  (.tmp 2,.d (D.ptr 2 0)),
  (.tmp 4,.d (D.ptr 4 0)),
  (.tmp 5,.d (D.ptr 5 0)),
  (.tmp 6,.d (.I d)),
  (.box 2,.bz (cellsOf (Yab x))),
  (.box 4,.bz [D.nil,D.nil,D.nil,D.I 0,D.I 0,D.nil,D.I 0,D.nil,D.I 0,D.I 0]),
  (.box 5,.bx (some ⟨false,[.z .sec x.chain.secs,.z .int x.chain.turns,.z .sv x.chain.svs,.I x.chain.rule,.I x.chain.days,.z .int x.feet,.I x.new,.sl true .int [],.I x.stock,.I x.make]⟩)),
  (.obj 30,.ob none)]
def Zbk:List Key:=[.tmp 1,.tmp 2,.tmp 4,.tmp 5,.tmp 6,.box 2,.box 4,.box 5,.obj 30]
def Yqj (p q:List Work)(i:Nat)(b:Bool):KV :=
 [(.tmp 0,.d (D.z E.work p)),(.tmp 1,.d (D.z E.work q)),(.tmp 5,.d (D.I (i:Int))),(.tmp 4,.d (D.bool b))]
theorem Zi6 (x:FBook)(th:LL)(wr:LI)(s:Nat)(i d k:Nat)(la:Int)(y:Int)(r:LI) :runK (MH 72) [(36,true),(50,true)] [(41,.bool true)] [] (Ydj [1,1,0,1,0,0,1,0,0,1,0,1,0,0,1,0,0,1,0,1,0,0]) (Yf9 x th wr s i d k la y r) Yqk =some ([decide ((k:Int)<(x.opn.length:Int))=true,CF 141 [D.I (i:Int),D.I (k:Int)] (D.bool true),(0:Int)<=(k:Int)/\(k:Int)<(x.opn.length:Int),0+1<=1,decide (List.getD x.opn (k) (0:Int)<=(d:Int))=true,(0:Int)<=(k:Int)/\(k:Int)<(x.opn.length:Int),0+1<=1,Yae ((k:Int)+(1:Int))],Ex.normal,Yf9 x th wr s i d (k+1) (x.opn.getD k 0) y r):=by kernel_rfl
theorem Zi7 (x:FBook)(th:LL)(wr:LI)(s:Nat)(i d k:Nat)(la:Int)(y:Int)(r:LI) :runK (MH 72) [(36,true),(50,false)] [(41,.bool true)] [] (Ydj [1,1,0,1,0,0,1,0,0,1,0,1,0,0,1,0,0,1,0,1,0,0]) (Yf9 x th wr s i d k la y r) Yqk =some ([decide ((k:Int)<(x.opn.length:Int))=true,CF 141 [D.I (i:Int),D.I (k:Int)] (D.bool true),(0:Int)<=(k:Int)/\(k:Int)<(x.opn.length:Int),0+1<=1,decide (List.getD x.opn (k) (0:Int)<=(d:Int))=false,Yae ((k:Int)+(1:Int))],Ex.normal,Yf9 x th wr s i d (k+1) la y r):=by kernel_rfl
theorem Zi8 (x:FBook)(th:LL)(wr:LI)(s:Nat)(i d k:Nat)(la:Int)(y:Int)(r:LI) :runK (MH 72) [(36,true)] [(41,.bool false)] [] (Ydj [1,1,0,1,0,0,1,0,0,1,0,1,0,0,1,0,0,1,0,1,0,0]) (Yf9 x th wr s i d k la y r) Yqk =some ([decide ((k:Int)<(x.opn.length:Int))=true,CF 141 [D.I (i:Int),D.I (k:Int)] (D.bool false),Yae ((k:Int)+(1:Int))],Ex.normal,Yf9 x th wr s i d (k+1) la y r):=by kernel_rfl
theorem Zi9 (x:FBook)(th:LL)(wr:LI)(s:Nat)(i d k:Nat)(la:Int)(y:Int)(r:LI) :runK (MH 72) [(36,false)] [] [] (Ydj [1,1,0,1,0,0,1,0,0,1,0,1,0,0,1,0,0,1,0,1,0,0]) (Yf9 x th wr s i d k la y r) Yqk =some ([decide ((k:Int)<(x.opn.length:Int))=false],Ex.exit 4,Yf9 x th wr s i d k la y r):=by kernel_rfl
theorem Zqm (x:FBook)(th:LL)(wr:LI)(s:Nat)(i d:Nat)(ok:Bool)(y:Int)(r:LI)(k:Nat)(la v:Int) :runK (MH 72) [(23,true),(29,true)] [(61,.I v)] [(4,(Yqk,(.normal,Yf9 x th wr s i d k la y r)))] (Ydj [1,1,0,1,0,0,1,0,0,1,0,1,0,0]) (Yga x th wr s i d ok y r) Yql =some ([ok=true,ok=true,ok=true,ok=true,ok=true,ok=true,decide ((d:Int)<=x.chain.days)=true,LF 72 (Ydj [1,1,0,1,0,0,1,0,0,1,0,1,0,0,1,0,0,1,0,1]) [(.tmp 2,.d (D.I (s:Int))),(.tmp 3,.d (D.ptr 3 0)),(.tmp 4,.d (D.ptr 4 0)),(.tmp 7,.d (D.own 70 ((y::r).length))),(.tmp 8,.d (D.I (i:Int))),(.tmp 10,.d (D.I (d:Int))),(.tmp 11,.d (D.I (-(1:Int)))),(.tmp 12,.d (D.I 0)),(.box 3,.bz (cellsOf (Yab x))),(.box 4,.bz [D.z (E.list E.int) th,D.z E.int wr]),(.obj 70,.ob (some (Ob.mk E.int (y::r))))] Ex.normal (Yf9 x th wr s i d k la y r),CF 52 [Yab x,D.agg [D.z (E.list E.int) th,D.z E.int wr],D.I (s:Int),D.I la,D.I (d:Int)] (D.I v),Yae ((d:Int)+(1:Int))],Ex.normal,Yga x th wr s i (d+1) (decide (v>=x.chain.rule)) y r):=by kernel_rfl
theorem Zja (x:FBook)(th:LL)(wr:LI)(s:Nat)(i d:Nat)(ok:Bool)(y:Int)(r:LI) :runK (MH 72) [(23,true),(29,false)] [] [] (Ydj [1,1,0,1,0,0,1,0,0,1,0,1,0,0]) (Yga x th wr s i d ok y r) Yql =some ([ok=true,ok=true,ok=true,ok=true,ok=true,ok=true,decide ((d:Int)<=x.chain.days)=false],Ex.exit 2,Yga x th wr s i d ok y r):=by kernel_rfl
theorem Zbp (x:FBook)(th:LL)(wr:LI)(s:Nat)(i d:Nat)(ok:Bool)(y:Int)(r:LI) :runK (MH 72) [(23,false)] [] [] (Ydj [1,1,0,1,0,0,1,0,0,1,0,1,0,0]) (Yga x th wr s i d ok y r) Yql =some ([ok=false,ok=false,ok=false,ok=false,ok=false,ok=false],Ex.exit 2,Yga x th wr s i d ok y r):=by kernel_rfl
theorem Zjb (x:FBook)(th:LL)(wr:LI)(s:Nat)(i:Nat)(y:Int)(r:LI)(d:Nat) :runK (MH 72) [(19,true)] [] [(2,(Yql,(.normal,Yga x th wr s i d true y r)))] (Ydj [1,1,0,1,0,0]) (Yg5 x th wr s i y r) Yuv =let Z0:=Int.toNat ((x.opn.length:Int));some ([(0:Int)<=(x.opn.length:Int)/\Yae ((1:Int)*(2:Int) ^ Min.min Z0 64),decide ((i:Int)<(1:Int)*(2:Int) ^ Min.min Z0 64)=true,LF 72 (Ydj [1,1,0,1,0,0,1,0,0,1,0,1]) [(.tmp 2,.d (D.I (s:Int))),(.tmp 3,.d (D.ptr 3 0)),(.tmp 4,.d (D.ptr 4 0)),(.tmp 7,.d (D.own 70 ((y::r).length))),(.tmp 8,.d (D.I (i:Int))),(.tmp 9,.d (D.bool true)),(.tmp 10,.d (D.I 0)),(.box 3,.bz (cellsOf (Yab x))),(.box 4,.bz [D.z (E.list E.int) th,D.z E.int wr]),(.obj 70,.ob (some (Ob.mk E.int (y::r))))] Ex.normal (Yga x th wr s i d true y r),(y::r).length=List.length ((y::r)),List.length ((y::r)++[(i:Int)])*(8+1)<=140737488355328,Yae ((i:Int)+(1:Int))],Ex.normal,Yg5 x th wr s (i+1) y (r++[(i:Int)])):=by kernel_rfl
theorem Zqn (x:FBook)(th:LL)(wr:LI)(s:Nat)(i:Nat)(y:Int)(r:LI)(d:Nat) :runK (MH 72) [(19,true)] [] [(2,(Yql,(.normal,Yga x th wr s i d false y r)))] (Ydj [1,1,0,1,0,0]) (Yg5 x th wr s i y r) Yuv =let Z0:=Int.toNat ((x.opn.length:Int));some ([(0:Int)<=(x.opn.length:Int)/\Yae ((1:Int)*(2:Int) ^ Min.min Z0 64),decide ((i:Int)<(1:Int)*(2:Int) ^ Min.min Z0 64)=true,LF 72 (Ydj [1,1,0,1,0,0,1,0,0,1,0,1]) [(.tmp 2,.d (D.I (s:Int))),(.tmp 3,.d (D.ptr 3 0)),(.tmp 4,.d (D.ptr 4 0)),(.tmp 7,.d (D.own 70 ((y::r).length))),(.tmp 8,.d (D.I (i:Int))),(.tmp 9,.d (D.bool true)),(.tmp 10,.d (D.I 0)),(.box 3,.bz (cellsOf (Yab x))),(.box 4,.bz [D.z (E.list E.int) th,D.z E.int wr]),(.obj 70,.ob (some (Ob.mk E.int (y::r))))] Ex.normal (Yga x th wr s i d false y r),Yae ((i:Int)+(1:Int))],Ex.normal,Yg5 x th wr s (i+1) y r):=by kernel_rfl
theorem Zjc (x:FBook)(th:LL)(wr:LI)(s:Nat)(i:Nat)(y:Int)(r:LI) :runK (MH 72) [(19,false)] [] [] (Ydj [1,1,0,1,0,0]) (Yg5 x th wr s i y r) Yuv =let Z0:=Int.toNat ((x.opn.length:Int));some ([(0:Int)<=(x.opn.length:Int)/\Yae ((1:Int)*(2:Int) ^ Min.min Z0 64),decide ((i:Int)<(1:Int)*(2:Int) ^ Min.min Z0 64)=false],Ex.exit 0,Yg5 x th wr s i y r):=by kernel_rfl
theorem Zjd (x:FBook)(th:LL)(wr:LI)(s:Nat)(i d k:Nat)(la:Int) :runK (MH 72) [(36,true),(50,true)] [(41,.bool true)] [] (Ydj [1,1,0,1,0,0,1,0,0,1,0,1,0,0,1,0,0,1,0,1,0,0]) (Yfh x th wr s i d k la) Yqm =some ([decide ((k:Int)<(x.opn.length:Int))=true,CF 141 [D.I (i:Int),D.I (k:Int)] (D.bool true),(0:Int)<=(k:Int)/\(k:Int)<(x.opn.length:Int),0+1<=1,decide (List.getD x.opn (k) (0:Int)<=(d:Int))=true,(0:Int)<=(k:Int)/\(k:Int)<(x.opn.length:Int),0+1<=1,Yae ((k:Int)+(1:Int))],Ex.normal,Yfh x th wr s i d (k+1) (x.opn.getD k 0)):=by kernel_rfl
theorem Zje (x:FBook)(th:LL)(wr:LI)(s:Nat)(i d k:Nat)(la:Int) :runK (MH 72) [(36,true),(50,false)] [(41,.bool true)] [] (Ydj [1,1,0,1,0,0,1,0,0,1,0,1,0,0,1,0,0,1,0,1,0,0]) (Yfh x th wr s i d k la) Yqm =some ([decide ((k:Int)<(x.opn.length:Int))=true,CF 141 [D.I (i:Int),D.I (k:Int)] (D.bool true),(0:Int)<=(k:Int)/\(k:Int)<(x.opn.length:Int),0+1<=1,decide (List.getD x.opn (k) (0:Int)<=(d:Int))=false,Yae ((k:Int)+(1:Int))],Ex.normal,Yfh x th wr s i d (k+1) la):=by kernel_rfl
theorem Zjf (x:FBook)(th:LL)(wr:LI)(s:Nat)(i d k:Nat)(la:Int) :runK (MH 72) [(36,true)] [(41,.bool false)] [] (Ydj [1,1,0,1,0,0,1,0,0,1,0,1,0,0,1,0,0,1,0,1,0,0]) (Yfh x th wr s i d k la) Yqm =some ([decide ((k:Int)<(x.opn.length:Int))=true,CF 141 [D.I (i:Int),D.I (k:Int)] (D.bool false),Yae ((k:Int)+(1:Int))],Ex.normal,Yfh x th wr s i d (k+1) la):=by kernel_rfl
theorem Zjg (x:FBook)(th:LL)(wr:LI)(s:Nat)(i d k:Nat)(la:Int) :runK (MH 72) [(36,false)] [] [] (Ydj [1,1,0,1,0,0,1,0,0,1,0,1,0,0,1,0,0,1,0,1,0,0]) (Yfh x th wr s i d k la) Yqm =some ([decide ((k:Int)<(x.opn.length:Int))=false],Ex.exit 4,Yfh x th wr s i d k la):=by kernel_rfl
theorem Zqr (x:FBook)(th:LL)(wr:LI)(s:Nat)(i d:Nat)(ok:Bool)(k:Nat)(la v:Int) :runK (MH 72) [(23,true),(29,true)] [(61,.I v)] [(4,(Yqm,(.normal,Yfh x th wr s i d k la)))] (Ydj [1,1,0,1,0,0,1,0,0,1,0,1,0,0]) (Ygb x th wr s i d ok) Yqn =some ([ok=true,ok=true,ok=true,ok=true,ok=true,ok=true,decide ((d:Int)<=x.chain.days)=true,LF 72 (Ydj [1,1,0,1,0,0,1,0,0,1,0,1,0,0,1,0,0,1,0,1]) (Yfh x th wr s i d 0 (- 1)) Ex.normal (Yfh x th wr s i d k la),CF 52 [Yab x,D.agg [D.z (E.list E.int) th,D.z E.int wr],D.I (s:Int),D.I la,D.I (d:Int)] (D.I v),Yae ((d:Int)+(1:Int))],Ex.normal,Ygb x th wr s i (d+1) (decide (v>=x.chain.rule))):=by kernel_rfl
theorem Zjh (x:FBook)(th:LL)(wr:LI)(s:Nat)(i d:Nat)(ok:Bool) :runK (MH 72) [(23,true),(29,false)] [] [] (Ydj [1,1,0,1,0,0,1,0,0,1,0,1,0,0]) (Ygb x th wr s i d ok) Yqn =some ([ok=true,ok=true,ok=true,ok=true,ok=true,ok=true,decide ((d:Int)<=x.chain.days)=false],Ex.exit 2,Ygb x th wr s i d ok):=by kernel_rfl
theorem Zbq (x:FBook)(th:LL)(wr:LI)(s:Nat)(i d:Nat)(ok:Bool) :runK (MH 72) [(23,false)] [] [] (Ydj [1,1,0,1,0,0,1,0,0,1,0,1,0,0]) (Ygb x th wr s i d ok) Yqn =some ([ok=false,ok=false,ok=false,ok=false,ok=false,ok=false],Ex.exit 2,Ygb x th wr s i d ok):=by kernel_rfl
theorem Zji (x:FBook)(th:LL)(wr:LI)(s:Nat)(i:Nat)(d:Nat) :runK (MH 72) [(19,true)] [] [(2,(Yqn,(.normal,Ygb x th wr s i d true)))] (Ydj [1,1,0,1,0,0]) (Yg6 x th wr s i) Yuv =let Z0:=Int.toNat ((x.opn.length:Int));some ([(0:Int)<=(x.opn.length:Int)/\Yae ((1:Int)*(2:Int) ^ Min.min Z0 64),decide ((i:Int)<(1:Int)*(2:Int) ^ Min.min Z0 64)=true,LF 72 (Ydj [1,1,0,1,0,0,1,0,0,1,0,1]) [(.tmp 2,.d (D.I (s:Int))),(.tmp 3,.d (D.ptr 3 0)),(.tmp 4,.d (D.ptr 4 0)),(.tmp 7,.d (D.sl true E.int [])),(.tmp 8,.d (D.I (i:Int))),(.tmp 9,.d (D.bool true)),(.tmp 10,.d (D.I 0)),(.box 3,.bz (cellsOf (Yab x))),(.box 4,.bz [D.z (E.list E.int) th,D.z E.int wr]),(.obj 70,.ob Option.none)] Ex.normal (Ygb x th wr s i d true),1*(8+1)<=140737488355328,Yae ((i:Int)+(1:Int))],Ex.normal,Yg5 x th wr s (i+1) (i:Int) []):=by kernel_rfl
theorem Zqs (x:FBook)(th:LL)(wr:LI)(s:Nat)(i:Nat)(d:Nat) :runK (MH 72) [(19,true)] [] [(2,(Yqn,(.normal,Ygb x th wr s i d false)))] (Ydj [1,1,0,1,0,0]) (Yg6 x th wr s i) Yuw =let Z0:=Int.toNat ((x.opn.length:Int));some ([(0:Int)<=(x.opn.length:Int)/\Yae ((1:Int)*(2:Int) ^ Min.min Z0 64),decide ((i:Int)<(1:Int)*(2:Int) ^ Min.min Z0 64)=true,LF 72 (Ydj [1,1,0,1,0,0,1,0,0,1,0,1]) [(.tmp 2,.d (D.I (s:Int))),(.tmp 3,.d (D.ptr 3 0)),(.tmp 4,.d (D.ptr 4 0)),(.tmp 7,.d (D.sl true E.int [])),(.tmp 8,.d (D.I (i:Int))),(.tmp 9,.d (D.bool true)),(.tmp 10,.d (D.I 0)),(.box 3,.bz (cellsOf (Yab x))),(.box 4,.bz [D.z (E.list E.int) th,D.z E.int wr]),(.obj 70,.ob Option.none)] Ex.normal (Ygb x th wr s i d false),Yae ((i:Int)+(1:Int))],Ex.normal,Yg6 x th wr s (i+1)):=by kernel_rfl
theorem Zjj (x:FBook)(th:LL)(wr:LI)(s:Nat)(i:Nat) :runK (MH 72) [(19,false)] [] [] (Ydj [1,1,0,1,0,0]) (Yg6 x th wr s i) Yuw =let Z0:=Int.toNat ((x.opn.length:Int));some ([(0:Int)<=(x.opn.length:Int)/\Yae ((1:Int)*(2:Int) ^ Min.min Z0 64),decide ((i:Int)<(1:Int)*(2:Int) ^ Min.min Z0 64)=false],Ex.exit 0,Yg6 x th wr s i):=by kernel_rfl
theorem Zqb (x:FBook)(th:LL)(wr:LI)(s:Nat)(l:LI)(i j:Nat)(ok:Bool)(y:Int)(r:LI) :runK (MH 60) [(26,true),(30,false)] [] [] (Yfs [1,1,0,1,0,0,1,0,0,1,0,1,0,0]) (Yet x th wr s l i j ok y r) Yng =some ([decide ((j:Int)<(l.length:Int))=true,ok=false,ok=false,ok=false,ok=false,ok=false,ok=false,Yae ((j:Int)+(1:Int))],Ex.normal,Yet x th wr s l i (j+1) false y r):=by kernel_rfl
theorem Zbl (x:FBook)(th:LL)(wr:LI)(s:Nat)(l:LI)(i j:Nat)(ok:Bool)(y:Int)(r:LI) :runK (MH 60) [(26,true),(30,true),(34,true)] [] [] (Yfs [1,1,0,1,0,0,1,0,0,1,0,1,0,0]) (Yet x th wr s l i j ok y r) Yng =some ([decide ((j:Int)<(l.length:Int))=true,ok=true,ok=true,ok=true,ok=true,((j:Int)==(i:Int))=true,((j:Int)==(i:Int))=true,((j:Int)==(i:Int))=true,((j:Int)==(i:Int))=true,((j:Int)==(i:Int))=true,((j:Int)==(i:Int))=true,((j:Int)==(i:Int))=true,((j:Int)==(i:Int))=true,((j:Int)==(i:Int))=true,((j:Int)==(i:Int))=true,((j:Int)==(i:Int))=true,((j:Int)==(i:Int))=true,((j:Int)==(i:Int))=true,((j:Int)==(i:Int))=true,ok=true,((j:Int)==(i:Int))=true,ok=true,Yae ((j:Int)+(1:Int))],Ex.normal,Yet x th wr s l i (j+1) true y r):=by kernel_rfl
theorem Zbm (x:FBook)(th:LL)(wr:LI)(s:Nat)(l:LI)(i j:Nat)(ok:Bool)(y:Int)(r:LI) :runK (MH 60) [(26,true),(30,true),(34,false)] [] [] (Yfs [1,1,0,1,0,0,1,0,0,1,0,1,0,0]) (Yet x th wr s l i j ok y r) Yng =some ([decide ((j:Int)<(l.length:Int))=true,ok=true,ok=true,ok=true,ok=true,((j:Int)==(i:Int))=false,((j:Int)==(i:Int))=false,((j:Int)==(i:Int))=false,(0:Int)<=(j:Int)/\(j:Int)<(l.length:Int),((j:Int)==(i:Int))=false,0+1<=1,((j:Int)==(i:Int))=false,((j:Int)==(i:Int))=false,((j:Int)==(i:Int))=false,(0:Int)<=(i:Int)/\(i:Int)<(l.length:Int),((j:Int)==(i:Int))=false,0+1<=1,((j:Int)==(i:Int))=false,((j:Int)==(i:Int))=false,((j:Int)==(i:Int))=false,((j:Int)==(i:Int))=false,(0:Int)<=(j:Int)/\(j:Int)<(l.length:Int),((j:Int)==(i:Int))=false,0+1<=1,((j:Int)==(i:Int))=false,ok=true,((j:Int)==(i:Int))=false,ok=true,Yae ((j:Int)+(1:Int))],Ex.normal,Yet x th wr s l i (j+1) (andF (l.getD j 0) (l.getD i 0) != l.getD j 0) y r):=by kernel_rfl
theorem Zi0 (x:FBook)(th:LL)(wr:LI)(s:Nat)(l:LI)(i j:Nat)(ok:Bool)(y:Int)(r:LI) :runK (MH 60) [(26,false)] [] [] (Yfs [1,1,0,1,0,0,1,0,0,1,0,1,0,0]) (Yet x th wr s l i j ok y r) Yng =some ([decide ((j:Int)<(l.length:Int))=false],Ex.exit 2,Yet x th wr s l i j ok y r):=by kernel_rfl
theorem Zi1 (x:FBook)(th:LL)(wr:LI)(s:Nat)(l:LI)(i:Nat)(y:Int)(r:LI)(j:Nat) :runK (MH 60) [(20,true)] [] [(2,(Yng,(.normal,Yet x th wr s l i j true y r)))] (Yfs [1,1,0,1,0,0]) (Yg3 x th wr s l i y r) Yut =some ([decide ((i:Int)<(l.length:Int))=true,LF 60 (Yfs [1,1,0,1,0,0,1,0,0,1,0,1]) [(.tmp 7,.d (D.z E.int l)),(.tmp 8,.d (D.own 58 ((y::r).length))),(.tmp 9,.d (D.I (i:Int))),(.tmp 10,.d (D.bool true)),(.tmp 11,.d (D.I 0)),(.obj 58,.ob (some (Ob.mk E.int (y::r))))] Ex.normal (Yet x th wr s l i j true y r),(0:Int)<=(i:Int)/\(i:Int)<(l.length:Int),0+1<=1,(y::r).length=List.length ((y::r)),List.length ((y::r)++[List.getD l (i) (0:Int)])*(8+1)<=140737488355328,Yae ((i:Int)+(1:Int))],Ex.normal,Yg3 x th wr s l (i+1) y (r++[l.getD i 0])):=by kernel_rfl
theorem Zqc (x:FBook)(th:LL)(wr:LI)(s:Nat)(l:LI)(i:Nat)(y:Int)(r:LI)(j:Nat) :runK (MH 60) [(20,true)] [] [(2,(Yng,(.normal,Yet x th wr s l i j false y r)))] (Yfs [1,1,0,1,0,0]) (Yg3 x th wr s l i y r) Yut =some ([decide ((i:Int)<(l.length:Int))=true,LF 60 (Yfs [1,1,0,1,0,0,1,0,0,1,0,1]) [(.tmp 7,.d (D.z E.int l)),(.tmp 8,.d (D.own 58 ((y::r).length))),(.tmp 9,.d (D.I (i:Int))),(.tmp 10,.d (D.bool true)),(.tmp 11,.d (D.I 0)),(.obj 58,.ob (some (Ob.mk E.int (y::r))))] Ex.normal (Yet x th wr s l i j false y r),Yae ((i:Int)+(1:Int))],Ex.normal,Yg3 x th wr s l (i+1) y r):=by kernel_rfl
theorem Zi2 (x:FBook)(th:LL)(wr:LI)(s:Nat)(l:LI)(i:Nat)(y:Int)(r:LI) :runK (MH 60) [(20,false)] [] [] (Yfs [1,1,0,1,0,0]) (Yg3 x th wr s l i y r) Yut =some ([decide ((i:Int)<(l.length:Int))=false],Ex.exit 0,Yg3 x th wr s l i y r):=by kernel_rfl
theorem Zqg (x:FBook)(th:LL)(wr:LI)(s:Nat)(l:LI)(i j:Nat)(ok:Bool) :runK (MH 60) [(26,true),(30,false)] [] [] (Yfs [1,1,0,1,0,0,1,0,0,1,0,1,0,0]) (Yd1 x th wr s l i j ok) Ynh =some ([decide ((j:Int)<(l.length:Int))=true,ok=false,ok=false,ok=false,ok=false,ok=false,ok=false,Yae ((j:Int)+(1:Int))],Ex.normal,Yd1 x th wr s l i (j+1) false):=by kernel_rfl
theorem Zbn (x:FBook)(th:LL)(wr:LI)(s:Nat)(l:LI)(i j:Nat)(ok:Bool) :runK (MH 60) [(26,true),(30,true),(34,true)] [] [] (Yfs [1,1,0,1,0,0,1,0,0,1,0,1,0,0]) (Yd1 x th wr s l i j ok) Ynh =some ([decide ((j:Int)<(l.length:Int))=true,ok=true,ok=true,ok=true,ok=true,((j:Int)==(i:Int))=true,((j:Int)==(i:Int))=true,((j:Int)==(i:Int))=true,((j:Int)==(i:Int))=true,((j:Int)==(i:Int))=true,((j:Int)==(i:Int))=true,((j:Int)==(i:Int))=true,((j:Int)==(i:Int))=true,((j:Int)==(i:Int))=true,((j:Int)==(i:Int))=true,((j:Int)==(i:Int))=true,((j:Int)==(i:Int))=true,((j:Int)==(i:Int))=true,((j:Int)==(i:Int))=true,ok=true,((j:Int)==(i:Int))=true,ok=true,Yae ((j:Int)+(1:Int))],Ex.normal,Yd1 x th wr s l i (j+1) true):=by kernel_rfl
theorem Zbo (x:FBook)(th:LL)(wr:LI)(s:Nat)(l:LI)(i j:Nat)(ok:Bool) :runK (MH 60) [(26,true),(30,true),(34,false)] [] [] (Yfs [1,1,0,1,0,0,1,0,0,1,0,1,0,0]) (Yd1 x th wr s l i j ok) Ynh =some ([decide ((j:Int)<(l.length:Int))=true,ok=true,ok=true,ok=true,ok=true,((j:Int)==(i:Int))=false,((j:Int)==(i:Int))=false,((j:Int)==(i:Int))=false,(0:Int)<=(j:Int)/\(j:Int)<(l.length:Int),((j:Int)==(i:Int))=false,0+1<=1,((j:Int)==(i:Int))=false,((j:Int)==(i:Int))=false,((j:Int)==(i:Int))=false,(0:Int)<=(i:Int)/\(i:Int)<(l.length:Int),((j:Int)==(i:Int))=false,0+1<=1,((j:Int)==(i:Int))=false,((j:Int)==(i:Int))=false,((j:Int)==(i:Int))=false,((j:Int)==(i:Int))=false,(0:Int)<=(j:Int)/\(j:Int)<(l.length:Int),((j:Int)==(i:Int))=false,0+1<=1,((j:Int)==(i:Int))=false,ok=true,((j:Int)==(i:Int))=false,ok=true,Yae ((j:Int)+(1:Int))],Ex.normal,Yd1 x th wr s l i (j+1) (andF (l.getD j 0) (l.getD i 0) != l.getD j 0)):=by kernel_rfl
theorem Zi3 (x:FBook)(th:LL)(wr:LI)(s:Nat)(l:LI)(i j:Nat)(ok:Bool) :runK (MH 60) [(26,false)] [] [] (Yfs [1,1,0,1,0,0,1,0,0,1,0,1,0,0]) (Yd1 x th wr s l i j ok) Ynh =some ([decide ((j:Int)<(l.length:Int))=false],Ex.exit 2,Yd1 x th wr s l i j ok):=by kernel_rfl
theorem Zi4 (x:FBook)(th:LL)(wr:LI)(s:Nat)(l:LI)(i:Nat)(j:Nat) :runK (MH 60) [(20,true)] [] [(2,(Ynh,(.normal,Yd1 x th wr s l i j true)))] (Yfs [1,1,0,1,0,0]) (Yg4 x th wr s l i) Yut =some ([decide ((i:Int)<(l.length:Int))=true,LF 60 (Yfs [1,1,0,1,0,0,1,0,0,1,0,1]) (Yd1 x th wr s l i 0 true) Ex.normal (Yd1 x th wr s l i j true),(0:Int)<=(i:Int)/\(i:Int)<(l.length:Int),0+1<=1,1*(8+1)<=140737488355328,Yae ((i:Int)+(1:Int))],Ex.normal,Yg3 x th wr s l (i+1) (l.getD i 0) []):=by kernel_rfl
theorem Zqh (x:FBook)(th:LL)(wr:LI)(s:Nat)(l:LI)(i:Nat)(j:Nat) :runK (MH 60) [(20,true)] [] [(2,(Ynh,(.normal,Yd1 x th wr s l i j false)))] (Yfs [1,1,0,1,0,0]) (Yg4 x th wr s l i) Yuu =some ([decide ((i:Int)<(l.length:Int))=true,LF 60 (Yfs [1,1,0,1,0,0,1,0,0,1,0,1]) (Yd1 x th wr s l i 0 true) Ex.normal (Yd1 x th wr s l i j false),Yae ((i:Int)+(1:Int))],Ex.normal,Yg4 x th wr s l (i+1)):=by kernel_rfl
theorem Zi5 (x:FBook)(th:LL)(wr:LI)(s:Nat)(l:LI)(i:Nat) :runK (MH 60) [(20,false)] [] [] (Yfs [1,1,0,1,0,0]) (Yg4 x th wr s l i) Yuu =some ([decide ((i:Int)<(l.length:Int))=false],Ex.exit 0,Yg4 x th wr s l i):=by kernel_rfl
theorem Zjl (x:FBook)(l:LI)(i s:Nat)(y:Work)(r:List Work) :runK (MH 38) [(18,true)] [(26,.bool true)] [] (Yht [1,1,0,1,0,0,1,0,0,1,0,0]) (Yfi x l i s y r) Yqo =some ([decide ((s:Int)<(l.length:Int))=true,(0:Int)<=(s:Int)/\(s:Int)<(l.length:Int),0+1<=1,CF 141 [D.I (List.getD l (s) (0:Int)),D.I (i:Int)] (D.bool true),(0:Int)<=(i:Int)/\(i:Int)<(x.opn.length:Int),0+1<=1,(y::r).length=List.length ((y::r)),List.length ((y::r)++[Work.mk (List.getD x.opn (i) (0:Int)) ((s:Int))])*(16+1)<=140737488355328,Yae ((s:Int)+(1:Int))],Ex.normal,Yfi x l i (s+1) y (r++[⟨x.opn.getD i 0,(s:Int)⟩])):=by kernel_rfl
theorem Zqw (x:FBook)(l:LI)(i s:Nat)(y:Work)(r:List Work) :runK (MH 38) [(18,true)] [(26,.bool false)] [] (Yht [1,1,0,1,0,0,1,0,0,1,0,0]) (Yfi x l i s y r) Yqo =some ([decide ((s:Int)<(l.length:Int))=true,(0:Int)<=(s:Int)/\(s:Int)<(l.length:Int),0+1<=1,CF 141 [D.I (List.getD l (s) (0:Int)),D.I (i:Int)] (D.bool false),Yae ((s:Int)+(1:Int))],Ex.normal,Yfi x l i (s+1) y r):=by kernel_rfl
theorem Zjm (x:FBook)(l:LI)(i s:Nat)(y:Work)(r:List Work) :runK (MH 38) [(18,false)] [] [] (Yht [1,1,0,1,0,0,1,0,0,1,0,0]) (Yfi x l i s y r) Yqo =some ([decide ((s:Int)<(l.length:Int))=false],Ex.exit 2,Yfi x l i s y r):=by kernel_rfl
theorem Zqx (x:FBook)(l:LI)(i:Nat)(y:Work)(r:List Work)(s:Nat)(y2:Work)(r2:List Work) :runK (MH 38) [(12,true)] [] [(2,(Yqo,(.normal,Yfi x l i s y2 r2)))] (Yht [1,1,0,1,0,0]) (Yi6 x l i y r) Zbs =some ([decide ((i:Int)<(x.opn.length:Int))=true,LF 38 (Yht [1,1,0,1,0,0,1,0,0,1]) [(.tmp 1,.d (D.z E.int l)),(.tmp 2,.d (D.ptr 2 0)),(.tmp 5,.d (D.own 36 ((y::r).length))),(.tmp 6,.d (D.I (i:Int))),(.tmp 7,.d (D.I 0)),(.box 2,.bz (cellsOf (Yab x))),(.obj 36,.ob (some (Ob.mk E.work (y::r))))] Ex.normal (Yfi x l i s y2 r2),Yae ((i:Int)+(1:Int))],Ex.normal,Yi6 x l (i+1) y2 r2):=by kernel_rfl
theorem Zjn (x:FBook)(l:LI)(i:Nat)(y:Work)(r:List Work) :runK (MH 38) [(12,false)] [] [] (Yht [1,1,0,1,0,0]) (Yi6 x l i y r) Zbs =some ([decide ((i:Int)<(x.opn.length:Int))=false],Ex.exit 0,Yi6 x l i y r):=by kernel_rfl
theorem Zjo (x:FBook)(l:LI)(i s:Nat) :runK (MH 38) [(18,true)] [(26,.bool true)] [] (Yht [1,1,0,1,0,0,1,0,0,1,0,0]) (Yg7 x l i s) Yqo =some ([decide ((s:Int)<(l.length:Int))=true,(0:Int)<=(s:Int)/\(s:Int)<(l.length:Int),0+1<=1,CF 141 [D.I (List.getD l (s) (0:Int)),D.I (i:Int)] (D.bool true),(0:Int)<=(i:Int)/\(i:Int)<(x.opn.length:Int),0+1<=1,1*(16+1)<=140737488355328,Yae ((s:Int)+(1:Int))],Ex.normal,Yfi x l i (s+1) ⟨x.opn.getD i 0,(s:Int)⟩ []):=by kernel_rfl
theorem Zq1 (x:FBook)(l:LI)(i s:Nat) :runK (MH 38) [(18,true)] [(26,.bool false)] [] (Yht [1,1,0,1,0,0,1,0,0,1,0,0]) (Yg7 x l i s) Yuy =some ([decide ((s:Int)<(l.length:Int))=true,(0:Int)<=(s:Int)/\(s:Int)<(l.length:Int),0+1<=1,CF 141 [D.I (List.getD l (s) (0:Int)),D.I (i:Int)] (D.bool false),Yae ((s:Int)+(1:Int))],Ex.normal,Yg7 x l i (s+1)):=by kernel_rfl
theorem Zjp (x:FBook)(l:LI)(i s:Nat) :runK (MH 38) [(18,false)] [] [] (Yht [1,1,0,1,0,0,1,0,0,1,0,0]) (Yg7 x l i s) Yuy =some ([decide ((s:Int)<(l.length:Int))=false],Ex.exit 2,Yg7 x l i s):=by kernel_rfl
theorem Zq3 (x:FBook)(l:LI)(i:Nat)(s:Nat) :runK (MH 38) [(12,true)] [] [(2,(Yuy,(.normal,Yg7 x l i s)))] (Yht [1,1,0,1,0,0]) (Yg8 x l i) Yuz =some ([decide ((i:Int)<(x.opn.length:Int))=true,LF 38 (Yht [1,1,0,1,0,0,1,0,0,1]) (Yg7 x l i 0) Ex.normal (Yg7 x l i s),Yae ((i:Int)+(1:Int))],Ex.normal,Yg8 x l (i+1)):=by kernel_rfl
theorem Zjq (x:FBook)(l:LI)(i:Nat) :runK (MH 38) [(12,false)] [] [] (Yht [1,1,0,1,0,0]) (Yg8 x l i) Yuz =some ([decide ((i:Int)<(x.opn.length:Int))=false],Ex.exit 0,Yg8 x l i):=by kernel_rfl
theorem Zq2 (x:FBook)(l:LI)(i:Nat)(s:Nat)(y:Work)(r:List Work) :runK (MH 38) [(12,true)] [] [(2,(Yuy,(.normal,Yfi x l i s y r)))] (Yht [1,1,0,1,0,0]) (Yg8 x l i) Zbs =some ([decide ((i:Int)<(x.opn.length:Int))=true,LF 38 (Yht [1,1,0,1,0,0,1,0,0,1]) (Yg7 x l i 0) Ex.normal (Yfi x l i s y r),Yae ((i:Int)+(1:Int))],Ex.normal,Yi6 x l (i+1) y r):=by kernel_rfl
theorem Zxv (p q:List Work)(i:Nat) :runK (MH 38) [(12,true),(23,false)] [] [] (Yvu [1,0,1,0,0]) (Yf8 p q i) Zge =some ([decide ((i:Int)<List.foldl mn ((p.length:Int)) [(q.length:Int)])=true,(0:Int)<=(i:Int)/\(i:Int)<(p.length:Int),0+2<=2,(0:Int)<=(i:Int)/\(i:Int)<(q.length:Int),0+2<=2,(!eqI [Work.d (List.getD p (i) Yam),Work.s (List.getD p (i) Yam)] [Work.d (List.getD q (i) Yam),Work.s (List.getD q (i) Yam)])=false,Yae ((i:Int)+(1:Int))],Ex.normal,Yf8 p q (i+1)):=by kernel_rfl
theorem Zxw (p q:List Work)(i:Nat)(b:Bool) :runK (MH 38) [(12,true),(23,true)] [(32,.bool b)] [] (Yvu [1,0,1,0,0]) (Yf8 p q i) [.tmp 0,.tmp 1,.tmp 5,.tmp 4] =let Z0:=List.getD p (i) Yam;let Z1:=List.getD q (i) Yam;some ([decide ((i:Int)<List.foldl mn ((p.length:Int)) [(q.length:Int)])=true,(0:Int)<=(i:Int)/\(i:Int)<(p.length:Int),0+2<=2,(0:Int)<=(i:Int)/\(i:Int)<(q.length:Int),0+2<=2,(!eqI [Work.d Z0,Work.s Z0] [Work.d Z1,Work.s Z1])=true,(0:Int)<=(i:Int)/\(i:Int)<(p.length:Int),0+2<=2,(0:Int)<=(i:Int)/\(i:Int)<(q.length:Int),0+2<=2,CF 84 [D.agg [D.I (Work.d Z0),D.I (Work.s Z0)],D.agg [D.I (Work.d Z1),D.I (Work.s Z1)]] (D.bool b)],Ex.ret,Yqj p q i b):=by kernel_rfl
theorem Zqi (p q:List Work)(i:Nat) :runK (MH 38) [(12,false)] [] [] (Yvu [1,0,1,0,0]) (Yf8 p q i) Zge =some ([decide ((i:Int)<List.foldl mn ((p.length:Int)) [(q.length:Int)])=false],Ex.exit 0,Yf8 p q i):=by kernel_rfl
theorem Ziw (x:FBook)(w:Int)(d:Nat)(y:Int)(r:LI) :runK (MH 33) [(13,true),(19,true),(25,true)] [] [] (k_79 [1,1,1,0,1,0,0]) (Yes x w d y r) Ynf =some ([decide ((d:Int)<=x.chain.days)=true,((d:Int)==w)=true,((d:Int)==w)=true,((d:Int)==w)=true,((d:Int)==w)=true,((d:Int)==w)=true,((d:Int)==w)=true,true=true,(y::r).length=List.length ((y::r)),List.length ((y::r)++[(d:Int)])*(8+1)<=140737488355328,List.length ((y::r)++[(d:Int)])=List.length (((y::r)++[(d:Int)])),Yae ((d:Int)+(1:Int))],Ex.normal,Yes x w (d+1) y (r++[(d:Int)])):=by kernel_rfl
theorem Ziu (x:FBook)(w:Int)(d:Nat)(y:Int)(r:LI)(a:Int) :runK (MH 33) [(13,true),(19,false),(25,true)] [(23,.I a)] [] (k_79 [1,1,1,0,1,0,0]) (Yes x w d y r) Ynf =some ([decide ((d:Int)<=x.chain.days)=true,((d:Int)==w)=false,((d:Int)==w)=false,((d:Int)==w)=false,((d:Int)==w)=false,CF 78 [D.z E.int x.opn,D.I (d:Int)] (D.I a),((d:Int)==w)=false,((d:Int)==w)=false,decide (a>=(0:Int))=true,(y::r).length=List.length ((y::r)),List.length ((y::r)++[(d:Int)])*(8+1)<=140737488355328,List.length ((y::r)++[(d:Int)])=List.length (((y::r)++[(d:Int)])),Yae ((d:Int)+(1:Int))],Ex.normal,Yes x w (d+1) y (r++[(d:Int)])):=by kernel_rfl
theorem Zp9 (x:FBook)(w:Int)(d:Nat)(y:Int)(r:LI)(a:Int) :runK (MH 33) [(13,true),(19,false),(25,false)] [(23,.I a)] [] (k_79 [1,1,1,0,1,0,0]) (Yes x w d y r) Ynf =some ([decide ((d:Int)<=x.chain.days)=true,((d:Int)==w)=false,((d:Int)==w)=false,((d:Int)==w)=false,((d:Int)==w)=false,CF 78 [D.z E.int x.opn,D.I (d:Int)] (D.I a),((d:Int)==w)=false,((d:Int)==w)=false,decide (a>=(0:Int))=false,Yae ((d:Int)+(1:Int))],Ex.normal,Yes x w (d+1) y r):=by kernel_rfl
theorem Ziv (x:FBook)(w:Int)(d:Nat)(y:Int)(r:LI) :runK (MH 33) [(13,false)] [] [] (k_79 [1,1,1,0,1,0,0]) (Yes x w d y r) Ynf =some ([decide ((d:Int)<=x.chain.days)=false],Ex.exit 0,Yes x w d y r):=by kernel_rfl
theorem Ziz (x:FBook)(w:Int)(d:Nat) :runK (MH 33) [(13,true),(19,true),(25,true)] [] [] (k_79 [1,1,1,0,1,0,0]) (Ylb x w d) Ynf =some ([decide ((d:Int)<=x.chain.days)=true,((d:Int)==w)=true,((d:Int)==w)=true,((d:Int)==w)=true,((d:Int)==w)=true,((d:Int)==w)=true,((d:Int)==w)=true,true=true,1*(8+1)<=140737488355328,1=1,Yae ((d:Int)+(1:Int))],Ex.normal,Yes x w (d+1) (d:Int) []):=by kernel_rfl
theorem Zix (x:FBook)(w:Int)(d:Nat)(a:Int) :runK (MH 33) [(13,true),(19,false),(25,true)] [(23,.I a)] [] (k_79 [1,1,1,0,1,0,0]) (Ylb x w d) Ynf =some ([decide ((d:Int)<=x.chain.days)=true,((d:Int)==w)=false,((d:Int)==w)=false,((d:Int)==w)=false,((d:Int)==w)=false,CF 78 [D.z E.int x.opn,D.I (d:Int)] (D.I a),((d:Int)==w)=false,((d:Int)==w)=false,decide (a>=(0:Int))=true,1*(8+1)<=140737488355328,1=1,Yae ((d:Int)+(1:Int))],Ex.normal,Yes x w (d+1) (d:Int) []):=by kernel_rfl
theorem Zqa (x:FBook)(w:Int)(d:Nat)(a:Int) :runK (MH 33) [(13,true),(19,false),(25,false)] [(23,.I a)] [] (k_79 [1,1,1,0,1,0,0]) (Ylb x w d) Zbk =some ([decide ((d:Int)<=x.chain.days)=true,((d:Int)==w)=false,((d:Int)==w)=false,((d:Int)==w)=false,((d:Int)==w)=false,CF 78 [D.z E.int x.opn,D.I (d:Int)] (D.I a),((d:Int)==w)=false,((d:Int)==w)=false,decide (a>=(0:Int))=false,Yae ((d:Int)+(1:Int))],Ex.normal,Ylb x w (d+1)):=by kernel_rfl
theorem Ziy (x:FBook)(w:Int)(d:Nat) :runK (MH 33) [(13,false)] [] [] (k_79 [1,1,1,0,1,0,0]) (Ylb x w d) Zbk =some ([decide ((d:Int)<=x.chain.days)=false],Ex.exit 0,Ylb x w d):=by kernel_rfl
theorem Xdp (z n:Int) :Yaj (MH 10) [] [] [] (body Tryz.f141) [.tmp 4] [.I z,.I n] =some ([(0:Int)<=n],D.bool (IntKind.wrap .i64 ((Nat.cast:Nat->Int) (BitVec.toNat (BitVec.ofInt 64 (Int.fdiv z ((2:Int) ^ Min.min (Int.toNat n) 64))&&& BitVec.ofInt 64 (1:Int))))==(1:Int))):=by kernel_rfl
theorem Zqp (x:FBook)(th:LL)(wr:LI)(s:Nat)(i:Nat) :Yaj (MH 72) [] [] [(0,(Yuw,(.normal,Yg6 x th wr s i)))] (body Tryz.f127) [.tmp 6] [Yab x,.agg [.z (.list .int) th,.z .int wr],.I s] =some ([LF 72 (Ydj [1,1,0,1]) (Yg6 x th wr s 0) Ex.normal (Yg6 x th wr s i)],D.sl true E.int []):=by kernel_rfl
theorem Zqo (x:FBook)(th:LL)(wr:LI)(s:Nat)(i:Nat)(y:Int)(r:LI) :Yaj (MH 72) [] [] [(0,(Yuw,(.normal,Yg5 x th wr s i y r)))] (body Tryz.f127) [.tmp 6] [Yab x,.agg [.z (.list .int) th,.z .int wr],.I s] =some ([LF 72 (Ydj [1,1,0,1]) (Yg6 x th wr s 0) Ex.normal (Yg5 x th wr s i y r),(y::r).length=List.length ((y::r))],D.z E.int ((y::r))):=by kernel_rfl
theorem Zqe (x:FBook)(th:LL)(wr:LI)(s:Nat)(l:LI)(i:Nat) :Yaj (MH 60) [] [(15,.z .int l)] [(0,(Yuu,(.normal,Yg4 x th wr s l i)))] (body Tryz.f107) [.tmp 6] [Yab x,.agg [.z (.list .int) th,.z .int wr],.I s] =some ([CF 127 [Yab x,D.agg [D.z (E.list E.int) th,D.z E.int wr],D.I (s:Int)] (D.z E.int l),LF 60 (Yfs [1,1,0,1]) (Yg4 x th wr s l 0) Ex.normal (Yg4 x th wr s l i)],D.sl true E.int []):=by kernel_rfl
theorem Zqd (x:FBook)(th:LL)(wr:LI)(s:Nat)(l:LI)(i:Nat)(y:Int)(r:LI) :Yaj (MH 60) [] [(15,.z .int l)] [(0,(Yuu,(.normal,Yg3 x th wr s l i y r)))] (body Tryz.f107) [.tmp 6] [Yab x,.agg [.z (.list .int) th,.z .int wr],.I s] =some ([CF 127 [Yab x,D.agg [D.z (E.list E.int) th,D.z E.int wr],D.I (s:Int)] (D.z E.int l),LF 60 (Yfs [1,1,0,1]) (Yg4 x th wr s l 0) Ex.normal (Yg3 x th wr s l i y r),(y::r).length=List.length ((y::r))],D.z E.int ((y::r))):=by kernel_rfl
theorem Zqz (x:FBook)(l:LI)(i:Nat) :Yaj (MH 38) [] [] [(0,(Yuz,(.normal,Yg8 x l i)))] (body Tryz.f128) [.tmp 4] [Yab x,.z .int l] =some ([LF 38 (Yht [1,1,0,1]) (Yg8 x l 0) Ex.normal (Yg8 x l i)],D.sl true E.work []):=by kernel_rfl
theorem Zqy (x:FBook)(l:LI)(i:Nat)(y:Work)(r:List Work) :Yaj (MH 38) [] [] [(0,(Yuz,(.normal,Yi6 x l i y r)))] (body Tryz.f128) [.tmp 4] [Yab x,.z .int l] =some ([LF 38 (Yht [1,1,0,1]) (Yg8 x l 0) Ex.normal (Yi6 x l i y r),(y::r).length=List.length ((y::r))],D.z E.work ((y::r))):=by kernel_rfl
theorem Xdg (p q:List Work)(i:Nat) :Yaj (MH 38) [] [] [(0,(Zge,(.normal,Yf8 p q i)))] (body Tryz.f106) [.tmp 4] [.z .work p,.z .work q] =some ([LF 38 (Yvu [1,0,1]) (Yf8 p q 0) Ex.normal (Yf8 p q i)],D.bool (decide ((p.length:Int)<(q.length:Int)))):=by kernel_rfl
theorem Xg3 (p q:List Work)(i:Nat)(b:Bool) :Yaj (MH 38) [] [] [(0,(Zge,(.ret,Yqj p q i b)))] (body Tryz.f106) [.tmp 4] [.z .work p,.z .work q] =some ([LF 38 (Yvu [1,0,1]) (Yf8 p q 0) Ex.ret (Yqj p q i b)],D.bool b):=by kernel_rfl
theorem Zxu (x:FBook)(w:Int)(d:Nat)(y:Int)(r:LI) :Yaj (MH 33) [] [] [(0,(Zbk,(.normal,Yes x w d y r)))] (body Tryz.f79) [.cell 4 28] [Yab x,.I w] =some ([LF 33 (k_79 [1,1,1,0,1]) [(.tmp 1,.d (D.I w)),(.tmp 2,.d (D.ptr 2 0)),(.tmp 4,.d (D.ptr 4 0)),(.tmp 5,.d (D.ptr 5 0)),(.tmp 6,.d (D.I 0)),(.box 2,.bz (cellsOf (Yab x))),(.box 4,.bz [D.nil,D.nil,D.nil,D.I 0,D.I 0,D.nil,D.I 0,D.nil,D.I 0,D.I 0]),(.box 5,.bz [D.z E.sec x.chain.secs,D.z E.int x.chain.turns,D.z E.sv x.chain.svs,D.I x.chain.rule,D.I x.chain.days,D.z E.int x.feet,D.I x.new,D.sl true E.int [],D.I x.stock,D.I x.make]),(.obj 30,.ob Option.none)] Ex.normal (Yes x w d y r),(y::r).length=List.length ((y::r)),(y::r).length=List.length ((y::r))],D.agg [D.z E.sec x.chain.secs,D.z E.int x.chain.turns,D.z E.sv x.chain.svs,D.I x.chain.rule,D.I x.chain.days,D.z E.int x.feet,D.I x.new,D.z E.int ((y::r)),D.I x.stock,D.I x.make]):=by kernel_rfl
end Go.Di
namespace Go.Di
open Proofs
end Go.Di
namespace Go.Di
open Proofs
def Yml (x:FBook)(f:Nat->Nat->Bool)(k:Nat)(l:List Work):Nat->List Work
 | 0=>l
 | s+1=>if f k s=true then Yml x f k l s++[⟨x.opn.getD k 0,s⟩] else Yml x f k l s
def Zd7 (x:FBook)(f:Nat->Nat->Bool):Nat->List Work
 | 0=>[]
 | k+1=>Yml x f k (Zd7 x f k) x.feet.length
def grdF (x:FBook)(f:Nat->Nat->Bool):List Work:=Zd7 x f x.opn.length
theorem Yn0 {x:FBook}{f:Nat->Nat->Bool}{k:Nat}{l:List Work}{w:Work}:∀ {s},w∈Yml x f k l s↔w∈l\/∃ j,j<s/\f k j=true/\w=⟨x.opn.getD k 0,(j:Int)⟩
 | 0=>⟨.inl,fun h=>h.elim id fun⟨j,hj,_⟩=>by omega⟩
 | s+1=>by
  have ih:=Yn0 (x:=x) (f:=f) (k:=k) (l:=l) (w:=w) (s:=s);simp only[Yml]
  cases hb:f k s with
  | true =>
   simp only[if_true,List.mem_append,List.mem_singleton,ih]
   constructor
   ·rintro((h|⟨j,hj,h⟩)|h)
    ·exact .inl h
    ·exact .inr ⟨j,by omega,h⟩
    ·exact .inr ⟨s,by omega,hb,h⟩
   ·rintro(h|⟨j,hj,h1,h2⟩)
    ·exact .inl (.inl h)
    ·by_cases hjs:j=s
     ·subst hjs;exact .inr h2
     ·exact .inl (.inr ⟨j,by omega,h1,h2⟩)
  | false =>
   simp only[Bool.false_eq_true,if_false,ih]
   constructor
   ·rintro(h|⟨j,hj,h⟩)
    ·exact .inl h
    ·exact .inr ⟨j,by omega,h⟩
   ·rintro(h|⟨j,hj,h1,h2⟩)
    ·exact .inl h
    ·by_cases hjs:j=s
     ·subst hjs;rw[hb]at h1;cases h1
     ·exact .inr ⟨j,by omega,h1,h2⟩
theorem Yzk {x:FBook}{f:Nat->Nat->Bool}{w:Work}:∀ {n},w∈Zd7 x f n↔∃ k j,k<n/\j<x.feet.length/\f k j=true/\w=⟨x.opn.getD k 0,(j:Int)⟩
 | 0=>⟨fun h=>(by cases h),fun⟨k,_,hk,_⟩=>by omega⟩
 | n+1=>by
  simp only[Zd7,Yn0,Yzk (x:=x) (f:=f) (w:=w) (n:=n)]
  constructor
  ·rintro(⟨k,j,h1,h2⟩|⟨j,h1,h2⟩)
   ·exact⟨k,j,by omega,h2⟩
   ·exact⟨n,j,by omega,h1,h2⟩
  ·rintro⟨k,j,h1,h2,h3⟩
   by_cases hk:k=n
   ·subst hk;exact .inr ⟨j,h2,h3⟩
   ·exact .inl ⟨k,j,by omega,h2,h3⟩
theorem Zsu {l:LI}(h:l.Pairwise (·<·)){i j:Nat}(hij:i<j)(hj:j<l.length):l.getD i 0<l.getD j 0:=by
 rw[List.getD_eq_getElem?_getD,List.getD_eq_getElem?_getD,List.getElem?_eq_getElem (by omega),List.getElem?_eq_getElem hj];exact List.pairwise_iff_getElem.1 h i j (by omega) hj hij
theorem Yq9 {x:FBook}{f:Nat->Nat->Bool}{k:Nat}{l:List Work}(hl:l.Pairwise wlt)(hd:∀ w∈l,w.d<x.opn.getD k 0):∀ s,(Yml x f k l s).Pairwise wlt
 | 0=>hl
 | s+1=>by
  have ih:=Yq9 (f:=f) hl hd s;simp only[Yml];split
  ·refine List.pairwise_append.2 ⟨ih,List.pairwise_singleton _ _,fun a ha b hb=>?_⟩;rw[List.mem_singleton]at hb;subst hb;rcases Yn0.1 ha with h|⟨j,hj,_,rfl⟩
   ·exact .inl (hd a h)
   ·exact .inr ⟨rfl,by show(j:Int)<(s:Int);omega⟩
  ·exact ih
theorem Yt2 {x:FBook}(ho:x.opn.Pairwise (·<·))(f:Nat->Nat->Bool):∀ n,n<=x.opn.length->(Zd7 x f n).Pairwise wlt
 | 0,_=>List.Pairwise.nil
 | n+1,hn=>by
  refine Yq9 (Yt2 ho f n (by omega)) (fun w hw=>?_) _;obtain⟨k,j,hk,_,_,rfl⟩:=Yzk.1 hw;exact Zsu ho hk (by omega)
end Go.Di
namespace Go.Di
open Proofs
section
variable {x:FBook} (hV:FValid x) {plan:List Work} (hp:Yl8 x plan=true)
include hV hp
end
section
variable {x:FBook} {th:LL} {wr:LI} {plan:List Work}
end
end Go.Di
namespace Go.Di
open Proofs
end Go.Di
namespace Go.Di
open Proofs
end Go.Di
namespace Go.Di
open Proofs
end Go.Di
namespace Go.Di
open Proofs
end Go.Di
namespace Go.Di
open Proofs
theorem Ztf {plan:List Work}(hp:plan.Pairwise wlt)(s d:Int):((Yhs plan s d).1=1/\(∃ w∈plan,w.s=s/\w.d<=d/\w.d=(Yhs plan s d).2)/\∀ v∈plan,v.s=s->v.d<=d->v.d<=(Yhs plan s d).2)\/(Yhs plan s d=(0,0)/\∀ w∈plan,¬(w.s=s/\w.d<=d)):=by
 have key:∀(l:List Work) (pre:List Work) (p:Int×Int),(pre++l).Pairwise wlt->((p.1=1/\(∃ w∈pre,w.s=s/\w.d<=d/\w.d=p.2)/\∀ v∈pre,v.s=s->v.d<=d->v.d<=p.2)\/(p=(0,0)/\∀ w∈pre,¬(w.s=s/\w.d<=d))) ->
   (((l.foldl (Ycf s d) p).1=1/\(∃ w∈pre++l,w.s=s/\w.d<=d/\w.d=(l.foldl (Ycf s d) p).2)/\∀ v∈pre++l,v.s=s->v.d<=d->v.d<=(l.foldl (Ycf s d) p).2)\/(l.foldl (Ycf s d) p=(0,0)/\∀ w∈pre++l,¬(w.s=s/\w.d<=d))):=by
  intro l
  induction l with
  | nil=>intro pre p _ h;simpa using h
  | cons w l ih =>
   intro pre p hpw h;have hpw':((pre++[w])++l).Pairwise wlt:=by simpa using hpw
   have:=ih (pre++[w]) (Ycf s d p w) hpw' ?_
   ·simpa using this
   ·have hlt:∀ v∈pre,wlt v w:=fun v hv=>(List.pairwise_append.1 hpw).2.2 v hv w (by simp);unfold Ycf
    by_cases hc:w.s=s/\w.d<=d
    ·rw[if_pos hc];refine .inl ⟨rfl,⟨w,by simp,hc.1,hc.2,rfl⟩,fun v hv hvs hvd=>?_⟩;rcases List.mem_append.1 hv with hv|hv
     ·have:=hlt v hv;unfold wlt at this;show v.d<=w.d;omega
     ·rw[List.mem_singleton]at hv;subst hv;exact Int.le_refl _
    ·rw[if_neg hc];rcases h with ⟨h1,⟨u,hu,h2⟩,h3⟩|⟨h1,h2⟩
     ·refine .inl ⟨h1,⟨u,by simp[hu],h2⟩,fun v hv hvs hvd=>?_⟩;rcases List.mem_append.1 hv with hv|hv
      ·exact h3 v hv hvs hvd
      ·rw[List.mem_singleton]at hv;subst hv;exact absurd ⟨hvs,hvd⟩ hc
     ·refine .inr ⟨h1,fun v hv=>?_⟩;rcases List.mem_append.1 hv with hv|hv
      ·exact h2 v hv
      ·rw[List.mem_singleton]at hv;subst hv;exact hc
 have:=key plan [] (0,0) (by simpa using hp) (.inr ⟨rfl,fun w hw=>by cases hw⟩)
 simpa [Yhs] using this
theorem Zdd (x:FBook)(on:W4):Yax x on=grdF x fun k s=>bitF (on.get s) k:=by
 have h1:∀(k:Nat) (l:List Work) (s:Nat),Yao x on k l s=Yml x (fun k s=>bitF (on.get s) k) k l s:=by
  intro k l s
  induction s with
  | zero=>rfl
  | succ s ih=>simp only[Yao,Yml,ih]
 have h2:∀ k,Ya5 x on k=Zd7 x (fun k s=>bitF (on.get s) k) k:=by
  intro k
  induction k with
  | zero=>rfl
  | succ k ih=>simp only[Ya5,Zd7,ih,h1]
 exact h2 _
theorem Zuz (x:FBook)(w:Work)(l:List Work):Ybf x (w::l)=x.feet.getD w.s.toNat 0+Ybf x l:=by
 have key:∀(l:LI) (a b:Int),l.foldl (·+·) (a+b)=a+l.foldl (·+·) b:=by
  intro l
  induction l with
  | nil=>exact fun _ _=>rfl
  | cons c l ih=>intro a b;rw[List.foldl_cons,List.foldl_cons,Int.add_assoc,ih]
 unfold Ybf Yd7 sumF;rw[List.map_cons,List.foldl_cons,Int.add_comm 0,key]
theorem Ywl {a b:Work}:Ya7 a b<0↔wlt a b:=by
 rw[<-Yrt];omega
theorem Ymw {a b:Work}:Ya7 a b=0↔a=b:=by
 obtain⟨a1,a2⟩:=a;obtain⟨b1,b2⟩:=b;unfold Ya7
 constructor
 ·intro h
  split at h
  ·rename_i h1;rw[Work.mk.injEq];exact⟨h1,by show a2=b2;have h':a2-b2=0:=h;omega⟩
  ·rename_i h1;have h':a1-b1=0:=h;exact absurd (show a1=b1 by omega) h1
 ·intro h
  cases h
  simp
theorem Yk4:∀ {p q r:List Work},Ya9 p q<0->Ya9 q r<0->Ya9 p r<0
 | [],[],_,h,_=>by simp[Ya9]at h
 | [],_::_,[],_,h=>by simp[Ya9]at h
 | [],_::_,_::_,_,_=>by simp[Ya9]
 | _::_,[],_,h,_=>by simp[Ya9]at h
 | _::_,_::_,[],_,h=>by simp[Ya9]at h
 | a::p,b::q,c::r,h1,h2=>by
  simp only[Ya9]at h1 h2 ⊢
  by_cases hab:Ya7 a b=0
  ·rw[if_neg (by simp[hab])]at h1;obtain rfl:=Ymw.1 hab
   by_cases hac:Ya7 a c=0
   ·rw[if_neg (by simp[hac])]at h2 ⊢;exact Yk4 h1 h2
   ·rw[if_pos hac]at h2 ⊢;exact h2
  ·rw[if_pos hab]at h1
   by_cases hbc:Ya7 b c=0
   ·obtain rfl:=Ymw.1 hbc;rw[if_pos hab];exact h1
   ·rw[if_pos hbc]at h2;have h3:=Yw3 (Ywl.1 h1) (Ywl.1 h2);have h4:=Ywl.2 h3;rw[if_pos (by omega)];exact h4
theorem Yui {x:FBook}{p q:List Work}:Ycw x p q=true↔Ybf x p<Ybf x q\/Ybf x p=Ybf x q/\Ya9 p q<0:=by
 unfold Ycw;simp
theorem Zat {x:FBook}{p q r:List Work}(h1:Ycw x p q=true)(h2:Ycw x q r=true):Ycw x p r=true:=by
 rw[Yui]at *;rcases h1 with h1|⟨h1,h1'⟩<;>rcases h2 with h2|⟨h2,h2'⟩
 ·exact .inl (by omega)
 ·exact .inl (by omega)
 ·exact .inl (by omega)
 ·exact .inr ⟨by omega,Yk4 h1' h2'⟩
theorem Yiu (x:FBook)(l:List (List Work)):((bestOf x l).2=true/\(bestOf x l).1∈l/\Yep x (bestOf x l).1=true/\∀ p∈l,Yep x p=true->Ycw x p (bestOf x l).1=false)\/((bestOf x l).2=false/\∀ p∈l,Yep x p=false):=by
 have key:∀(l pre:List (List Work)) (o:List Work×Bool),((o.2=true/\o.1∈pre/\Yep x o.1=true/\∀ p∈pre,Yep x p=true->Ycw x p o.1=false)\/(o.2=false/\∀ p∈pre,Yep x p=false)) ->
   (((l.foldl (Yb8 x) o).2=true/\(l.foldl (Yb8 x) o).1∈pre++l/\Yep x (l.foldl (Yb8 x) o).1=true/\∀ p∈pre++l,Yep x p=true->Ycw x p (l.foldl (Yb8 x) o).1=false)\/((l.foldl (Yb8 x) o).2=false/\∀ p∈pre++l,Yep x p=false)):=by
  intro l
  induction l with
  | nil=>intro pre o h;simpa using h
  | cons q l ih =>
   intro pre o h
   have:=ih (pre++[q]) (Yb8 x o q) ?_
   ·simpa using this
   ·have hself:∀ p,Ycw x p p=false:=by
     intro p
     have hc:∀ p:List Work,Ya9 p p=0:=by
      intro p
      induction p with
      | nil=>rfl
      | cons w p ih2=>simp only[Ya9];rw[if_neg (by simp[Ymw.2 rfl])];exact ih2
     cases hb:Ycw x p p with
     | false=>rfl
     | true =>
      rw[Yui]at hb;rcases hb with hb|⟨_,hb⟩
      ·omega
      ·rw[hc]at hb;omega
    unfold Yb8
    cases hg:Yep x q with
    | false =>
     rw[Bool.false_and,if_neg (by decide)];rcases h with ⟨h1,h2,h3,h4⟩|⟨h1,h2⟩
     ·refine .inl ⟨h1,by simp[h2],h3,fun p hp hgp=>?_⟩;rcases List.mem_append.1 hp with hp|hp
      ·exact h4 p hp hgp
      ·rw[List.mem_singleton]at hp;subst hp;rw[hg]at hgp;cases hgp
     ·refine .inr ⟨h1,fun p hp=>?_⟩;rcases List.mem_append.1 hp with hp|hp
      ·exact h2 p hp
      ·rw[List.mem_singleton]at hp;subst hp;exact hg
    | true =>
     rw[Bool.true_and];rcases h with ⟨h1,h2,h3,h4⟩|⟨h1,h2⟩
     ·rw[h1,Bool.not_true,Bool.false_or]
      cases hb:Ycw x q o.1 with
      | true =>
       rw[if_pos rfl];refine .inl ⟨rfl,by simp,hg,fun p hp hgp=>?_⟩;rcases List.mem_append.1 hp with hp|hp
       ·cases hpq:Ycw x p q with
        | false=>rfl
        | true=>have:=Zat hpq hb;rw[h4 p hp hgp]at this;cases this
       ·rw[List.mem_singleton]at hp;subst hp;exact hself _
      | false =>
       rw[if_neg (by decide)];refine .inl ⟨h1,by simp[h2],h3,fun p hp hgp=>?_⟩;rcases List.mem_append.1 hp with hp|hp
       ·exact h4 p hp hgp
       ·rw[List.mem_singleton]at hp;subst hp;exact hb
     ·rw[h1,Bool.not_false,Bool.true_or,if_pos rfl];refine .inl ⟨rfl,by simp,hg,fun p hp hgp=>?_⟩;rcases List.mem_append.1 hp with hp|hp
      ·rw[h2 p hp]at hgp;cases hgp
      ·rw[List.mem_singleton]at hp;subst hp;exact hself _
 have:=key l [] ([],false) (.inr ⟨rfl,fun p hp=>by cases hp⟩)
 simpa [bestOf] using this
end Go.Di
