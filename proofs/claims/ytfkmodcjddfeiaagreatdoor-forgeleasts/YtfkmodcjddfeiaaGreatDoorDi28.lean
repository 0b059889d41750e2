/- Part 28: contracts are proved. No condition. -/
import Derived.Test.YtfkmodcjddfeiaaGreatDoorDi27
set_option linter.unusedVariables false
set_option linter.unusedSimpArgs false
namespace Go.Di
open Proofs
noncomputable abbrev k_53 (p:List Nat):Code:=Code.at p (body Proofs.Tryz.f53)
noncomputable abbrev k_54 (p:List Nat):Code:=Code.at p (body Proofs.Tryz.f54)
noncomputable abbrev k_85 (p:List Nat):Code:=Code.at p (body Proofs.Tryz.f85)
noncomputable abbrev k_52 (p:List Nat):Code:=Code.at p (body Proofs.Tryz.f52)
noncomputable abbrev k_58 (p:List Nat):Code:=Code.at p (body Proofs.Tryz.f58)
theorem rknB_fn:FnOk PRG (MG 59) 53 (body Tryz.f53) [.cell 2 77]:=by refine⟨Tryz.f53,?_,?_,?_,?_,?_⟩<;>kernel_rfl
theorem rch_fn:FnOk PRG (MG 37) 54 (body Tryz.f54) [.tmp 6]:=by refine⟨Tryz.f54,?_,?_,?_,?_,?_⟩<;>kernel_rfl
theorem rli_fn:FnOk PRG (MG 33) 85 (body Tryz.f85) [.tmp 6]:=by refine⟨Tryz.f85,?_,?_,?_,?_,?_⟩<;>kernel_rfl
theorem rls_fn:FnOk PRG (MG 42) 52 (body Tryz.f52) [.tmp 10]:=by refine⟨Tryz.f52,?_,?_,?_,?_,?_⟩<;>kernel_rfl
theorem rfi_fn:FnOk PRG (MG 40) 58 (body Tryz.f58) [.tmp 6,.tmp 7,.tmp 8]:=by refine⟨Tryz.f58,?_,?_,?_,?_,?_⟩<;>kernel_rfl
theorem rasT_fn:FnOk PRG (MG 23) 49 (body Tryz.f49) [.tmp 4]:=by refine⟨Tryz.f49,?_,?_,?_,?_,?_⟩<;>kernel_rfl
theorem rasF_fn:FnOk PRG (MG 23) 49 (body Tryz.f49) [.tmp 4]:=by refine⟨Tryz.f49,?_,?_,?_,?_,?_⟩<;>kernel_rfl
theorem rLe_fn:FnOk PRG (MG 44) 17 (body Tryz.f17) [.tmp 8,.tmp 9]:=by refine⟨Tryz.f17,?_,?_,?_,?_,?_⟩<;>kernel_rfl
theorem rSa_fn:FnOk PRG (MG 29) 21 (body Tryz.f21) [.tmp 4,.tmp 5]:=by refine⟨Tryz.f21,?_,?_,?_,?_,?_⟩<;>kernel_rfl
theorem rFi_fn:FnOk PRG (MG 32) 23 (body Tryz.f23) [.tmp 4,.tmp 5,.tmp 6]:=by refine⟨Tryz.f23,?_,?_,?_,?_,?_⟩<;>kernel_rfl
theorem lle_fn:FnOk PRG (MG 103) 8 (body Tryz.f8) [.tmp 10]:=by refine⟨Tryz.f8,?_,?_,?_,?_,?_⟩<;>kernel_rfl
theorem lLe_fn:FnOk PRG (MG 32) 3 (body Tryz.f3) [.tmp 6]:=by refine⟨Tryz.f3,?_,?_,?_,?_,?_⟩<;>kernel_rfl
def rknAn_S2 (x:FBook)(i j:Nat)(y:Int)(r:List Int):List (Key×Val) :=
 [(.tmp 1,.d (D.ptr 1 0)),
  (.tmp 2,.d (D.ptr 2 0)),
  (.tmp 3,.d (D.ptr 3 0)),
  (.tmp 4,.d (.I i)),
  (.tmp 7,.d (.sl true .int [])),
  (.tmp 8,.d (.I j)),
  (.box 1,.bx (some (Box.mk false (cellsOf (Yad x))))),
  (.box 2,.bx (some (Box.mk false [D.nil,D.nil]))),
  (.box 3,.bx (some ⟨false,[.nil,(.own 30 (y::r).length)]⟩)),
  (.obj 30,.ob (some ⟨.int,y::r⟩)),
  (.obj 51,.ob none),
  (.obj 56,.ob none)]
def rknAn_K2:List Key:=[.tmp 1,.tmp 2,.tmp 3,.tmp 4,.tmp 7,.tmp 8,.box 1,.box 2,.box 3,.obj 30,.obj 51,.obj 56]
def Yfu (x:FBook)(i j:Nat)(y:Int)(r:List Int)(z:Int)(l:List Int):List (Key×Val) :=
 [(.tmp 1,.d (D.ptr 1 0)),
  (.tmp 2,.d (D.ptr 2 0)),
  (.tmp 3,.d (D.ptr 3 0)),
  (.tmp 4,.d (.I i)),
  (.tmp 7,.d (.own 51 (z::l).length)),
  (.tmp 8,.d (.I j)),
  (.box 1,.bx (some (Box.mk false (cellsOf (Yad x))))),
  (.box 2,.bx (some (Box.mk false [D.nil,D.nil]))),
  (.box 3,.bx (some ⟨false,[.nil,(.own 30 (y::r).length)]⟩)),
  (.obj 30,.ob (some ⟨.int,y::r⟩)),
  (.obj 51,.ob (some ⟨.int,z::l⟩)),
  (.obj 56,.ob none)]
def rknAo_K2:List Key:=[.tmp 1,.tmp 2,.tmp 3,.tmp 4,.tmp 7,.tmp 8,.box 1,.box 2,.box 3,.obj 30,.obj 51,.obj 56]
def rknBn_S2 (x:FBook)(i j:Nat)(y:Int)(r:List Int)(t:List Int)(q:List (List Int)):List (Key×Val) :=
 [(.tmp 1,.d (D.ptr 1 0)),
  (.tmp 2,.d (D.ptr 2 0)),
  (.tmp 3,.d (D.ptr 3 0)),
  (.tmp 4,.d (.I i)),
  (.tmp 7,.d (.sl true .int [])),
  (.tmp 8,.d (.I j)),
  (.box 1,.bx (some (Box.mk false (cellsOf (Yad x))))),
  (.box 2,.bx (some (Box.mk false [D.nil,D.nil]))),
  (.box 3,.bx (some ⟨false,[(.own 56 (t::q).length),(.own 30 (y::r).length)]⟩)),
  (.obj 30,.ob (some ⟨.int,y::r⟩)),
  (.obj 51,.ob none),
  (.obj 56,.ob (some ⟨.list .int,t::q⟩))]
def rknBn_K2:List Key:=[.tmp 1,.tmp 2,.tmp 3,.tmp 4,.tmp 7,.tmp 8,.box 1,.box 2,.box 3,.obj 30,.obj 51,.obj 56]
def Yft (x:FBook)(i j:Nat)(y:Int)(r:List Int)(t:List Int)(q:List (List Int))(z:Int)(l:List Int):List (Key×Val) :=
 [(.tmp 1,.d (D.ptr 1 0)),
  (.tmp 2,.d (D.ptr 2 0)),
  (.tmp 3,.d (D.ptr 3 0)),
  (.tmp 4,.d (.I i)),
  (.tmp 7,.d (.own 51 (z::l).length)),
  (.tmp 8,.d (.I j)),
  (.box 1,.bx (some (Box.mk false (cellsOf (Yad x))))),
  (.box 2,.bx (some (Box.mk false [D.nil,D.nil]))),
  (.box 3,.bx (some ⟨false,[(.own 56 (t::q).length),(.own 30 (y::r).length)]⟩)),
  (.obj 30,.ob (some ⟨.int,y::r⟩)),
  (.obj 51,.ob (some ⟨.int,z::l⟩)),
  (.obj 56,.ob (some ⟨.list .int,t::q⟩))]
def rknBo_K2:List Key:=[.tmp 1,.tmp 2,.tmp 3,.tmp 4,.tmp 7,.tmp 8,.box 1,.box 2,.box 3,.obj 30,.obj 51,.obj 56]
def rknA_S0 (x:FBook)(i:Nat):List (Key×Val) :=
 [(.tmp 1,.d (D.ptr 1 0)),
  (.tmp 2,.d (D.ptr 2 0)),
  (.tmp 3,.d (D.ptr 3 0)),
  (.tmp 4,.d (.I i)),
  (.box 1,.bx (some (Box.mk false (cellsOf (Yad x))))),
  (.box 2,.bx (some (Box.mk false [D.nil,D.nil]))),
  (.box 3,.bx (some ⟨false,[.nil,.nil]⟩)),
  (.obj 30,.ob none),
  (.obj 56,.ob none)]
def Yg5 (x:FBook)(i:Nat)(y:Int)(r:List Int)(t:List Int)(q:List (List Int)):List (Key×Val) :=
 [(.tmp 1,.d (D.ptr 1 0)),
  (.tmp 2,.d (D.ptr 2 0)),
  (.tmp 3,.d (D.ptr 3 0)),
  (.tmp 4,.d (.I i)),
  (.box 1,.bx (some (Box.mk false (cellsOf (Yad x))))),
  (.box 2,.bx (some (Box.mk false [D.nil,D.nil]))),
  (.box 3,.bx (some ⟨false,[(.own 56 (t::q).length),(.own 30 (y::r).length)]⟩)),
  (.obj 30,.ob (some ⟨.int,y::r⟩)),
  (.obj 56,.ob (some ⟨.list .int,t::q⟩))]
def rknB_K0:List Key:=[.tmp 1,.tmp 2,.tmp 3,.tmp 4,.box 1,.box 2,.box 3,.obj 30,.obj 56]
def Yfx (plan:List Work)(s d:Int)(la:Int)(i:Nat):List (Key×Val) :=
 [(.tmp 0,.d (D.sl false E.work plan)),
  (.tmp 1,.d (D.I s)),
  (.tmp 2,.d (D.I d)),
  (.tmp 7,.d (.I la)),
  (.tmp 8,.d (.I i))]
def rch_K0:List Key:=[.tmp 0,.tmp 1,.tmp 2,.tmp 7,.tmp 8]
def rli_S0 (x:FBook)(s d:Int)(a:Int)(i:Nat):List (Key×Val) :=
 [(.tmp 2,.d (D.I d)),
  (.tmp 3,.d (D.ptr 3 0)),
  (.tmp 7,.d (.I a)),
  (.tmp 8,.d (.I i)),
  (.box 3,.bx (some (Box.mk false (cellsOf (Yad x)))))]
def rli_K0:List Key:=[.tmp 2,.tmp 3,.tmp 7,.tmp 8,.box 3]
def rls_S0 (x:FBook)(th:List (List Int))(wr:List Int)(s c d:Int)(n e:Int):List (Key×Val) :=
 [(.tmp 2,.d (D.I s)),
  (.tmp 4,.d (D.I d)),
  (.tmp 5,.d (D.ptr 5 0)),
  (.tmp 6,.d (D.ptr 6 0)),
  (.tmp 11,.d (.I n)),
  (.tmp 12,.d (.I e)),
  (.box 5,.bx (some (Box.mk false (cellsOf (Yad x))))),
  (.box 6,.bx (some (Box.mk false [D.sl false (E.list E.int) th,D.sl false E.int wr])))]
def rls_K0:List Key:=[.tmp 2,.tmp 4,.tmp 5,.tmp 6,.tmp 11,.tmp 12,.box 5,.box 6]
def Ygj (x:FBook)(th:List (List Int))(wr:List Int)(plan:List Work)(i:Nat):List (Key×Val) :=
 [(.tmp 2,.d (D.sl false E.work plan)),
  (.tmp 3,.d (D.ptr 3 0)),
  (.tmp 4,.d (D.ptr 4 0)),
  (.tmp 9,.d (.I i)),
  (.box 3,.bx (some (Box.mk false (cellsOf (Yad x))))),
  (.box 4,.bx (some (Box.mk false [D.sl false (E.list E.int) th,D.sl false E.int wr])))]
def rfi_K0:List Key:=[.tmp 2,.tmp 3,.tmp 4,.tmp 9,.box 3,.box 4]
def rfi_S2 (x:FBook)(th:List (List Int))(wr:List Int)(plan:List Work)(i j:Nat):List (Key×Val) :=
 [(.tmp 2,.d (D.sl false E.work plan)),
  (.tmp 3,.d (D.ptr 3 0)),
  (.tmp 4,.d (D.ptr 4 0)),
  (.tmp 9,.d (.I i)),
  (.tmp 10,.d (.I j)),
  (.box 3,.bx (some (Box.mk false (cellsOf (Yad x))))),
  (.box 4,.bx (some (Box.mk false [D.sl false (E.list E.int) th,D.sl false E.int wr])))]
def rfi_K2:List Key:=[.tmp 2,.tmp 3,.tmp 4,.tmp 9,.tmp 10,.box 3,.box 4]
def rfi_T2_hit (x:FBook)(th:List (List Int))(wr:List Int)(plan:List Work)(i j:Nat)(c v:Int):List (Key×Val) :=
 [(.tmp 2,.d (D.sl false E.work plan)),(.tmp 3,.d (D.ptr 3 0)),(.tmp 4,.d (D.ptr 4 0)),(.tmp 9,.d (D.I (i:Int))),(.tmp 10,.d (D.I (j:Int))),(.box 3,.bx (some (Box.mk false (cellsOf (Yad x))))),(.box 4,.bx (some (Box.mk false [D.sl false (E.list E.int) th,D.sl false E.int wr]))),(.tmp 6,.d (D.I (i:Int))),(.tmp 7,.d (D.I (j:Int))),(.tmp 8,.d (D.bool true))]
def rfi_T0_hit (x:FBook)(th:List (List Int))(wr:List Int)(plan:List Work)(i:Nat)(j:Nat)(c v:Int):List (Key×Val) :=
 [(.tmp 2,.d (D.sl false E.work plan)),(.tmp 3,.d (D.ptr 3 0)),(.tmp 4,.d (D.ptr 4 0)),(.tmp 9,.d (D.I (i:Int))),(.box 3,.bx (some (Box.mk false (cellsOf (Yad x))))),(.box 4,.bx (some (Box.mk false [D.sl false (E.list E.int) th,D.sl false E.int wr]))),(.tmp 6,.d (D.I (i:Int))),(.tmp 7,.d (D.I (j:Int))),(.tmp 8,.d (D.bool true))]
theorem rknAn_2_on (x:FBook)(i j:Nat)(y:Int)(r:List Int)(s:Span)(e:Int) :
  runK (MG 59) [(36,true)] [(44,.tup [spD s,.I e])] [] (k_53 [1,1,0,1,0,0,1,0,0,1,1,1,0,1,0,0]) (rknAn_S2 x i j y r) rknAo_K2 =
   some ([decide ((j:Int)≤x.chain.days)=true,CF 87 [Yag x.chain,D.I (i:Int),D.I (j:Int)] (D.tup [D.agg [D.I s.lo,D.I s.hi],D.I e]),0+0+1≤2,1*(8+1)≤140737488355328,Yae ((j:Int)+(1:Int))],Ex.normal,Yfu x i (j+1) y r s.lo []):=by kernel_rfl
theorem rknAn_2_end (x:FBook)(i j:Nat)(y:Int)(r:List Int) :
  runK (MG 59) [(36,false)] [] [] (k_53 [1,1,0,1,0,0,1,0,0,1,1,1,0,1,0,0]) (rknAn_S2 x i j y r) rknAn_K2 =
   some ([decide ((j:Int)≤x.chain.days)=false],Ex.exit 2,rknAn_S2 x i j y r):=by kernel_rfl
theorem rknAo_2_on (x:FBook)(i j:Nat)(y:Int)(r:List Int)(z:Int)(l:List Int)(s:Span)(e:Int) :
  runK (MG 59) [(36,true)] [(44,.tup [spD s,.I e])] [] (k_53 [1,1,0,1,0,0,1,0,0,1,1,1,0,1,0,0]) (Yfu x i j y r z l) rknAo_K2 =
   some ([decide ((j:Int)≤x.chain.days)=true,CF 87 [Yag x.chain,D.I (i:Int),D.I (j:Int)] (D.tup [D.agg [D.I s.lo,D.I s.hi],D.I e]),0+0+1≤2,(z::l).length=List.length ((z::l)),List.length ((z::l)++[s.lo])*(8+1)≤140737488355328,Yae ((j:Int)+(1:Int))],Ex.normal,Yfu x i (j+1) y r z (l++[s.lo])):=by kernel_rfl
theorem rknAo_2_end (x:FBook)(i j:Nat)(y:Int)(r:List Int)(z:Int)(l:List Int) :
  runK (MG 59) [(36,false)] [] [] (k_53 [1,1,0,1,0,0,1,0,0,1,1,1,0,1,0,0]) (Yfu x i j y r z l) rknAo_K2 =
   some ([decide ((j:Int)≤x.chain.days)=false],Ex.exit 2,Yfu x i j y r z l):=by kernel_rfl
theorem rknBn_2_on (x:FBook)(i j:Nat)(y:Int)(r:List Int)(t:List Int)(q:List (List Int))(s:Span)(e:Int) :
  runK (MG 59) [(36,true)] [(44,.tup [spD s,.I e])] [] (k_53 [1,1,0,1,0,0,1,0,0,1,1,1,0,1,0,0]) (rknBn_S2 x i j y r t q) rknBo_K2 =
   some ([decide ((j:Int)≤x.chain.days)=true,CF 87 [Yag x.chain,D.I (i:Int),D.I (j:Int)] (D.tup [D.agg [D.I s.lo,D.I s.hi],D.I e]),0+0+1≤2,1*(8+1)≤140737488355328,Yae ((j:Int)+(1:Int))],Ex.normal,Yft x i (j+1) y r t q s.lo []):=by kernel_rfl
theorem rknBn_2_end (x:FBook)(i j:Nat)(y:Int)(r:List Int)(t:List Int)(q:List (List Int)) :
  runK (MG 59) [(36,false)] [] [] (k_53 [1,1,0,1,0,0,1,0,0,1,1,1,0,1,0,0]) (rknBn_S2 x i j y r t q) rknBn_K2 =
   some ([decide ((j:Int)≤x.chain.days)=false],Ex.exit 2,rknBn_S2 x i j y r t q):=by kernel_rfl
theorem rknBo_2_on (x:FBook)(i j:Nat)(y:Int)(r:List Int)(t:List Int)(q:List (List Int))(z:Int)(l:List Int)(s:Span)(e:Int) :
  runK (MG 59) [(36,true)] [(44,.tup [spD s,.I e])] [] (k_53 [1,1,0,1,0,0,1,0,0,1,1,1,0,1,0,0]) (Yft x i j y r t q z l) rknBo_K2 =
   some ([decide ((j:Int)≤x.chain.days)=true,CF 87 [Yag x.chain,D.I (i:Int),D.I (j:Int)] (D.tup [D.agg [D.I s.lo,D.I s.hi],D.I e]),0+0+1≤2,(z::l).length=List.length ((z::l)),List.length ((z::l)++[s.lo])*(8+1)≤140737488355328,Yae ((j:Int)+(1:Int))],Ex.normal,Yft x i (j+1) y r t q z (l++[s.lo])):=by kernel_rfl
theorem rknBo_2_end (x:FBook)(i j:Nat)(y:Int)(r:List Int)(t:List Int)(q:List (List Int))(z:Int)(l:List Int) :
  runK (MG 59) [(36,false)] [] [] (k_53 [1,1,0,1,0,0,1,0,0,1,1,1,0,1,0,0]) (Yft x i j y r t q z l) rknBo_K2 =
   some ([decide ((j:Int)≤x.chain.days)=false],Ex.exit 2,Yft x i j y r t q z l):=by kernel_rfl
theorem rknA_0_on (x:FBook)(i:Nat)(s:Span)(e:Int)(j:Nat)(z:Int)(l:List Int) :
  runK (MG 59) [(15,true)] [(22,.tup [spD s,.I e])] [(2,(rknAo_K2,(.normal,Yfu x i j s.hi [] z l)))] (k_53 [1,1,0,1,0,0]) (rknA_S0 x i) rknB_K0 =
   some ([decide ((i:Int)<(x.feet.length:Int))=true,CF 86 [Yag x.chain,D.I (i:Int)] (D.tup [D.agg [D.I s.lo,D.I s.hi],D.I e]),0+1+1≤2,1*(8+1)≤140737488355328,1=1,LF 59 (k_53 [1,1,0,1,0,0,1,0,0,1,1,1,0,1]) [(.tmp 1,.d (D.ptr 1 0)),(.tmp 2,.d (D.ptr 2 0)),(.tmp 3,.d (D.ptr 3 0)),(.tmp 4,.d (D.I (i:Int))),(.tmp 7,.d (D.sl true E.int [])),(.tmp 8,.d (D.I 0)),(.box 1,.bx (some (Box.mk false (cellsOf (Yad x))))),(.box 2,.bx (some (Box.mk false [D.nil,D.nil]))),(.box 3,.bx (some (Box.mk false [D.nil,D.own 30 1]))),(.obj 30,.ob (some (Ob.mk E.int ([]++[s.hi])))),(.obj 51,.ob Option.none),(.obj 56,.ob Option.none)] Ex.normal (Yfu x i j s.hi [] z l),(z::l).length=List.length ((z::l)),1*(24+1)≤140737488355328,1=1,Yae ((i:Int)+(1:Int))],Ex.normal,Yg5 x (i+1) s.hi [] (z::l) []):=by kernel_rfl
theorem rknB_0_on (x:FBook)(i:Nat)(y:Int)(r:List Int)(t:List Int)(q:List (List Int))(s:Span)(e:Int)(j:Nat)(z:Int)(l:List Int) :
  runK (MG 59) [(15,true)] [(22,.tup [spD s,.I e])] [(2,(rknBo_K2,(.normal,Yft x i j y (r++[s.hi]) t q z l)))] (k_53 [1,1,0,1,0,0]) (Yg5 x i y r t q) rknB_K0 =
   some ([decide ((i:Int)<(x.feet.length:Int))=true,CF 86 [Yag x.chain,D.I (i:Int)] (D.tup [D.agg [D.I s.lo,D.I s.hi],D.I e]),0+1+1≤2,(y::r).length=List.length ((y::r)),List.length ((y::r)++[s.hi])*(8+1)≤140737488355328,List.length ((y::r)++[s.hi])=List.length (((y::r)++[s.hi])),LF 59 (k_53 [1,1,0,1,0,0,1,0,0,1,1,1,0,1]) [(.tmp 1,.d (D.ptr 1 0)),(.tmp 2,.d (D.ptr 2 0)),(.tmp 3,.d (D.ptr 3 0)),(.tmp 4,.d (D.I (i:Int))),(.tmp 7,.d (D.sl true E.int [])),(.tmp 8,.d (D.I 0)),(.box 1,.bx (some (Box.mk false (cellsOf (Yad x))))),(.box 2,.bx (some (Box.mk false [D.nil,D.nil]))),(.box 3,.bx (some (Box.mk false [D.own 56 ((t::q).length),D.own 30 (List.length ((y::r)++[s.hi]))]))),(.obj 30,.ob (some (Ob.mk E.int ((y::r)++[s.hi])))),(.obj 51,.ob Option.none),(.obj 56,.ob (some (Ob.mk (E.list E.int) (t::q))))] Ex.normal (Yft x i j y (r++[s.hi]) t q z l),(z::l).length=List.length ((z::l)),(t::q).length=List.length ((t::q)),List.length ((t::q)++[(z::l)])*(24+1)≤140737488355328,List.length ((t::q)++[(z::l)])=List.length (((t::q)++[(z::l)])),Yae ((i:Int)+(1:Int))],Ex.normal,Yg5 x (i+1) y (r++[s.hi]) t (q++[z::l])):=by kernel_rfl
theorem rknB_0_end (x:FBook)(i:Nat)(y:Int)(r:List Int)(t:List Int)(q:List (List Int)) :
  runK (MG 59) [(15,false)] [] [] (k_53 [1,1,0,1,0,0]) (Yg5 x i y r t q) rknB_K0 =
   some ([decide ((i:Int)<(x.feet.length:Int))=false],Ex.exit 0,Yg5 x i y r t q):=by kernel_rfl
theorem rch_0_yes (plan:List Work)(s d:Int)(la:Int)(i:Nat) :
  runK (MG 37) [(12,true),(22,true),(30,true)] [] [] (k_54 [1,1,0,1,0,0]) (Yfx plan s d la i) rch_K0 =
   let Z0:=Work.s (List.getD plan (i) Yak)==s;some ([decide ((i:Int)<(plan.length:Int))=true,(0:Int)≤(i:Int)∧(i:Int)<(plan.length:Int),0+1+1≤2,Z0=true,Z0=true,Z0=true,(0:Int)≤(i:Int)∧(i:Int)<(plan.length:Int),Z0=true,Z0=true,0+0+1≤2,Z0=true,Z0=true,Z0=true,decide (Work.d (List.getD plan (i) Yak)≤d)=true,(0:Int)≤(i:Int)∧(i:Int)<(plan.length:Int),0+0+1≤2,Yae ((i:Int)+(1:Int))],Ex.normal,Yfx plan s d ((plan.getD i Yak).d) (i+1)):=by kernel_rfl
theorem rch_0_noa (plan:List Work)(s d:Int)(la:Int)(i:Nat) :
  runK (MG 37) [(12,true),(22,false)] [] [] (k_54 [1,1,0,1,0,0]) (Yfx plan s d la i) rch_K0 =
   let Z0:=Work.s (List.getD plan (i) Yak)==s;some ([decide ((i:Int)<(plan.length:Int))=true,(0:Int)≤(i:Int)∧(i:Int)<(plan.length:Int),0+1+1≤2,Z0=false,Z0=false,Z0=false,Z0=false,Z0=false,Z0=false,Z0=false,Z0=false,Yae ((i:Int)+(1:Int))],Ex.normal,Yfx plan s d la (i+1)):=by kernel_rfl
theorem rch_0_nob (plan:List Work)(s d:Int)(la:Int)(i:Nat) :
  runK (MG 37) [(12,true),(22,true),(30,false)] [] [] (k_54 [1,1,0,1,0,0]) (Yfx plan s d la i) rch_K0 =
   let Z0:=Work.s (List.getD plan (i) Yak)==s;some ([decide ((i:Int)<(plan.length:Int))=true,(0:Int)≤(i:Int)∧(i:Int)<(plan.length:Int),0+1+1≤2,Z0=true,Z0=true,Z0=true,(0:Int)≤(i:Int)∧(i:Int)<(plan.length:Int),Z0=true,Z0=true,0+0+1≤2,Z0=true,Z0=true,Z0=true,decide (Work.d (List.getD plan (i) Yak)≤d)=false,Yae ((i:Int)+(1:Int))],Ex.normal,Yfx plan s d la (i+1)):=by kernel_rfl
theorem rch_0_end (plan:List Work)(s d:Int)(la:Int)(i:Nat) :
  runK (MG 37) [(12,false)] [] [] (k_54 [1,1,0,1,0,0]) (Yfx plan s d la i) rch_K0 =
   some ([decide ((i:Int)<(plan.length:Int))=false],Ex.exit 0,Yfx plan s d la i):=by kernel_rfl
theorem rli_0_yes (x:FBook)(s d:Int)(a:Int)(i:Nat) :
  runK (MG 33) [(15,true),(25,true)] [] [] (k_85 [1,1,0,1,0,0]) (rli_S0 x s d a i) rli_K0 =
   some ([decide ((i:Int)<(x.chain.turns.length:Int))=true,(0:Int)≤(i:Int)∧(i:Int)<(x.chain.turns.length:Int),0+1≤1,decide (List.getD x.chain.turns (i) (0:Int)≤d)=true,Yae ((x.feet.length:Int)-(1:Int)),Yae ((x.feet.length:Int)-(1:Int)-a),Yae ((i:Int)+(1:Int))],Ex.normal,rli_S0 x s d ((x.feet.length:Int)-1-a) (i+1)):=by kernel_rfl
theorem rli_0_no (x:FBook)(s d:Int)(a:Int)(i:Nat) :
  runK (MG 33) [(15,true),(25,false)] [] [] (k_85 [1,1,0,1,0,0]) (rli_S0 x s d a i) rli_K0 =
   some ([decide ((i:Int)<(x.chain.turns.length:Int))=true,(0:Int)≤(i:Int)∧(i:Int)<(x.chain.turns.length:Int),0+1≤1,decide (List.getD x.chain.turns (i) (0:Int)≤d)=false,Yae ((i:Int)+(1:Int))],Ex.normal,rli_S0 x s d a (i+1)):=by kernel_rfl
theorem rli_0_end (x:FBook)(s d:Int)(a:Int)(i:Nat) :
  runK (MG 33) [(15,false)] [] [] (k_85 [1,1,0,1,0,0]) (rli_S0 x s d a i) rli_K0 =
   some ([decide ((i:Int)<(x.chain.turns.length:Int))=false],Ex.exit 0,rli_S0 x s d a i):=by kernel_rfl
theorem rls_0_on (x:FBook)(th:List (List Int))(wr:List Int)(s c d:Int)(n e:Int)(p:Int) :
  runK (MG 42) [(28,true)] [(37,.I p)] [] (k_52 [1,1,1,0,1,0,0]) (rls_S0 x th wr s c d n e) rls_K0 =
   some ([decide (e<d)=true,CF 85 [Yad x,D.I s,D.I e] (D.I p),(0:Int)≤p∧p<(wr.length:Int),0+1≤1,Yae (n-List.getD wr (Int.toNat p) (0:Int)),Yae (e+(1:Int))],Ex.normal,rls_S0 x th wr s c d (n-wr.getD p.toNat 0) (e+1)):=by kernel_rfl
theorem rls_0_end (x:FBook)(th:List (List Int))(wr:List Int)(s c d:Int)(n e:Int) :
  runK (MG 42) [(28,false)] [] [] (k_52 [1,1,1,0,1,0,0]) (rls_S0 x th wr s c d n e) rls_K0 =
   some ([decide (e<d)=false],Ex.exit 0,rls_S0 x th wr s c d n e):=by kernel_rfl
theorem rfi_0_on (x:FBook)(th:List (List Int))(wr:List Int)(plan:List Work)(i:Nat)(j:Nat) :
  runK (MG 40) [(15,true)] [] [(2,(rfi_K2,(.normal,rfi_S2 x th wr plan i j)))] (k_58 [1,0,1,0,0]) (Ygj x th wr plan i) rfi_K0 =
   some ([decide ((i:Int)≤x.chain.days)=true,LF 40 (k_58 [1,0,1,0,0,1,0,0,1]) (rfi_S2 x th wr plan i 0) Ex.normal (rfi_S2 x th wr plan i j),Yae ((i:Int)+(1:Int))],Ex.normal,Ygj x th wr plan (i+1)):=by kernel_rfl
theorem rfi_0_hit (x:FBook)(th:List (List Int))(wr:List Int)(plan:List Work)(i:Nat)(j:Nat)(c v:Int) :
  runK (MG 40) [(15,true)] [] [(2,(rfi_K2,(.ret,rfi_T2_hit x th wr plan i j c v)))] (k_58 [1,0,1,0,0]) (Ygj x th wr plan i) [.tmp 2,.tmp 3,.tmp 4,.tmp 9,.box 3,.box 4,.tmp 6,.tmp 7,.tmp 8] =
   some ([decide ((i:Int)≤x.chain.days)=true,LF 40 (k_58 [1,0,1,0,0,1,0,0,1]) (rfi_S2 x th wr plan i 0) Ex.ret (rfi_T2_hit x th wr plan i j c v)],Ex.ret,rfi_T0_hit x th wr plan i j c v):=by kernel_rfl
theorem rfi_0_end (x:FBook)(th:List (List Int))(wr:List Int)(plan:List Work)(i:Nat) :
  runK (MG 40) [(15,false)] [] [] (k_58 [1,0,1,0,0]) (Ygj x th wr plan i) rfi_K0 =
   some ([decide ((i:Int)≤x.chain.days)=false],Ex.exit 0,Ygj x th wr plan i):=by kernel_rfl
theorem rfi_2_on (x:FBook)(th:List (List Int))(wr:List Int)(plan:List Work)(i j:Nat)(c v:Int) :
  runK (MG 40) [(22,true),(37,false)] [(31,.I c),(33,.I v)] [] (k_58 [1,0,1,0,0,1,0,0,1,0,0]) (rfi_S2 x th wr plan i j) rfi_K2 =
   some ([decide ((j:Int)<(x.feet.length:Int))=true,CF 54 [D.sl false E.work plan,D.I (j:Int),D.I (i:Int)] (D.I c),CF 52 [Yad x,D.agg [D.sl false (E.list E.int) th,D.sl false E.int wr],D.I (j:Int),D.I c,D.I (i:Int)] (D.I v),decide (v<x.chain.rule)=false,Yae ((j:Int)+(1:Int))],Ex.normal,rfi_S2 x th wr plan i (j+1)):=by kernel_rfl
theorem rfi_2_hit (x:FBook)(th:List (List Int))(wr:List Int)(plan:List Work)(i j:Nat)(c v:Int) :
  runK (MG 40) [(22,true),(37,true)] [(31,.I c),(33,.I v)] [] (k_58 [1,0,1,0,0,1,0,0,1,0,0]) (rfi_S2 x th wr plan i j) [.tmp 2,.tmp 3,.tmp 4,.tmp 9,.tmp 10,.box 3,.box 4,.tmp 6,.tmp 7,.tmp 8] =
   some ([decide ((j:Int)<(x.feet.length:Int))=true,CF 54 [D.sl false E.work plan,D.I (j:Int),D.I (i:Int)] (D.I c),CF 52 [Yad x,D.agg [D.sl false (E.list E.int) th,D.sl false E.int wr],D.I (j:Int),D.I c,D.I (i:Int)] (D.I v),decide (v<x.chain.rule)=true],Ex.ret,rfi_T2_hit x th wr plan i j c v):=by kernel_rfl
theorem rfi_2_end (x:FBook)(th:List (List Int))(wr:List Int)(plan:List Work)(i j:Nat) :
  runK (MG 40) [(22,false)] [] [] (k_58 [1,0,1,0,0,1,0,0,1,0,0]) (rfi_S2 x th wr plan i j) rfi_K2 =
   some ([decide ((j:Int)<(x.feet.length:Int))=false],Ex.exit 2,rfi_S2 x th wr plan i j):=by kernel_rfl
theorem rknB_all (x:FBook)(i:Nat)(y:Int)(r:List Int)(t:List Int)(q:List (List Int)) :
  Yai (MG 59) [] [] [(0,(rknB_K0,(.normal,Yg5 x i y r t q)))] (body Tryz.f53) [.cell 2 77] [Yad x] =
   some ([LF 59 (k_53 [1,1,0,1]) (rknA_S0 x 0) Ex.normal (Yg5 x i y r t q),(t::q).length=List.length ((t::q)),(y::r).length=List.length ((y::r)),(t::q).length=List.length ((t::q)),(y::r).length=List.length ((y::r))],D.agg [D.sl false (E.list E.int) ((t::q)),D.sl false E.int ((y::r))]):=by kernel_rfl
theorem rch_all (plan:List Work)(s d:Int)(la:Int)(i:Nat) :
  Yai (MG 37) [] [] [(0,(rch_K0,(.normal,Yfx plan s d la i)))] (body Tryz.f54) [.tmp 6] [.sl false .work plan,.I s,.I d] =
   some ([LF 37 (k_54 [1,1,0,1]) (Yfx plan s d (- 1) 0) Ex.normal (Yfx plan s d la i)],D.I la):=by kernel_rfl
theorem rli_all (x:FBook)(s d:Int)(a:Int)(i:Nat) :
  Yai (MG 33) [] [] [(0,(rli_K0,(.normal,rli_S0 x s d a i)))] (body Tryz.f85) [.tmp 6] [Yad x,.I s,.I d] =
   some ([LF 33 (k_85 [1,1,0,1]) (rli_S0 x s d s 0) Ex.normal (rli_S0 x s d a i)],D.I a):=by kernel_rfl
theorem rls_old (x:FBook)(th:List (List Int))(wr:List Int)(s c d:Int) :
  Yai (MG 42) [(14,true)] [] [] (body Tryz.f52) [.tmp 10] [Yad x,.agg [.sl false (.list .int) th,.sl false .int wr],.I s,.I c,.I d] =
   let Z0:=List.getD th (Int.toNat s) (E.z (E.list E.int));some ([decide (c<(0:Int))=true,(0:Int)≤s∧s<(th.length:Int),(0:Int)≤d∧d<(Nat.cast:Nat→Int) (List.length Z0),0+1≤1],D.I (List.getD Z0 (Int.toNat d) (0:Int))):=by kernel_rfl
theorem rls_new (x:FBook)(th:List (List Int))(wr:List Int)(s c d:Int)(n e:Int) :
  Yai (MG 42) [(14,false)] [] [(0,(rls_K0,(.normal,rls_S0 x th wr s c d n e)))] (body Tryz.f52) [.tmp 10] [Yad x,.agg [.sl false (.list .int) th,.sl false .int wr],.I s,.I c,.I d] =
   some ([decide (c<(0:Int))=false,LF 42 (k_52 [1,1,1,0,1]) (rls_S0 x th wr s c d x.new c) Ex.normal (rls_S0 x th wr s c d n e)],D.I n):=by kernel_rfl
theorem rfi_none (x:FBook)(th:List (List Int))(wr:List Int)(plan:List Work)(i:Nat) :
  Yai (MG 40) [] [] [(0,(rfi_K0,(.normal,Ygj x th wr plan i)))] (body Tryz.f58) [.tmp 6,.tmp 7,.tmp 8] [Yad x,.agg [.sl false (.list .int) th,.sl false .int wr],.sl false .work plan] =
   some ([LF 40 (k_58 [1,0,1]) (Ygj x th wr plan 0) Ex.normal (Ygj x th wr plan i)],D.tup [D.I 0,D.I 0,D.bool false]):=by kernel_rfl
theorem rfi_hit (x:FBook)(th:List (List Int))(wr:List Int)(plan:List Work)(i j:Nat)(c v:Int) :
  Yai (MG 40) [] [] [(0,(rfi_K0,(.ret,rfi_T0_hit x th wr plan i j c v)))] (body Tryz.f58) [.tmp 6,.tmp 7,.tmp 8] [Yad x,.agg [.sl false (.list .int) th,.sl false .int wr],.sl false .work plan] =
   some ([LF 40 (k_58 [1,0,1]) (Ygj x th wr plan 0) Ex.ret (rfi_T0_hit x th wr plan i j c v)],D.tup [D.I (i:Int),D.I (j:Int),D.bool true]):=by kernel_rfl
theorem rasT_bad (x:FBook)(e:Int) :
  Yai (MG 23) [(11,true)] [(9,.I e)] [] (body Tryz.f49) [.tmp 4] [Yad x,.bool true] =
   some ([CF 19 [Yad x] (D.I e),(e != (0:Int))=true],D.I e):=by kernel_rfl
theorem rasT_no (x:FBook)(g:Int) :
  Yai (MG 23) [] [(9,.I 0),(18,.tup [.bool false,.I g])] [] (body Tryz.f49) [.tmp 4] [Yad x,.bool true] =
   some ([CF 19 [Yad x] (D.I 0),CF 83 [Yag x.chain] (D.tup [D.bool false,D.I g])],D.I 72):=by kernel_rfl
theorem rasT_yes (x:FBook)(g:Int) :
  Yai (MG 23) [] [(9,.I 0),(18,.tup [.bool true,.I g])] [] (body Tryz.f49) [.tmp 4] [Yad x,.bool true] =
   some ([CF 19 [Yad x] (D.I 0),CF 83 [Yag x.chain] (D.tup [D.bool true,D.I g])],D.I 0):=by kernel_rfl
theorem rasF_bad (x:FBook)(e:Int) :
  Yai (MG 23) [(11,true)] [(9,.I e)] [] (body Tryz.f49) [.tmp 4] [Yad x,.bool false] =
   some ([CF 19 [Yad x] (D.I e),(e != (0:Int))=true],D.I e):=by kernel_rfl
theorem rasF_ask (x:FBook) :
  Yai (MG 23) [] [(9,.I 0)] [] (body Tryz.f49) [.tmp 4] [Yad x,.bool false] =
   some ([CF 19 [Yad x] (D.I 0)],D.I 71):=by kernel_rfl
theorem rLe_a (x:FBook)(plan:List Work)(s d:Int)(e:Int) :
  Yai (MG 44) [(32,true)] [(14,.bool false),(30,.I e)] [] (body Tryz.f17) [.tmp 8,.tmp 9] [Yad x,.sl false .work plan,.I s,.I d] =
   some ([CF 50 [Yad x,D.sl false E.work plan] (D.bool false),CF 49 [Yad x,D.bool false] (D.I e),(e != (0:Int))=true],D.tup [D.I 0,D.I e]):=by kernel_rfl
theorem rLe_b (x:FBook)(plan:List Work)(s d:Int)(e:Int) :
  Yai (MG 44) [(32,true)] [(14,.bool true),(21,.bool false),(30,.I e)] [] (body Tryz.f17) [.tmp 8,.tmp 9] [Yad x,.sl false .work plan,.I s,.I d] =
   some ([CF 50 [Yad x,D.sl false E.work plan] (D.bool true),Yae ((x.feet.length:Int)-(1:Int)),CF 51 [D.I s,D.I 0,D.I ((x.feet.length:Int)-(1:Int))] (D.bool false),CF 49 [Yad x,D.bool false] (D.I e),(e != (0:Int))=true],D.tup [D.I 0,D.I e]):=by kernel_rfl
theorem rLe_c (x:FBook)(plan:List Work)(s d:Int)(q:Bool)(e:Int) :
  Yai (MG 44) [(32,true)] [(14,.bool true),(21,.bool true),(28,.bool q),(30,.I e)] [] (body Tryz.f17) [.tmp 8,.tmp 9] [Yad x,.sl false .work plan,.I s,.I d] =
   some ([CF 50 [Yad x,D.sl false E.work plan] (D.bool true),Yae ((x.feet.length:Int)-(1:Int)),CF 51 [D.I s,D.I 0,D.I ((x.feet.length:Int)-(1:Int))] (D.bool true),CF 51 [D.I d,D.I 0,D.I x.chain.days] (D.bool q),CF 49 [Yad x,D.bool q] (D.I e),(e != (0:Int))=true],D.tup [D.I 0,D.I e]):=by kernel_rfl
theorem rLe_ok (x:FBook)(plan:List Work)(s d:Int)(th:List (List Int))(wr:List Int)(c v:Int) :
  Yai (MG 44) [] [(14,.bool true),(21,.bool true),(28,.bool true),(30,.I 0),(36,.agg [.sl false (.list .int) th,.sl false .int wr]),(41,.I c),(43,.I v)] [] (body Tryz.f17) [.tmp 8,.tmp 9] [Yad x,.sl false .work plan,.I s,.I d] =
   some ([CF 50 [Yad x,D.sl false E.work plan] (D.bool true),Yae ((x.feet.length:Int)-(1:Int)),CF 51 [D.I s,D.I 0,D.I ((x.feet.length:Int)-(1:Int))] (D.bool true),CF 51 [D.I d,D.I 0,D.I x.chain.days] (D.bool true),CF 49 [Yad x,D.bool true] (D.I 0),CF 53 [Yad x] (D.agg [D.sl false (E.list E.int) th,D.sl false E.int wr]),CF 54 [D.sl false E.work plan,D.I s,D.I d] (D.I c),CF 52 [Yad x,D.agg [D.sl false (E.list E.int) th,D.sl false E.int wr],D.I s,D.I c,D.I d] (D.I v)],D.tup [D.I v,D.I 0]):=by kernel_rfl
theorem rSa_err (x:FBook)(plan:List Work)(p:Bool)(e:Int) :
  Yai (MG 29) [(16,true)] [(13,.bool p),(14,.I e)] [] (body Tryz.f21) [.tmp 4,.tmp 5] [Yad x,.sl false .work plan] =
   some ([CF 50 [Yad x,D.sl false E.work plan] (D.bool p),CF 49 [Yad x,D.bool p] (D.I e),(e != (0:Int))=true],D.tup [D.bool false,D.I e]):=by kernel_rfl
theorem rSa_ok (x:FBook)(plan:List Work)(p:Bool)(th:List (List Int))(wr:List Int)(a b:Int)(t:Bool) :
  Yai (MG 29) [] [(13,.bool p),(14,.I 0),(21,.agg [.sl false (.list .int) th,.sl false .int wr]),(23,.tup [.I a,.I b,.bool t])] [] (body Tryz.f21) [.tmp 4,.tmp 5] [Yad x,.sl false .work plan] =
   some ([CF 50 [Yad x,D.sl false E.work plan] (D.bool p),CF 49 [Yad x,D.bool p] (D.I 0),CF 53 [Yad x] (D.agg [D.sl false (E.list E.int) th,D.sl false E.int wr]),CF 58 [Yad x,D.agg [D.sl false (E.list E.int) th,D.sl false E.int wr],D.sl false E.work plan] (D.tup [D.I a,D.I b,D.bool t])],D.tup [D.bool !t,D.I 0]):=by kernel_rfl
theorem rFi_err (x:FBook)(plan:List Work)(p:Bool)(e:Int) :
  Yai (MG 32) [(17,true)] [(14,.bool p),(15,.I e)] [] (body Tryz.f23) [.tmp 4,.tmp 5,.tmp 6] [Yad x,.sl false .work plan] =
   some ([CF 50 [Yad x,D.sl false E.work plan] (D.bool p),CF 49 [Yad x,D.bool p] (D.I e),(e != (0:Int))=true],D.tup [D.I 0,D.I 0,D.I e]):=by kernel_rfl
theorem rFi_none (x:FBook)(plan:List Work)(p:Bool)(th:List (List Int))(wr:List Int)(a b:Int) :
  Yai (MG 32) [] [(14,.bool p),(15,.I 0),(22,.agg [.sl false (.list .int) th,.sl false .int wr]),(24,.tup [.I a,.I b,.bool false])] [] (body Tryz.f23) [.tmp 4,.tmp 5,.tmp 6] [Yad x,.sl false .work plan] =
   some ([CF 50 [Yad x,D.sl false E.work plan] (D.bool p),CF 49 [Yad x,D.bool p] (D.I 0),CF 53 [Yad x] (D.agg [D.sl false (E.list E.int) th,D.sl false E.int wr]),CF 58 [Yad x,D.agg [D.sl false (E.list E.int) th,D.sl false E.int wr],D.sl false E.work plan] (D.tup [D.I a,D.I b,D.bool false])],D.tup [D.I 0,D.I 0,D.I 4]):=by kernel_rfl
theorem rFi_some (x:FBook)(plan:List Work)(p:Bool)(th:List (List Int))(wr:List Int)(a b:Int) :
  Yai (MG 32) [] [(14,.bool p),(15,.I 0),(22,.agg [.sl false (.list .int) th,.sl false .int wr]),(24,.tup [.I a,.I b,.bool true])] [] (body Tryz.f23) [.tmp 4,.tmp 5,.tmp 6] [Yad x,.sl false .work plan] =
   some ([CF 50 [Yad x,D.sl false E.work plan] (D.bool p),CF 49 [Yad x,D.bool p] (D.I 0),CF 53 [Yad x] (D.agg [D.sl false (E.list E.int) th,D.sl false E.int wr]),CF 58 [Yad x,D.agg [D.sl false (E.list E.int) th,D.sl false E.int wr],D.sl false E.work plan] (D.tup [D.I a,D.I b,D.bool true])],D.tup [D.I a,D.I b,D.I 0]):=by kernel_rfl
theorem lle_all (x:FBook)(plan:List Work)(n0 n1:Int)(k e c g a b h:Int)(p:Bool) :
  Yai (MG 103) [(44,false),(49,false),(55,false),(71,false),(75,false),(93,true),(98,true)] [(28,.tup [.I k,.I e]),(38,.tup [.I k,.I e]),(51,.I c),(53,.I c),(59,.tup [.bool p,.I g]),(65,.tup [.bool p,.I g]),(79,.tup [.I a,.I b,.I h]),(86,.tup [.I a,.I b,.I h])] [] (body Tryz.f8) [.tmp 10] [Yad x,.sl false .work plan,Yad x,.sl false .work plan,.agg [.I n0,.I n1]] =
   let Z0:Prop:=0+Int.toNat (0:Int)*1+1≤2;let Z1:Prop:=0+Int.toNat (1:Int)*1+1≤2;let Z2:=D.tup [D.I a,D.I b,D.I h];some ([(0:Int)≤(0:Int)∧(0:Int)<(Nat.cast:Nat→Int) 2,Z0,(0:Int)≤(1:Int)∧(1:Int)<(Nat.cast:Nat→Int) 2,Z1,CF 16 [Yad x,D.sl false E.work plan,D.I n0,D.I n1] (D.tup [D.I k,D.I e]),(0:Int)≤(0:Int)∧(0:Int)<(Nat.cast:Nat→Int) 2,Z0,(0:Int)≤(1:Int)∧(1:Int)<(Nat.cast:Nat→Int) 2,Z1,CF 17 [Yad x,D.sl false E.work plan,D.I n0,D.I n1] (D.tup [D.I k,D.I e]),(k != k)=false,(k != k)=false,(k != k)=false,(k != k)=false,(e != e)=false,(e != e)=false,CF 18 [Yad x] (D.I c),(e != e)=false,(e != e)=false,CF 19 [Yad x] (D.I c),(e != e)=false,(e != e)=false,(c != c)=false,CF 20 [Yad x,D.sl false E.work plan] (D.tup [D.bool p,D.I g]),CF 21 [Yad x,D.sl false E.work plan] (D.tup [D.bool p,D.I g]),(!p==p)=false,(!p==p)=false,(!p==p)=false,(!p==p)=false,(g != g)=false,CF 22 [Yad x,D.sl false E.work plan] Z2,CF 23 [Yad x,D.sl false E.work plan] Z2,(a==a)=true,(a==a)=true,(a==a)=true,(a==a)=true,(b==b)=true,(b==b)=true,(b==b)=true,(b==b)=true],D.bool (h==h)):=by kernel_rfl
theorem lLe_all (x:FBook)(plan:List Work)(n0 n1:Int) :
  Yai (MG 32) [] [(10,Yad x),(12,.sl false .work plan),(18,.bool true),(22,.bool true),(27,.bool true),(30,.bool true)] [] (body Tryz.f3) [.tmp 6] [Yad x,.sl false .work plan,.agg [.I n0,.I n1]] =
   some ([CF 6 [Yad x] (Yad x),CF 7 [D.sl false E.work plan] (D.sl false E.work plan),0+2≤2,CF 8 [Yad x,D.sl false E.work plan,Yad x,D.sl false E.work plan,D.agg [D.I n0,D.I n1]] (D.bool true),CF 9 [Yad x,Yad x] (D.bool true),CF 10 [D.sl false E.work plan,D.sl false E.work plan] (D.bool true),CF 11 [] (D.bool true)],D.bool true):=by kernel_rfl
end Go.Di

namespace Go.Di
open Proofs
theorem rThickU_con {b:Book}(hV:Valid b)(hc:canF b=true){s d:Int}(hs:0≤s∧s<b.secs.length)(hd:0≤d∧d≤b.days):CF 87 [Yag b,.int .i64 s,.int .i64 d] (.tup [spD (Ybn b (Yaj b []) b.turns s d),.int .i64 0]):=by
 have h:=rThickA_con (small_of hV) s d
 have h1:Yaf b s=true:=by unfold Yaf;rw[Yat];omega
 have h2:Yaw b d=true:=by unfold Yaw;rw[Yat];omega
 unfold askE at h
 rw[h1,h2,Bool.and_self,err_zero hV hc,show spanOr 0 (Ybn b (Yaj b []) b.turns s d)=Ybn b (Yaj b []) b.turns s d from if_pos rfl]at h
 exact h.up
theorem rWearU_con {b:Book}(hV:Valid b)(hc:canF b=true){s:Int}(hs:0≤s∧s<b.secs.length):CF 86 [Yag b,.int .i64 s] (.tup [spD (Yc2 (Ybe s) (Yaj b [])),.int .i64 0]):=by
 have h:=rWearA_con (small_of hV) s
 have h1:Yaf b s=true:=by unfold Yaf;rw[Yat];omega
 rw[h1,err_zero hV hc,show spanOr 0 (Yc2 (Ybe s) (Yaj b []))=Yc2 (Ybe s) (Yaj b []) from if_pos rfl]at h
 exact h.up
def rknIn (x:FBook)(i j:Nat)(y:Int)(r:List Int):List (List Int)→List Int→List (Key×Val)
 | [],[]=>rknAn_S2 x i j y r
 | [],z::l=>Yfu x i j y r z l
 | t::q,[]=>rknBn_S2 x i j y r t q
 | t::q,z::l=>Yft x i j y r t q z l
def rknS (x:FBook)(i:Nat):List Int→List (List Int)→List (Key×Val)
 | y::r,t::q=>Yg5 x i y r t q
 | _,_=>rknA_S0 x i
theorem rkn_in {x:FBook}(hV:Valid x.chain)(hc:canF x.chain=true)(i:Nat)(hi:i<x.chain.secs.length)(y:Int)(r:List Int)(th:List (List Int)) :
  LF 59 (k_53 [1,1,0,1,0,0,1,0,0,1,1,1,0,1]) (rknIn x i 0 y r th []) .normal (rknIn x i (x.chain.days+1).toNat y r th (Ydv x i (x.chain.days+1).toNat)):=by
 have hd:=hV.days
 refine LG.each (id:=2) (c:=k_53 [1,1,0,1,0,0,1,0,0,1,1,1,0,1,0,0]) (by kernel_rfl) (x.chain.days+1).toNat (fun j=>rknIn x i j y r th (Ydv x i j)) (fun j hj=>?_) ?_
 ·have hth:=rThickU_con hV hc (s:=(i:Int)) (d:=(j:Int)) (by omega) (by omega)
  have hn:Ydv x i (j+1)=Ydv x i j++[(Ybn x.chain (Yaj x.chain []) x.chain.turns i j).lo]:=Ye7 _ j
  have hlen:(Ydv x i j).length≤31:=by unfold Ydv;rw[List.length_map,List.length_range];omega
  simp only[hn]
  cases th with
  | nil =>
   cases hl:Ydv x i j with
   | nil=>exact⟨_,_,_,_,_,_,rknAn_2_on x i j y r (Ybn x.chain (Yaj x.chain []) x.chain.turns i j) 0,⟨decide_eq_true (by omega),hth,by omega,by omega,Yap (by omega) (by omega),trivial⟩,rfl⟩
   | cons z l =>
    rw[hl]at hlen
    exact⟨_,_,_,_,_,_,rknAo_2_on x i j y r z l (Ybn x.chain (Yaj x.chain []) x.chain.turns i j) 0,⟨decide_eq_true (by omega),hth,by omega,rfl,by rw[List.length_append];simp only[List.length_cons,List.length_nil]at hlen ⊢;omega,Yap (by omega) (by omega),trivial⟩,rfl⟩
  | cons t q =>
   cases hl:Ydv x i j with
   | nil=>exact⟨_,_,_,_,_,_,rknBn_2_on x i j y r t q (Ybn x.chain (Yaj x.chain []) x.chain.turns i j) 0,⟨decide_eq_true (by omega),hth,by omega,by omega,Yap (by omega) (by omega),trivial⟩,rfl⟩
   | cons z l =>
    rw[hl]at hlen
    exact⟨_,_,_,_,_,_,rknBo_2_on x i j y r t q z l (Ybn x.chain (Yaj x.chain []) x.chain.turns i j) 0,⟨decide_eq_true (by omega),hth,by omega,rfl,by rw[List.length_append];simp only[List.length_cons,List.length_nil]at hlen ⊢;omega,Yap (by omega) (by omega),trivial⟩,rfl⟩
 ·have hf:decide ((((x.chain.days+1).toNat:Nat):Int)≤x.chain.days)=false:=decide_eq_false (by omega)
  cases th with
  | nil=>cases Ydv x i (x.chain.days+1).toNat with
   | nil=>exact⟨_,_,_,_,_,_,_,rknAn_2_end x i _ y r,⟨hf,trivial⟩,.inl ⟨rfl,rfl⟩,rfl⟩
   | cons z l=>exact⟨_,_,_,_,_,_,_,rknAo_2_end x i _ y r z l,⟨hf,trivial⟩,.inl ⟨rfl,rfl⟩,rfl⟩
  | cons t q=>cases Ydv x i (x.chain.days+1).toNat with
   | nil=>exact⟨_,_,_,_,_,_,_,rknBn_2_end x i _ y r t q,⟨hf,trivial⟩,.inl ⟨rfl,rfl⟩,rfl⟩
   | cons z l=>exact⟨_,_,_,_,_,_,_,rknBo_2_end x i _ y r t q z l,⟨hf,trivial⟩,.inl ⟨rfl,rfl⟩,rfl⟩
theorem rkn_con {x:FBook}(hV:FValid x)(hc:canF x.chain=true):CF 53 [Yad x] (.agg [.sl false (.list .int) (Ybp x),.sl false .int (Ybo x)]):=by
 have hC:=hV.chain
 have hd:=hC.days
 have hn:=hC.secs
 have hfe:=hV.feet
 have hloop:LF 59 (k_53 [1,1,0,1]) (rknS x 0 (wrTo x 0) (thTo x 0)) .normal (rknS x x.feet.length (wrTo x x.feet.length) (thTo x x.feet.length)):=by
  refine LG.each (id:=0) (c:=k_53 [1,1,0,1,0,0]) (by kernel_rfl) x.feet.length (fun i=>rknS x i (wrTo x i) (thTo x i)) (fun i hi=>?_) ?_
  ·have hw:=rWearU_con hC hc (s:=(i:Int)) (by omega)
   have e1:wrTo x (i+1)=wrTo x i++[(Yc2 (Ybe (i:Int)) (Yaj x.chain [])).hi]:=Ye7 _ i
   have e2:thTo x (i+1)=thTo x i++[Ydv x i (x.chain.days+1).toNat]:=Ye7 _ i
   have hrow:∃ z l,Ydv x i (x.chain.days+1).toNat=z::l:=by
    cases h:Ydv x i (x.chain.days+1).toNat with
    | nil =>
     have:=congrArg List.length h
     unfold Ydv at this
     rw[List.length_map,List.length_range]at this
     simp at this
     omega
    | cons z l=>exact⟨z,l,rfl⟩
   obtain⟨z,l,hrow⟩:=hrow
   simp only[e1,e2]
   have hin:=rkn_in hC hc i (by omega)
   rw[hrow]at hin ⊢
   cases i with
   | zero=>exact⟨_,_,_,_,_,_,rknA_0_on x 0 (Yc2 (Ybe ((0:Nat):Int)) (Yaj x.chain [])) 0 (x.chain.days+1).toNat z l,⟨Yaq hi,hw,by omega,by omega,rfl,hin (Yc2 (Ybe ((0:Nat):Int)) (Yaj x.chain [])).hi [] [],rfl,by omega,rfl,Yap (by omega) (by omega),trivial⟩,rfl⟩
   | succ i =>
    have hwl:(wrTo x (i+1)).length=i+1:=by unfold wrTo;rw[List.length_map,List.length_range]
    have htl:(thTo x (i+1)).length=i+1:=by unfold thTo;rw[List.length_map,List.length_range]
    obtain⟨y,r,hy⟩:=List.exists_cons_of_length_eq_add_one hwl
    obtain⟨t,q,ht⟩:=List.exists_cons_of_length_eq_add_one htl
    rw[hy]at hwl
    rw[ht]at htl
    rw[hy,ht]
    exact⟨_,_,_,_,_,_,rknB_0_on x (i+1) y r t q (Yc2 (Ybe ((i+1:Nat):Int)) (Yaj x.chain [])) 0 (x.chain.days+1).toNat z l,⟨Yaq hi,hw,by omega,rfl,by rw[List.length_append,hwl,List.length_singleton];omega,rfl,hin y _ (t::q),rfl,rfl,by rw[List.length_append,htl,List.length_singleton];omega,rfl,Yap (by omega) (by omega),trivial⟩,rfl⟩
  ·have hwl:(wrTo x x.feet.length).length=(x.feet.length-1)+1:=by unfold wrTo;rw[List.length_map,List.length_range];omega
   have htl:(thTo x x.feet.length).length=(x.feet.length-1)+1:=by unfold thTo;rw[List.length_map,List.length_range];omega
   obtain⟨y,r,hy⟩:=List.exists_cons_of_length_eq_add_one hwl
   obtain⟨t,q,ht⟩:=List.exists_cons_of_length_eq_add_one htl
   rw[hy,ht]
   exact⟨_,_,_,_,_,_,_,rknB_0_end x _ y r t q,⟨Yaz,trivial⟩,.inl ⟨rfl,rfl⟩,rfl⟩
 have hwl:(wrTo x x.feet.length).length=(x.feet.length-1)+1:=by unfold wrTo;rw[List.length_map,List.length_range];omega
 have htl:(thTo x x.feet.length).length=(x.feet.length-1)+1:=by unfold thTo;rw[List.length_map,List.length_range];omega
 obtain⟨y,r,hy⟩:=List.exists_cons_of_length_eq_add_one hwl
 obtain⟨t,q,ht⟩:=List.exists_cons_of_length_eq_add_one htl
 have e1:Ybo x=y::r:=hy
 have e2:Ybp x=t::q:=ht
 rw[show rknS x 0 (wrTo x 0) (thTo x 0)=rknA_S0 x 0 from rfl,hy,ht,show rknS x x.feet.length (y::r) (t::q)=Yg5 x x.feet.length y r t q from rfl]at hloop
 rw[e1,e2]
 exact Yaa (GG 59) rknB_fn (rknB_all x x.feet.length y r t q) ⟨hloop,rfl,rfl,rfl,rfl,trivial⟩
def chgOf (p:Int×Int):Int:=if p.1=0 then -1 else p.2
theorem rch_con {plan:List Work}(hl:plan.length≤1000)(s d:Int):CF 54 [.sl false .work plan,.int .i64 s,.int .i64 d] (.int .i64 (chgOf (lastF plan s d))):=by
 have hloop:LF 37 (k_54 [1,1,0,1]) (Yfx plan s d (-1) 0) .normal (Yfx plan s d (chgOf (lastF plan s d)) plan.length):=by
  refine LG.each (id:=0) (c:=k_54 [1,1,0,1,0,0]) (by kernel_rfl) plan.length (fun i=>Yfx plan s d (chgOf ((plan.take i).foldl (Ycc s d) (0,0))) i) (fun i hi=>?_) ⟨_,_,_,_,_,_,_,rch_0_end plan s d _ _,⟨Yaz,trivial⟩,.inl ⟨rfl,rfl⟩,by rw[List.take_length];rfl⟩
  have hf:=Yba (Ycc s d) plan (0,0) i Yak hi
  by_cases h1:(plan.getD i Yak).s=s
  ·have h1':((plan.getD i Yak).s==s)=true:=beq_iff_eq.2 h1
   by_cases h2:(plan.getD i Yak).d≤d
   ·have h2':decide ((plan.getD i Yak).d≤d)=true:=decide_eq_true h2
    refine⟨_,_,_,_,_,_,rch_0_yes plan s d _ i,?_,?_⟩
    ·repeat(first|exact trivial|refine⟨by first|exact h1'|exact h2'|exact Yaq hi|omega|exact Yap (by omega) (by omega),?_⟩)
    ·rw[hf,show Ycc s d _ _=(1,(plan.getD i Yak).d) from if_pos ⟨h1,h2⟩]
     rfl
   ·have h2':decide ((plan.getD i Yak).d≤d)=false:=decide_eq_false h2
    refine⟨_,_,_,_,_,_,rch_0_nob plan s d _ i,?_,?_⟩
    ·repeat(first|exact trivial|refine⟨by first|exact h1'|exact h2'|exact Yaq hi|omega|exact Yap (by omega) (by omega),?_⟩)
    ·rw[hf]
     unfold Ycc
     rw[if_neg (fun h=>h2 h.2)]
  ·have h1':((plan.getD i Yak).s==s)=false:=beq_eq_false_iff_ne.2 h1
   refine⟨_,_,_,_,_,_,rch_0_noa plan s d _ i,?_,?_⟩
   ·repeat(first|exact trivial|refine⟨by first|exact h1'|exact Yaq hi|omega|exact Yap (by omega) (by omega),?_⟩)
   ·rw[hf]
    unfold Ycc
    rw[if_neg (fun h=>h1 h.1)]
 exact Yaa (GG 37) rch_fn (rch_all plan s d _ _) ⟨hloop,trivial⟩
theorem rli_con {x:FBook}(hx:FIn x)(s d:Int)(hs:0≤s∧s<x.feet.length):CF 85 [Yad x,.int .i64 s,.int .i64 d] (.int .i64 (Yge x s d)):=by
 have ht:=hx.turns
 have hn:=hx.n
 refine Yaa (GG 33) rli_fn (rli_all x s d (Yge x s d) x.chain.turns.length) ⟨?_,trivial⟩
 refine LG.each (id:=0) (c:=k_85 [1,1,0,1,0,0]) (by kernel_rfl) x.chain.turns.length (fun i=>rli_S0 x s d (Ybz x.feet.length (x.chain.turns.take i) d s) i) (fun i hi=>?_) ⟨_,_,_,_,_,_,_,rli_0_end x s d _ _,⟨Yaz,trivial⟩,.inl ⟨rfl,rfl⟩,by rw[List.take_length];rfl⟩
 have hin:=placeF_in (turns:=x.chain.turns.take i) (day:=d) hs
 have hf:=Yba (fun s t=>if t≤d then(x.feet.length:Int)-1-s else s) x.chain.turns s i 0 hi
 by_cases hd:x.chain.turns.getD i 0≤d
 ·rw[if_pos hd]at hf
  exact⟨_,_,_,_,_,_,rli_0_yes x s d _ i,⟨Yaq hi,⟨by omega,by omega⟩,by omega,decide_eq_true hd,Yap (by omega) (by omega),Yap (by omega) (by omega),Yap (by omega) (by omega),trivial⟩,by unfold Ybz;rw[hf]⟩
 ·rw[if_neg hd]at hf
  exact⟨_,_,_,_,_,_,rli_0_no x s d _ i,⟨Yaq hi,⟨by omega,by omega⟩,by omega,decide_eq_false hd,Yap (by omega) (by omega),trivial⟩,by unfold Ybz;rw[hf]⟩
def knD (th:List (List Int))(wr:List Int):D:=.agg [.sl false (.list .int) th,.sl false .int wr]
theorem rold_con {x:FBook}{th:List (List Int)}{wr:List Int}(hk:KnOk x th wr)(s d:Int)(hs:0≤s∧s<x.feet.length)(hd:0≤d∧d≤x.chain.days):CF 52 [Yad x,knD th wr,.int .i64 s,.int .i64 (-1),.int .i64 d] (.int .i64 (oldF th s d)):=by
 have h1:=hk.tl
 have h2:=hk.row _ (Yc0 (i:=s.toNat) [] (show s.toNat<th.length by omega))
 exact Yaa (GG 42) rls_fn (rls_old x th wr s (-1) d) ⟨decide_eq_true (by decide),by omega,⟨hd.1,by show d<((th.getD s.toNat []).length:Int);omega⟩,by omega,trivial⟩
theorem rnew_con {x:FBook}{th:List (List Int)}{wr:List Int}(hx:FIn x)(hk:KnOk x th wr)(s c d:Int)(hs:0≤s∧s<x.feet.length)(hc:0≤c∧c≤d)(hd:d≤900):CF 52 [Yad x,knD th wr,.int .i64 s,.int .i64 c,.int .i64 d] (.int .i64 (Yew x wr s c (d-c).toNat)):=by
 have hloop:LF 42 (k_52 [1,1,1,0,1]) (rls_S0 x th wr s c d (Yew x wr s c 0) (c+((0:Nat):Int))) .normal (rls_S0 x th wr s c d (Yew x wr s c (d-c).toNat) (c+(((d-c).toNat:Nat):Int))):=by
  refine LG.each (id:=0) (c:=k_52 [1,1,1,0,1,0,0]) (by kernel_rfl) (d-c).toNat (fun i=>rls_S0 x th wr s c d (Yew x wr s c i) (c+(i:Int))) (fun i hi=>?_) ⟨_,_,_,_,_,_,_,rls_0_end x th wr s c d _ _,⟨decide_eq_false (by omega),trivial⟩,.inl ⟨rfl,rfl⟩,rfl⟩
  have h0:=ffresh_in hx hk hs c i
  have h1:=ffresh_in hx hk hs c (i+1)
  have hp:=fplace_in (c+i) hs
  have hl:=hk.wl
  exact⟨_,_,_,_,_,_,rls_0_on x th wr s c d _ _ (Yge x s (c+i)),⟨decide_eq_true (by omega),rli_con hx s _ hs,⟨hp.1,by omega⟩,by omega,by simp only[Yew]at h1;exact Yap (by omega) (by omega),Yap (by omega) (by omega),trivial⟩,by rw[show c+((i+1:Nat):Int)=c+(i:Int)+1 by omega];rfl⟩
 have e0:c+((0:Nat):Int)=c:=by omega
 rw[e0]at hloop
 exact Yaa (GG 42) rls_fn (rls_new x th wr s c d _ _) ⟨decide_eq_false (by omega),hloop,trivial⟩
theorem rleast_con {x:FBook}{th:List (List Int)}{wr:List Int}(hx:FIn x)(hk:KnOk x th wr){plan:List Work}(hp:PlanOk x plan)(s d:Int)(hs:0≤s∧s<x.feet.length)(hd:0≤d∧d≤x.chain.days) :
  CF 52 [Yad x,knD th wr,.int .i64 s,.int .i64 (chgOf (lastF plan s d)),.int .i64 d] (.int .i64 (Yc5 x th wr plan s d)):=by
 have hdd:=hx.days
 unfold Yc5 chgOf
 rcases last_cases plan s d with h|⟨h1,h2,w,hw,h3⟩
 ·rw[h,if_pos rfl,if_pos rfl]
  exact rold_con hk s d hs hd
 ·have hwd:=(hp.2 w hw).d
  rw[if_neg (by omega),if_neg (by omega)]
  exact rnew_con hx hk s _ d hs ⟨by omega,h2⟩ (by omega)
theorem rfi_con {x:FBook}{th:List (List Int)}{wr:List Int}(hx:FIn x)(hk:KnOk x th wr){plan:List Work}(hp:PlanOk x plan):CF 58 [Yad x,knD th wr,.sl false .work plan] (fthinR (fthinF x th wr plan)):=by
 have hn:=hx.n
 have hdd:=hx.days
 have hcode:k_58 [1,0,1]=.block 0 (.loop (k_58 [1,0,1,0,0])):=by kernel_rfl
 have hcode2:k_58 [1,0,1,0,0,1,0,0,1]=.block 2 (.loop (k_58 [1,0,1,0,0,1,0,0,1,0,0])):=by kernel_rfl
 have hch:=fun d s:Nat=>rch_con hp.1 (s:Int) (d:Int)
 have hle:∀ d s:Nat,(d:Int)≤x.chain.days→s<x.feet.length→CF 52 [Yad x,knD th wr,.int .i64 (s:Int),.int .i64 (chgOf (lastF plan s d)),.int .i64 (d:Int)] (.int .i64 (Yc5 x th wr plan s d)):=fun d s hd hs=>rleast_con hx hk hp s d ⟨by omega,by omega⟩ ⟨by omega,hd⟩
 have hin:∀(d:Nat),(d:Int)≤x.chain.days→∀ N≤x.feet.length,(∀ s<N,fbadF x th wr plan d s=false)→∀ {e:Ex} {L':List (Key×Val)},
   (∃ dec orc lorc ks ps e1 L1,runK (MG 40) dec orc lorc (k_58 [1,0,1,0,0,1,0,0,1,0,0]) (rfi_S2 x th wr plan d N) ks=some (ps,e1,L1)∧allP ps∧(e1=.exit 2∧e=.normal∨e1=.ret∧e=.ret)∧L1=L') →
   LF 40 (k_58 [1,0,1,0,0,1,0,0,1]) (rfi_S2 x th wr plan d 0) e L':=by
  intro d hd N hN hb e L' hfin
  refine LG.each (id:=2) hcode2 N (fun j=>rfi_S2 x th wr plan d j) (fun j hj=>?_) hfin
  exact⟨_,_,_,_,_,_,rfi_2_on x th wr plan d j _ (Yc5 x th wr plan j d),⟨Yaq (by omega),hch d j,hle d j hd (by omega),hb j hj,Yap (by omega) (by omega),trivial⟩,rfl⟩
 have hon:∀ d:Nat,(d:Int)≤x.chain.days→(∀ s<x.feet.length,fbadF x th wr plan d s=false)→∃ dec orc lorc ks ps L1,runK (MG 40) dec orc lorc (k_58 [1,0,1,0,0]) (Ygj x th wr plan d) ks=some (ps,.normal,L1)∧allP ps∧L1=Ygj x th wr plan (d+1):=fun d hd hb =>
  ⟨_,_,_,_,_,_,rfi_0_on x th wr plan d x.feet.length,⟨decide_eq_true (by omega),hin d hd _ (Nat.le_refl _) hb ⟨_,_,_,_,_,_,_,rfi_2_end x th wr plan d _,⟨Yaz,trivial⟩,.inl ⟨rfl,rfl⟩,rfl⟩,Yap (by omega) (by omega),trivial⟩,rfl⟩
 rcases fthin_cases x th wr plan with ⟨h1,h2⟩|⟨d,s,h1,h2,h3,h4,h5,h6⟩
 ·rw[h1]
  refine Yaa (GG 40) rfi_fn (rfi_none x th wr plan (x.chain.days+1).toNat) ⟨?_,trivial⟩
  exact LG.each (id:=0) hcode _ (fun d=>Ygj x th wr plan d) (fun d hd=>hon d (by omega) (h2 d (by omega))) ⟨_,_,_,_,_,_,_,rfi_0_end x th wr plan _,⟨decide_eq_false (by omega),trivial⟩,.inl ⟨rfl,rfl⟩,rfl⟩
 ·rw[h1]
  refine Yaa (GG 40) rfi_fn (rfi_hit x th wr plan d s (chgOf (lastF plan s d)) (Yc5 x th wr plan s d)) ⟨?_,trivial⟩
  refine LG.each (id:=0) hcode d (fun d=>Ygj x th wr plan d) (fun d' hd'=>hon d' (by omega) (h5 d' hd')) ⟨_,_,_,_,_,_,_,rfi_0_hit x th wr plan d s _ _,⟨decide_eq_true (by omega),?_,trivial⟩,.inr ⟨rfl,rfl⟩,rfl⟩
  exact hin d h2 s (by omega) h6 ⟨_,_,_,_,_,_,_,rfi_2_hit x th wr plan d s _ _,⟨Yaq h3,hch d s,hle d s h2 h3,h4,trivial⟩,.inr ⟨rfl,rfl⟩,rfl⟩
end Go.Di

namespace Go.Di
open Proofs
theorem ras_con {x:FBook}(hs:FSmall x)(ok:Bool):CF 49 [Yad x,.bool ok] (.int .i64 (Yb7 x ok)):=by
 have hch:=rCk_con hs
 unfold fcheckF at hch
 unfold Yb7
 cases hv:Ydb x with
 | false =>
  rw[hv]at hch
  rw[if_pos rfl]
  cases ok with
  | false=>exact Yaa (GG 23) rasF_fn (rasF_bad x 70) ⟨hch,rfl,trivial⟩
  | true=>exact Yaa (GG 23) rasT_fn (rasT_bad x 70) ⟨hch,rfl,trivial⟩
 | true =>
  rw[hv]at hch
  have hV:=Ydt.1 hv
  have hr:=(rRightA_con hs.chain).up
  rw[Ycq.2 hV.chain,Bool.true_and]at hr
  cases ok with
  | false=>exact Yaa (GG 23) rasF_fn (rasF_ask x) ⟨hch,trivial⟩
  | true =>
   cases hc:canF x.chain with
   | false =>
    rw[hc]at hr
    exact Yaa (GG 23) rasT_fn (rasT_no x _) ⟨hch,hr,trivial⟩
   | true =>
    rw[hc]at hr
    exact Yaa (GG 23) rasT_fn (rasT_yes x _) ⟨hch,hr,trivial⟩
theorem ferr_any {x:FBook}(hv:Ydb x=false)(p q:Bool):Yb7 x p=Yb7 x q:=by
 unfold Yb7
 rw[if_pos hv,if_pos hv]
end Go.Di

namespace Go.Di
open Proofs
theorem rLe_con {x:FBook}(hs:FSmall x){plan:List Work}(hl:plan.length≤9223372036854775807)(s d:Int) :
  CF 17 [Yad x,.sl false .work plan,.int .i64 s,.int .i64 d] (.tup [.int .i64 (Yhj x plan s d).1,.int .i64 (Yhj x plan s d).2]):=by
 have c0:=rPlanS_con hs hl
 have c1:=(Ybc s 0 (x.feet.length-1)).up
 have c2:=(Ybc d 0 x.chain.days).up
 have hf:=hs.feet
 have hi64:Yae ((x.feet.length:Int)-1):=by simp only[Yae];omega
 have hq:Yb7 x (rplanF x plan&&Yab s 0 (x.feet.length-1)&&Yab d 0 x.chain.days)=Yb7 x (Ygo x plan s d):=by
  cases hv:Ydb x with
  | false=>exact ferr_any hv _ _
  | true=>unfold Ygo;rw[rplan_eq (Ydt.1 hv)]
 have ha:=ras_con hs (rplanF x plan&&Yab s 0 (x.feet.length-1)&&Yab d 0 x.chain.days)
 rw[hq]at ha
 unfold Yhj
 by_cases he:Yb7 x (Ygo x plan s d)=0
 ·obtain⟨hV,h1,h2,_⟩:=ferr_ok he
  obtain⟨h4,h5,h6⟩:=least_of h1
  have hb:=h1
  unfold Ygo at hb
  rw[←rplan_eq hV,Bool.and_eq_true,Bool.and_eq_true]at hb
  obtain⟨⟨b1,b2⟩,b3⟩:=hb
  rw[b1,b2,b3,he]at ha
  rw[b1]at c0
  rw[b2]at c1
  rw[b3]at c2
  rw[if_pos he]
  have hp:=((Yds hV).1 h4).ok hV.inn
  have hk:=know_ok hV h2
  exact Yaa (GG 44) rLe_fn (rLe_ok x plan s d _ _ _ _) ⟨c0,hi64,c1,c2,ha,rkn_con hV h2,rch_con hp.1 s d,rleast_con hV.inn hk hp s d h5 h6,trivial⟩
 ·rw[if_neg he]
  have hne:(Yb7 x (Ygo x plan s d) != 0)=true:=bne_iff_ne.2 he
  cases h1:rplanF x plan with
  | false =>
   rw[h1]at c0 ha
   exact Yaa (GG 44) rLe_fn (rLe_a x plan s d _) ⟨c0,ha,hne,trivial⟩
  | true =>
   rw[h1]at c0 ha
   cases h2:Yab s 0 (x.feet.length-1) with
   | false =>
    rw[h2]at c1 ha
    exact Yaa (GG 44) rLe_fn (rLe_b x plan s d _) ⟨c0,hi64,c1,ha,hne,trivial⟩
   | true =>
    rw[h2]at c1 ha
    exact Yaa (GG 44) rLe_fn (rLe_c x plan s d _ _) ⟨c0,hi64,c1,c2,ha,hne,trivial⟩
theorem rPlanErr {x:FBook}(hs:FSmall x)(plan:List Work):CF 49 [Yad x,.bool (rplanF x plan)] (.int .i64 (Yb7 x (Ygc x plan))):=by
 have ha:=ras_con hs (rplanF x plan)
 have hq:Yb7 x (rplanF x plan)=Yb7 x (Ygc x plan):=by
  cases hv:Ydb x with
  | false=>exact ferr_any hv _ _
  | true=>rw[rplan_eq (Ydt.1 hv)]
 rwa [hq]at ha
theorem rFi_con {x:FBook}(hs:FSmall x){plan:List Work}(hl:plan.length≤9223372036854775807) :
  CF 23 [Yad x,.sl false .work plan] (.tup [.int .i64 (Ycu x plan).1,.int .i64 (Ycu x plan).2.1,.int .i64 (Ycu x plan).2.2]):=by
 have c0:=rPlanS_con hs hl
 have ha:=rPlanErr hs plan
 unfold Ycu
 by_cases he:Yb7 x (Ygc x plan)=0
 ·obtain⟨hV,h1,h2,_⟩:=ferr_ok he
  rw[he]at ha
  rw[if_pos he]
  have hp:=((Yds hV).1 h1).ok hV.inn
  have hf:=rfi_con hV.inn (know_ok hV h2) hp
  cases ht:fthinF x (Ybp x) (Ybo x) plan with
  | none =>
   rw[ht]at hf
   exact Yaa (GG 32) rFi_fn (rFi_none x plan _ _ _ 0 0) ⟨c0,ha,rkn_con hV h2,hf,trivial⟩
  | some p =>
   obtain⟨d,s⟩:=p
   rw[ht]at hf
   exact Yaa (GG 32) rFi_fn (rFi_some x plan _ _ _ d s) ⟨c0,ha,rkn_con hV h2,hf,trivial⟩
 ·rw[if_neg he]
  exact Yaa (GG 32) rFi_fn (rFi_err x plan _ _) ⟨c0,ha,bne_iff_ne.2 he,trivial⟩
theorem rSa_con {x:FBook}(hs:FSmall x){plan:List Work}(hl:plan.length≤9223372036854775807):CF 21 [Yad x,.sl false .work plan] (.tup [.bool (fSafeF x plan).1,.int .i64 (fSafeF x plan).2]):=by
 have c0:=rPlanS_con hs hl
 have ha:=rPlanErr hs plan
 unfold fSafeF Ycu
 by_cases he:Yb7 x (Ygc x plan)=0
 ·obtain⟨hV,h1,h2,_⟩:=ferr_ok he
  rw[he]at ha
  rw[if_pos he]
  have hp:=((Yds hV).1 h1).ok hV.inn
  have hf:=rfi_con hV.inn (know_ok hV h2) hp
  cases ht:fthinF x (Ybp x) (Ybo x) plan with
  | none =>
   rw[ht]at hf
   exact Yaa (GG 29) rSa_fn (rSa_ok x plan _ _ _ 0 0 false) ⟨c0,ha,rkn_con hV h2,hf,trivial⟩
  | some p =>
   obtain⟨d,s⟩:=p
   rw[ht]at hf
   exact Yaa (GG 29) rSa_fn (rSa_ok x plan _ _ _ d s true) ⟨c0,ha,rkn_con hV h2,hf,trivial⟩
 ·have h4:Yb7 x (Ygc x plan)≠4:=by
   rcases ferr_cases (x:=x) (Ygc x plan) with ⟨_,h⟩|⟨_,_,h⟩|⟨_,_,_,h⟩|⟨_,_,_,h⟩<;>rw[h]<;>decide
  rw[if_neg he,if_neg he,if_neg h4]
  exact Yaa (GG 29) rSa_fn (rSa_err x plan _ _) ⟨c0,ha,bne_iff_ne.2 he,trivial⟩
theorem lle_con {x:FBook}(hs:FSmall x){plan:List Work}(hl:plan.length≤9223372036854775807)(n0 n1:Int):CF 8 [Yad x,.sl false .work plan,Yad x,.sl false .work plan,.agg [.int .i64 n0,.int .i64 n1]] (.bool true):=by
 have c1:=fLeast_con hs hl n0 n1
 have c2:=rLe_con hs hl n0 n1
 have c3:=fcheck_con hs
 have c4:=rCk_con hs
 have c5:=fSafe_con hs hl
 have c6:=rSa_con hs hl
 have c7:=fFirst_con hs hl
 have c8:=rFi_con hs hl
 generalize (Yhj x plan n0 n1).1=k at c1 c2
 generalize (Yhj x plan n0 n1).2=e at c1 c2
 generalize fcheckF x=c at c3 c4
 generalize (fSafeF x plan).1=p at c5 c6
 generalize (fSafeF x plan).2=g at c5 c6
 generalize (Ycu x plan).1=a at c7 c8
 generalize (Ycu x plan).2.1=b at c7 c8
 generalize (Ycu x plan).2.2=h at c7 c8
 have e1:(k != k)=false:=by simp
 have e2:(e != e)=false:=by simp
 have e3:(c != c)=false:=by simp
 have e4:(!p==p)=false:=by simp
 have e5:(g != g)=false:=by simp
 have e6:(a==a)=true:=by simp
 have e7:(b==b)=true:=by simp
 have e8:(h==h)=true:=by simp
 rw[←e8]
 exact Yaa (GG 103) lle_fn (lle_all x plan n0 n1 k e c g a b h p) (by repeat(first|exact trivial|refine⟨by first|exact c1|exact c2|exact c3|exact c4|exact c5|exact c6|exact c7|exact c8|exact e1|exact e2|exact e3|exact e4|exact e5|exact e6|exact e7|omega|decide,?_⟩))
theorem lLe_con {x:FBook}(hs:FSmall x)(hr:FRoom x){plan:List Work}(hl:plan.length≤9223372036854775807)(hw:plan.length*16≤140737488355328)(n0 n1:Int):CF 3 [Yad x,.sl false .work plan,.agg [.int .i64 n0,.int .i64 n1]] (.bool true) :=
 Yaa (GG 32) lLe_fn (lLe_all x plan n0 n1) ⟨oFor_con hr,oWk_con plan hw,by omega,lle_con hs hl n0 n1,kFor_con hs,kWk_con plan hl,riv_con,trivial⟩
end Go.Di

