/- Part 7: contracts are proved. No condition. -/
import Derived.Test.YtfkmodcjddfeiaaGreatDoorDi06
import Derived.Test.YtfkmodcjddfeiaaGreatDoorChecked
set_option linter.unusedVariables false
set_option linter.unusedSimpArgs false
namespace Go.Di
open Proofs
theorem Yan:PR.follows .mixedOrders=true:=Proofs.Tryz.checked.mixed
theorem G (n:Nat):Good PR (MP n):=good Yan Ya1
def Yb7 (n:Int)(turns:LI)(day s:Int):Int:=turns.foldl (fun s t=>if t<=day then n-1-s else s) s
theorem Ybm {α β:Type}(f:β->α->β)(l:List α)(x:β)(i:Nat)(d:α)(h:i<l.length):(l.take (i+1)).foldl f x=f ((l.take i).foldl f x) (l.getD i d):=by
 rw[List.take_add_one,List.foldl_append,List.getElem?_eq_getElem h,List.getD_eq_getElem?_getD,List.getElem?_eq_getElem h];rfl
theorem Yjg {n:Int}{turns:LI}{day s:Int}(h:0<=s/\s<n):0<=Yb7 n turns day s/\Yb7 n turns day s<n:=by
 unfold Yb7
 induction turns generalizing s with
 | nil=>exact h
 | cons t l ih =>
  simp only[List.foldl_cons];refine ih ?_
  split<;>omega
theorem Zsr (b:Book)(m:Mp)(ts:List TrC)(turns:LI)(s day:Int)(hs:0<=s/\s<b.secs.length)(hn:b.secs.length<=1000)(ht:turns.length<=1000) :
  Contract PR glob 156 [bkD b m ts,.I s,.I day,.z .int turns] (.I (Yb7 b.secs.length turns day s)):=by
 refine Yaa (G 29) Zzj (Zss b m ts turns s day turns.length (Yb7 b.secs.length turns day s)) ⟨?_,trivial⟩;show LoopT _ _ _ _ _ _ _;rw[show Zlr [1,0,1]=.block 0 (.loop (Zlr [1,0,1,0,0])) from by kernel_rfl];refine LoopT.rounds (tt:=Yac types) (S:=fun i:{i:Nat // i<=turns.length}=>Ykh b m ts turns s day i.1 (Yb7 b.secs.length (turns.take i.1) day s)) (fun i=>turns.length-i.1) ?_ ⟨0,Nat.zero_le _⟩;intro⟨i,hi⟩
 have hin:=Yjg (turns:=turns.take i) (day:=day) hs
 by_cases hlt:i<turns.length
 ·have hf:=Ybm (fun s t=>if t<=day then(b.secs.length:Int)-1-s else s) turns s i 0 hlt
  by_cases hd:turns.getD i 0<=day
  ·refine WpL.path (G 29) (Yym b m ts turns s day i _) ?_ ⟨⟨i+1,hlt⟩,?_,by dsimp only;omega⟩
   ·simp only[allP,decide_eq_true_eq,Yae,Int.toNat_natCast,E.z];refine⟨by omega,by omega,by omega,decide_eq_true hd,by omega,by omega,by omega,trivial⟩
   ·rw[if_pos hd]at hf;unfold Yb7 at *;rw[hf];rfl
  ·refine WpL.path (G 29) (Yyn b m ts turns s day i _) ?_ ⟨⟨i+1,hlt⟩,?_,by dsimp only;omega⟩
   ·simp only[allP,decide_eq_true_eq,decide_eq_false_iff_not,Yae,Int.toNat_natCast,E.z];refine⟨by omega,by omega,by omega,decide_eq_false hd,by omega,trivial⟩
   ·rw[if_neg hd]at hf;unfold Yb7 at *;rw[hf];rfl
 ·have he:i=turns.length:=by omega
  subst he;refine WpL.path (G 29) (Zdm b m ts turns s day _ _) ?_ ⟨rfl,?_⟩
  ·simp only[allP,decide_eq_false_iff_not];exact⟨by omega,trivial⟩
  ·rw[List.take_length];rfl
def spD (s:Span):D:=.agg [.int .i64 s.lo,.int .i64 s.hi]
def wD (a b c d:Int):D:=.agg [.int .i64 a,.int .i64 b,.int .i64 c,.int .i64 d]
def trD (t:TrC):D:=.agg (E.enc .trc t)
noncomputable abbrev Zto (p:List Nat):Code:=Code.at p (body Proofs.Tryz.f143)
noncomputable abbrev Ztn (p:List Nat):Code:=Code.at p (body Proofs.Tryz.f152)
noncomputable abbrev Ztp (p:List Nat):Code:=Code.at p (body Proofs.Tryz.f134)
theorem Zo4:FnOk PR (MP 3) 149 (body Tryz.f149) [.cell 0 161]:=by refine⟨Tryz.f149,?_,?_,?_,?_,?_⟩<;>kernel_rfl
theorem Xfu:FnOk PR (MP 2) 147 (body Tryz.f147) [.cell 0 180]:=by refine⟨Tryz.f147,?_,?_,?_,?_,?_⟩<;>kernel_rfl
theorem Xh5:FnOk PR (MP 2) 148 (body Tryz.f148) [.cell 0 180]:=by refine⟨Tryz.f148,?_,?_,?_,?_,?_⟩<;>kernel_rfl
theorem Xas:FnOk PR (MP 5) 154 (body Tryz.f154) [.tmp 2]:=by refine⟨Tryz.f154,?_,?_,?_,?_,?_⟩<;>kernel_rfl
theorem Xfc:FnOk PR (MP 5) 155 (body Tryz.f155) [.tmp 2]:=by refine⟨Tryz.f155,?_,?_,?_,?_,?_⟩<;>kernel_rfl
theorem Zz1:FnOk PR (MP 18) 143 (body Tryz.f143) [.tmp 4]:=by refine⟨Tryz.f143,?_,?_,?_,?_,?_⟩<;>kernel_rfl
theorem Xge:FnOk PR (MP 17) 131 (body Tryz.f131) [.cell 4 113]:=by refine⟨Tryz.f131,?_,?_,?_,?_,?_⟩<;>kernel_rfl
theorem Xft:FnOk PR (MP 17) 150 (body Tryz.f150) [.cell 4 113]:=by refine⟨Tryz.f150,?_,?_,?_,?_,?_⟩<;>kernel_rfl
theorem Zoj:FnOk PR (MP 32) 152 (body Tryz.f152) [.tmp 10]:=by refine⟨Tryz.f152,?_,?_,?_,?_,?_⟩<;>kernel_rfl
theorem Xc3:FnOk PR (MP 28) 134 (body Tryz.f134) [.cell 4 113]:=by refine⟨Tryz.f134,?_,?_,?_,?_,?_⟩<;>kernel_rfl
theorem Zpy:FnOk PR (MP 29) 151 (body Tryz.f151) [.cell 6 113]:=by refine⟨Tryz.f151,?_,?_,?_,?_,?_⟩<;>kernel_rfl
theorem Zxh:FnOk PR (MP 12) 136 (body Tryz.f136) [.cell 8 113]:=by refine⟨Tryz.f136,?_,?_,?_,?_,?_⟩<;>kernel_rfl
theorem Zig  :Yaj (MP 3) [] [] [] (body Tryz.f149) [.cell 0 161] [] =some ([0+4<=4,0+4<=4],D.agg [D.I 0,D.I 0,D.I 0,D.I 0]):=by kernel_rfl
theorem Xar  :Yaj (MP 2) [] [] [] (body Tryz.f147) [.cell 0 180] [] =some ([],D.agg [D.fn 154 [] []]):=by kernel_rfl
theorem Xfb  :Yaj (MP 2) [] [] [] (body Tryz.f148) [.cell 0 180] [] =some ([],D.agg [D.fn 155 [] []]):=by kernel_rfl
theorem Zt6 (s:Span) :Yaj (MP 5) [] [] [] (body Tryz.f154) [.tmp 2] [spD s] =some ([0+1+1<=2],D.I s.hi):=by kernel_rfl
theorem Zzt (s:Span) :Yaj (MP 5) [] [] [] (body Tryz.f155) [.tmp 2] [spD s] =some ([0+0+1<=2],D.I s.lo):=by kernel_rfl
def Ykj (a:Int)(xs:LI)(i:Nat)(a1:Int):KV :=
 [(.tmp 0,.d (.I a1)),
  (.tmp 4,.d (D.I 0)),
  (.tmp 7,.d (D.z E.int xs)),
  (.tmp 8,.d (D.I (((List.length xs:Nat):Int)))),
  (.tmp 9,.d (.I i))]
def Yvq:List Key:=[.tmp 0,.tmp 4,.tmp 7,.tmp 8,.tmp 9]
theorem Zll (a:Int)(xs:LI)(i:Nat)(a1:Int) :runK (MP 18) [(10,true)] [] [] (Zto [1,0,1,0,0]) (Ykj a xs i a1) Yvq =some ([decide ((i:Int)<((xs.length:Nat):Int))=true,(0:Int)<=(i:Int)/\(i:Int)<((xs.length:Nat):Int),0+1<=1,Yae ((i:Int)+(1:Int))],Ex.normal,[(.tmp 0,.d (D.I (List.foldl mn a1 [List.getD xs (Int.toNat ((i:Int))) (E.z E.int)]))),(.tmp 4,.d (D.I 0)),(.tmp 7,.d (D.z E.int xs)),(.tmp 8,.d (D.I (((xs.length:Nat):Int)))),(.tmp 9,.d (D.I ((i:Int)+(1:Int))))]):=by kernel_rfl
theorem Zdu (a:Int)(xs:LI)(i:Nat)(a1:Int) :runK (MP 18) [(10,false)] [] [] (Zto [1,0,1,0,0]) (Ykj a xs i a1) Yvq =some ([decide ((i:Int)<((xs.length:Nat):Int))=false],Ex.exit 0,[(.tmp 0,.d (D.I a1)),(.tmp 4,.d (D.I 0)),(.tmp 7,.d (D.z E.int xs)),(.tmp 8,.d (D.I (((xs.length:Nat):Int)))),(.tmp 9,.d (D.I ((i:Int))))]):=by kernel_rfl
theorem Ztd (a:Int)(xs:LI)(i:Nat)(a1:Int) :Yaj (MP 18) [] [] [(0,(Yvq,(.normal,Ykj a xs i a1)))] (body Tryz.f143) [.tmp 4] [.I a,.z .int xs] =some ([LoopT PR glob 18 (Zto [1,0,1]) (Ykj a xs 0 a) Ex.normal (Ykj a xs i a1)],D.I a1):=by kernel_rfl
theorem Xb2 (s t:Span) :Yaj (MP 17) [] [(15,.I (mn s.hi t.hi))] [] (body Tryz.f131) [.cell 4 113] [spD s,spD t] =some ([0+0+1<=2,0+0+1<=2,0+1+1<=2,0+1+1<=2,Contract PR glob 143 [D.I s.hi,D.z E.int [t.hi]] (D.I (mn s.hi t.hi)),0+2<=2],D.agg [D.I (List.foldl mx s.lo [t.lo]),D.I (mn s.hi t.hi)]):=by kernel_rfl
theorem Xaq (s t:Span) :Yaj (MP 17) [] [(10,.I (mn s.lo t.lo))] [] (body Tryz.f150) [.cell 4 113] [spD s,spD t] =some ([0+0+1<=2,0+0+1<=2,Contract PR glob 143 [D.I s.lo,D.z E.int [t.lo]] (D.I (mn s.lo t.lo)),0+1+1<=2,0+1+1<=2,0+2<=2],D.agg [D.I (mn s.lo t.lo),D.I (List.foldl mx s.hi [t.hi])]):=by kernel_rfl
def Yk8 (b:Book)(m:Mp)(ts:List TrC)(w0 w1 w2 w3:Int)(s day:Int)(turns:LI)(i:Nat)(n1:Int):KV :=
 [(.tmp 2,.d (D.I s)),
  (.tmp 4,.d (D.z E.int turns)),
  (.tmp 5,.d (D.ptr 5 0)),
  (.tmp 6,.d (D.ptr 6 0)),
  (.tmp 10,.d (D.I 0)),
  (.tmp 11,.d (.I n1)),
  (.tmp 17,.d (D.I day)),
  (.tmp 18,.d (.I i)),
  (.box 5,.bz [D.z E.sec (Book.secs b),D.z E.int (Book.turns b),D.z E.sv (Book.svs b),D.I (Book.rule b),D.I (Book.days b),D.map m,D.z E.trc ts]),
  (.box 6,.bz [D.I w0,D.I w1,D.I w2,D.I w3])]
def Za3:List Key:=[.tmp 2,.tmp 4,.tmp 5,.tmp 6,.tmp 10,.tmp 11,.tmp 17,.tmp 18,.box 5,.box 6]
theorem Zok (b:Book)(m:Mp)(ts:List TrC)(w0 w1 w2 w3:Int)(s day:Int)(turns:LI)(i:Nat)(n1:Int) :runK (MP 32) [(19,true)] [(26,.I (Yb7 b.secs.length turns i s))] [] (Ztn [1,1,1,0,1,0,0]) (Yk8 b m ts w0 w1 w2 w3 s day turns i n1) Za3 =some ([decide ((i:Int)<day)=true,Contract PR glob 156 [D.agg [D.z E.sec b.secs,D.z E.int b.turns,D.z E.sv b.svs,D.I b.rule,D.I b.days,D.map m,D.z E.trc ts],D.I s,D.I ((i:Int)),D.z E.int turns] (D.I (Yb7 (((b.secs.length:Nat):Int)) turns ((i:Int)) s)),(0:Int)<=Yb7 (((b.secs.length:Nat):Int)) turns ((i:Int)) s/\Yb7 (((b.secs.length:Nat):Int)) turns ((i:Int)) s<(Nat.cast:Nat->Int) 4,0+Int.toNat (Yb7 (((b.secs.length:Nat):Int)) turns ((i:Int)) s)*1+1<=4,Yae (n1+List.getD [w0,w1,w2,w3] (0+Int.toNat (Yb7 (((b.secs.length:Nat):Int)) turns ((i:Int)) s)*1) (0:Int)),Yae ((i:Int)+(1:Int))],Ex.normal,[(.tmp 2,.d (D.I s)),(.tmp 4,.d (D.z E.int turns)),(.tmp 5,.d (D.ptr 5 0)),(.tmp 6,.d (D.ptr 6 0)),(.tmp 10,.d (D.I 0)),(.tmp 11,.d (D.I (n1+List.getD [w0,w1,w2,w3] (0+Int.toNat (Yb7 (((b.secs.length:Nat):Int)) turns ((i:Int)) s)*1) (0:Int)))),(.tmp 17,.d (D.I day)),(.tmp 18,.d (D.I ((i:Int)+(1:Int)))),(.box 5,.bz [D.z E.sec b.secs,D.z E.int b.turns,D.z E.sv b.svs,D.I b.rule,D.I b.days,D.map m,D.z E.trc ts]),(.box 6,.bz [D.I w0,D.I w1,D.I w2,D.I w3])]):=by kernel_rfl
theorem Ys1 (b:Book)(m:Mp)(ts:List TrC)(w0 w1 w2 w3:Int)(s day:Int)(turns:LI)(i:Nat)(n1:Int) :runK (MP 32) [(19,false)] [] [] (Ztn [1,1,1,0,1,0,0]) (Yk8 b m ts w0 w1 w2 w3 s day turns i n1) Za3 =some ([decide ((i:Int)<day)=false],Ex.exit 0,[(.tmp 2,.d (D.I s)),(.tmp 4,.d (D.z E.int turns)),(.tmp 5,.d (D.ptr 5 0)),(.tmp 6,.d (D.ptr 6 0)),(.tmp 10,.d (D.I 0)),(.tmp 11,.d (D.I n1)),(.tmp 17,.d (D.I day)),(.tmp 18,.d (D.I ((i:Int)))),(.box 5,.bz [D.z E.sec b.secs,D.z E.int b.turns,D.z E.sv b.svs,D.I b.rule,D.I b.days,D.map m,D.z E.trc ts]),(.box 6,.bz [D.I w0,D.I w1,D.I w2,D.I w3])]):=by kernel_rfl
theorem Zoi (b:Book)(m:Mp)(ts:List TrC)(w0 w1 w2 w3:Int)(s day:Int)(turns:LI) :Yaj (MP 32) [(15,true)] [(14,wD 0 0 0 0)] [] (body Tryz.f152) [.tmp 10] [bkD b m ts,wD w0 w1 w2 w3,.I s,.I day,.z .int turns] =some ([0+4<=4,Contract PR glob 149 [] (D.agg [D.I 0,D.I 0,D.I 0,D.I 0]),eqI [w0,w1,w2,w3] [(0:Int),(0:Int),(0:Int),(0:Int)]=true],D.I 0):=by kernel_rfl
theorem Zwh (b:Book)(m:Mp)(ts:List TrC)(w0 w1 w2 w3:Int)(s day:Int)(turns:LI)(i:Nat)(n1:Int) :Yaj (MP 32) [(15,false)] [(14,wD 0 0 0 0)] [(0,(Za3,(.normal,Yk8 b m ts w0 w1 w2 w3 s day turns i n1)))] (body Tryz.f152) [.tmp 10] [bkD b m ts,wD w0 w1 w2 w3,.I s,.I day,.z .int turns] =some ([0+4<=4,Contract PR glob 149 [] (D.agg [D.I 0,D.I 0,D.I 0,D.I 0]),eqI [w0,w1,w2,w3] [(0:Int),(0:Int),(0:Int),(0:Int)]=false,LoopT PR glob 32 (Ztn [1,1,1,0,1]) (Yk8 b m ts w0 w1 w2 w3 s day turns 0 0) Ex.normal (Yk8 b m ts w0 w1 w2 w3 s day turns i n1)],D.I n1):=by kernel_rfl
def Yqa (b:Book)(m:Mp)(ts:List TrC)(f:FuncId)(fs:List D)(cs:List (List D))(x0:TrC)(o:Span)(i:Nat)(o1:Span):KV :=
 [(.tmp 1,.d (D.fn f fs cs)),
  (.tmp 4,.d (D.ptr 4 0)),
  (.tmp 5,.d (D.ptr 5 0)),
  (.tmp 15,.d (D.z E.trc ts)),
  (.tmp 16,.d (D.I (((List.length ts:Nat):Int)))),
  (.tmp 17,.d (.I i)),
  (.box 4,.bz [D.I 0,D.I 0]),
  (.box 5,.bx (some ⟨false,cellsOf (spD o1)⟩))]
def Zba:List Key:=[.tmp 1,.tmp 4,.tmp 5,.tmp 15,.tmp 16,.tmp 17,.box 4,.box 5]
theorem Zps (b:Book)(m:Mp)(ts:List TrC)(f:FuncId)(fs:List D)(cs:List (List D))(x0:TrC)(o:Span)(i:Nat)(o1:Span)(o2 o3:Span) :runK (MP 28) [(18,true)] [(24,spD o2),(25,spD o3)] [] (Ztp [1,1,0,1,0,0]) (Yqa b m ts f fs cs x0 o i o1) Zba =let Z0:=List.getD ts (Int.toNat ((i:Int))) (E.z E.trc);some ([decide ((i:Int)<((ts.length:Nat):Int))=true,(0:Int)<=(i:Int)/\(i:Int)<((ts.length:Nat):Int),0+12<=12,0+2<=2,0+12<=12,Contract PR glob f (fs++List.map weak [D.agg [D.I (TrC.w0 Z0),D.I (TrC.w1 Z0),D.I (TrC.w2 Z0),D.I (TrC.w3 Z0),D.I (Span.lo (TrC.f0 Z0)),D.I (Span.hi (TrC.f0 Z0)),D.I (Span.lo (TrC.f1 Z0)),D.I (Span.hi (TrC.f1 Z0)),D.I (Span.lo (TrC.f2 Z0)),D.I (Span.hi (TrC.f2 Z0)),D.I (Span.lo (TrC.f3 Z0)),D.I (Span.hi (TrC.f3 Z0))]]++List.map (fun cs ↦ D.ref cs 0) cs) (D.agg [D.I o2.lo,D.I o2.hi]),Contract PR glob 150 [D.agg [D.I o1.lo,D.I o1.hi],D.agg [D.I o2.lo,D.I o2.hi]] (D.agg [D.I o3.lo,D.I o3.hi]),Yae ((i:Int)+(1:Int))],Ex.normal,[(.tmp 1,.d (D.fn f fs cs)),(.tmp 4,.d (D.ptr 4 0)),(.tmp 5,.d (D.ptr 5 0)),(.tmp 15,.d (D.z E.trc ts)),(.tmp 16,.d (D.I (((ts.length:Nat):Int)))),(.tmp 17,.d (D.I ((i:Int)+(1:Int)))),(.box 4,.bz [D.I 0,D.I 0]),(.box 5,.bz [D.I o3.lo,D.I o3.hi])]):=by kernel_rfl
theorem Zii (b:Book)(m:Mp)(ts:List TrC)(f:FuncId)(fs:List D)(cs:List (List D))(x0:TrC)(o:Span)(i:Nat)(o1:Span) :runK (MP 28) [(18,false)] [] [] (Ztp [1,1,0,1,0,0]) (Yqa b m ts f fs cs x0 o i o1) Zba =some ([decide ((i:Int)<((ts.length:Nat):Int))=false],Ex.exit 0,[(.tmp 1,.d (D.fn f fs cs)),(.tmp 4,.d (D.ptr 4 0)),(.tmp 5,.d (D.ptr 5 0)),(.tmp 15,.d (D.z E.trc ts)),(.tmp 16,.d (D.I (((ts.length:Nat):Int)))),(.tmp 17,.d (D.I ((i:Int)))),(.box 4,.bz [D.I 0,D.I 0]),(.box 5,.bz [D.I o1.lo,D.I o1.hi])]):=by kernel_rfl
theorem Zxd (b:Book)(m:Mp)(ts:List TrC)(f:FuncId)(fs:List D)(cs:List (List D))(x0:TrC)(o:Span)(i:Nat)(o1:Span) :Yaj (MP 28) [] [(13,spD o)] [(0,(Zba,(.normal,Yqa b m ts f fs cs x0 o i o1)))] (body Tryz.f134) [.cell 4 113] [bkD b m ts,.fn f fs cs] =let Z0:=List.getD ts (Int.toNat (0:Int)) (E.z E.trc);some ([(0:Int)<=(0:Int)/\(0:Int)<((ts.length:Nat):Int),0+12<=12,Contract PR glob f (fs++List.map weak [D.agg [D.I (TrC.w0 Z0),D.I (TrC.w1 Z0),D.I (TrC.w2 Z0),D.I (TrC.w3 Z0),D.I (Span.lo (TrC.f0 Z0)),D.I (Span.hi (TrC.f0 Z0)),D.I (Span.lo (TrC.f1 Z0)),D.I (Span.hi (TrC.f1 Z0)),D.I (Span.lo (TrC.f2 Z0)),D.I (Span.hi (TrC.f2 Z0)),D.I (Span.lo (TrC.f3 Z0)),D.I (Span.hi (TrC.f3 Z0))]]++List.map (fun cs ↦ D.ref cs 0) cs) (D.agg [D.I o.lo,D.I o.hi]),LoopT PR glob 28 (Ztp [1,1,0,1]) [(.tmp 1,.d (D.fn f fs cs)),(.tmp 4,.d (D.ptr 4 0)),(.tmp 5,.d (D.ptr 5 0)),(.tmp 15,.d (D.z E.trc ts)),(.tmp 16,.d (D.I (((ts.length:Nat):Int)))),(.tmp 17,.d (D.I 0)),(.box 4,.bz [D.I 0,D.I 0]),(.box 5,.bz [D.I o.lo,D.I o.hi])] Ex.normal (Yqa b m ts f fs cs x0 o i o1),0+2<=2,0+2<=2],D.agg [D.I o1.lo,D.I o1.hi]):=by kernel_rfl
theorem Zio (b:Book)(m:Mp)(ts:List TrC)(s day:Int)(turns:LI)(x:TrC)(n:Int) :Yaj (MP 29) [] [(15,.I n)] [] (body Tryz.f151) [.cell 6 113] [trD x,.ref (cellsOf (bkD b m ts)) 0,.ref [.I s] 0,.ref [.I day] 0,.ref [.z .int turns] 0] =some ([0+0+4<=12,0+1<=1,0+1<=1,Contract PR glob 152 [D.agg [D.z E.sec b.secs,D.z E.int b.turns,D.z E.sv b.svs,D.I b.rule,D.I b.days,D.map m,D.z E.trc ts],D.agg [D.I (TrC.w0 x),D.I (TrC.w1 x),D.I (TrC.w2 x),D.I (TrC.w3 x)],D.I s,D.I day,D.z E.int turns] (D.I n),0+1<=1,(0:Int)<=s/\s<(Nat.cast:Nat->Int) 4,0+4+Int.toNat s*2+2<=12,0+0+1<=2,Yae (List.getD [TrC.w0 x,TrC.w1 x,TrC.w2 x,TrC.w3 x,Span.lo (TrC.f0 x),Span.hi (TrC.f0 x),Span.lo (TrC.f1 x),Span.hi (TrC.f1 x),Span.lo (TrC.f2 x),Span.hi (TrC.f2 x),Span.lo (TrC.f3 x),Span.hi (TrC.f3 x)] (0+4+Int.toNat s*2+0) (0:Int)-n),0+1+1<=2,Yae (List.getD [TrC.w0 x,TrC.w1 x,TrC.w2 x,TrC.w3 x,Span.lo (TrC.f0 x),Span.hi (TrC.f0 x),Span.lo (TrC.f1 x),Span.hi (TrC.f1 x),Span.lo (TrC.f2 x),Span.hi (TrC.f2 x),Span.lo (TrC.f3 x),Span.hi (TrC.f3 x)] (0+4+Int.toNat s*2+1) (0:Int)-n),0+2<=2],D.agg [D.I (List.getD [TrC.w0 x,TrC.w1 x,TrC.w2 x,TrC.w3 x,Span.lo (TrC.f0 x),Span.hi (TrC.f0 x),Span.lo (TrC.f1 x),Span.hi (TrC.f1 x),Span.lo (TrC.f2 x),Span.hi (TrC.f2 x),Span.lo (TrC.f3 x),Span.hi (TrC.f3 x)] (0+4+Int.toNat s*2+0) (0:Int)-n),D.I (List.getD [TrC.w0 x,TrC.w1 x,TrC.w2 x,TrC.w3 x,Span.lo (TrC.f0 x),Span.hi (TrC.f0 x),Span.lo (TrC.f1 x),Span.hi (TrC.f1 x),Span.lo (TrC.f2 x),Span.hi (TrC.f2 x),Span.lo (TrC.f3 x),Span.hi (TrC.f3 x)] (0+4+Int.toNat s*2+1) (0:Int)-n)]):=by kernel_rfl
theorem Zpv (b:Book)(m:Mp)(ts:List TrC)(s day:Int)(turns:LI)(o:Span) :Yaj (MP 12) [] [(11,spD o)] [] (body Tryz.f136) [.cell 8 113] [bkD b m ts,.I s,.I day,.z .int turns] =some ([Contract PR glob 134 [D.agg [D.z E.sec b.secs,D.z E.int b.turns,D.z E.sv b.svs,D.I b.rule,D.I b.days,D.map m,D.z E.trc ts],D.fn 151 [] [[D.z E.sec b.secs,D.z E.int b.turns,D.z E.sv b.svs,D.I b.rule,D.I b.days,D.map m,D.z E.trc ts],[D.I s],[D.I day],[D.z E.int turns]]] (D.agg [D.I o.lo,D.I o.hi]),0+2<=2],D.agg [D.I o.lo,D.I o.hi]):=by kernel_rfl
theorem Ym9:Contract PR glob 149 [] (wD 0 0 0 0) :=
 Yaa (G 3) Zo4 Zig ⟨by omega,by omega,trivial⟩
theorem Zhh:Contract PR glob 147 [] (.agg [.fn 154 [] []]):=Yaa (G 2) Xfu Xar trivial
theorem Zs9:Contract PR glob 148 [] (.agg [.fn 155 [] []]):=Yaa (G 2) Xh5 Xfb trivial
theorem Yzj (s:Span):Contract PR glob 154 [spD s] (.I s.hi):=Yaa (G 5) Xas (Zt6 s) ⟨by omega,trivial⟩
theorem Zg5 (s:Span):Contract PR glob 155 [spD s] (.I s.lo):=Yaa (G 5) Xfc (Zzt s) ⟨by omega,trivial⟩
def Zg8 (a:Int)(xs:LI):Int:=xs.foldl mn a
theorem Yyx (a:Int)(xs:LI)(hx:xs.length<=1000):Contract PR glob 143 [.I a,.z .int xs] (.I (Zg8 a xs)):=by
 refine Yaa (G 18) Zz1 (Ztd a xs xs.length (Zg8 a xs)) ⟨?_,trivial⟩;rw[show Zto [1,0,1]=.block 0 (.loop (Zto [1,0,1,0,0])) from by kernel_rfl];refine LoopT.rounds (tt:=Yac types) (S:=fun i:{i:Nat // i<=xs.length}=>Ykj a xs i.1 (Zg8 a (xs.take i.1))) (fun i=>xs.length-i.1) ?_ ⟨0,Nat.zero_le _⟩;intro⟨i,hi⟩
 by_cases hlt:i<xs.length
 ·have hf:=Ybm mn xs a i 0 hlt;refine WpL.path (G 18) (Zll a xs i _) ?_ ⟨⟨i+1,hlt⟩,?_,by dsimp only;omega⟩
  ·simp only[allP,decide_eq_true_eq,Yae];refine⟨by omega,by omega,by omega,by omega,trivial⟩
  ·unfold Zg8 at *;rw[hf];rfl
 ·have he:i=xs.length:=by omega
  subst he;refine WpL.path (G 18) (Zdu a xs _ _) ?_ ⟨rfl,?_⟩
  ·simp only[allP,decide_eq_false_iff_not];exact⟨by omega,trivial⟩
  ·rw[List.take_length];rfl
def bothF (s t:Span):Span:=⟨mx s.lo t.lo,mn s.hi t.hi⟩
def Ycp (s t:Span):Span:=⟨mn s.lo t.lo,mx s.hi t.hi⟩
theorem Zh3 (s t:Span):Contract PR glob 131 [spD s,spD t] (spD (bothF s t)) :=
 Yaa (G 17) Xge (Xb2 s t) ⟨by omega,by omega,by omega,by omega,Yyx s.hi [t.hi] (by simp),by omega,trivial⟩
theorem Xap (s t:Span):Contract PR glob 150 [spD s,spD t] (spD (Ycp s t)) :=
 Yaa (G 17) Xft (Xaq s t) ⟨by omega,by omega,Yyx s.lo [t.lo] (by simp),by omega,by omega,by omega,trivial⟩
def wF (w0 w1 w2 w3 p:Int):Int:=[w0,w1,w2,w3].getD p.toNat 0
def Yei (n w0 w1 w2 w3:Int)(turns:LI)(s:Int):Nat->Int
 | 0=>0
 | d+1=>Yei n w0 w1 w2 w3 turns s d+wF w0 w1 w2 w3 (Yb7 n turns d s)
theorem Xc2 {w0 w1 w2 w3 p:Int}(h0:0<=w0/\w0<=1000)(h1:0<=w1/\w1<=1000)(h2:0<=w2/\w2<=1000)(h3:0<=w3/\w3<=1000):0<=wF w0 w1 w2 w3 p/\wF w0 w1 w2 w3 p<=1000:=by
 unfold wF
 match p.toNat with
 | 0=>exact h0
 | 1=>exact h1
 | 2=>exact h2
 | 3=>exact h3
 | n+4=>simp
theorem Ylr {n w0 w1 w2 w3 s:Int}{turns:LI}(h0:0<=w0/\w0<=1000)(h1:0<=w1/\w1<=1000)(h2:0<=w2/\w2<=1000)(h3:0<=w3/\w3<=1000):∀ d:Nat,0<=Yei n w0 w1 w2 w3 turns s d/\Yei n w0 w1 w2 w3 turns s d<=1000*d
 | 0=>by simp[Yei]
 | d+1=>by
  have h:=Ylr (n:=n) (s:=s) (turns:=turns) h0 h1 h2 h3 d;have h':=Xc2 (p:=Yb7 n turns d s) h0 h1 h2 h3;simp only[Yei];omega
theorem Ys2 {n s:Int}{turns:LI}:∀ d:Nat,Yei n 0 0 0 0 turns s d=0
 | 0=>rfl
 | d+1=>by
  simp only[Yei];rw[Ys2 d]
  have:=Xc2 (w0:=0) (w1:=0) (w2:=0) (w3:=0) (p:=Yb7 n turns d s) (by omega) (by omega) (by omega) (by omega)
  unfold wF at *
  match (Yb7 n turns (↑d) s).toNat with
  | 0=>rfl
  | 1=>rfl
  | 2=>rfl
  | 3=>rfl
  | k+4=>simp
theorem Yn9:∀(a b:LI),eqI a b=true↔a=b
 | [],[]=>by simp[eqI]
 | x::a,y::b=>by simp[eqI,Yn9 a b]
 | [],_::_=>by simp[eqI]
 | _::_,[]=>by simp[eqI]
theorem Zfy (b:Book)(m:Mp)(ts:List TrC)(w0 w1 w2 w3:Int)(s day:Int)(turns:LI)(h0:0<=w0/\w0<=1000)(h1:0<=w1/\w1<=1000)(h2:0<=w2/\w2<=1000)(h3:0<=w3/\w3<=1000)
  (hs:0<=s/\s<b.secs.length) (hn:b.secs.length<=4) (ht:turns.length<=1000) (hd:day<=1000) :
  Contract PR glob 152 [bkD b m ts,wD w0 w1 w2 w3,.I s,.I day,.z .int turns] (.I (Yei b.secs.length w0 w1 w2 w3 turns s day.toNat)):=by
 by_cases hz:eqI [w0,w1,w2,w3] [0,0,0,0]=true
 ·have:=(Yn9 _ _).1 hz
  simp only[List.cons.injEq,and_true]at this;obtain⟨rfl,rfl,rfl,rfl⟩:=this;rw[Ys2];exact Yaa (G 32) Zoj (Zoi b m ts 0 0 0 0 s day turns) ⟨by omega,Ym9,hz,trivial⟩
 ·have hz:eqI [w0,w1,w2,w3] [0,0,0,0]=false:=by simpa using hz
  refine Yaa (G 32) Zoj (Zwh b m ts w0 w1 w2 w3 s day turns day.toNat _) ⟨by omega,Ym9,hz,?_,trivial⟩;rw[show Ztn [1,1,1,0,1]=.block 0 (.loop (Ztn [1,1,1,0,1,0,0])) from by kernel_rfl]
  by_cases hneg:day<=0
  ·refine LoopT.rounds (tt:=Yac types) (S:=fun _:Unit=>Yk8 b m ts w0 w1 w2 w3 s day turns 0 0) (fun _=>0) ?_ ();intro _;refine WpL.path (G 32) (Ys1 b m ts w0 w1 w2 w3 s day turns 0 0) ⟨by simp only[decide_eq_false_iff_not];omega,trivial⟩ ⟨rfl,?_⟩;rw[show day.toNat=0 by omega];rfl
  ·refine LoopT.rounds (tt:=Yac types) (S:=fun i:{i:Nat // i<=day.toNat}=>Yk8 b m ts w0 w1 w2 w3 s day turns i.1 (Yei b.secs.length w0 w1 w2 w3 turns s i.1)) (fun i=>day.toNat-i.1) ?_ ⟨0,Nat.zero_le _⟩;intro⟨i,hi⟩;have hin:=Yjg (turns:=turns) (day:=i) hs;have hw:=Ylr (n:=b.secs.length) (s:=s) (turns:=turns) h0 h1 h2 h3 i;have hw':=Xc2 (p:=Yb7 b.secs.length turns i s) h0 h1 h2 h3;have hix:(0+(Yb7 b.secs.length turns i s).toNat*1)=(Yb7 b.secs.length turns i s).toNat:=by omega
   by_cases hlt:i<day.toNat
   ·refine WpL.path (G 32) (Zok b m ts w0 w1 w2 w3 s day turns i _) ?_ ⟨⟨i+1,hlt⟩,?_,by dsimp only;omega⟩
    ·simp only[allP,decide_eq_true_eq,Yae];rw[hix];unfold wF at hw';refine⟨by omega,Zsr b m ts turns s i hs (by omega) ht,by omega,by omega,by omega,by omega,trivial⟩
    ·rw[hix];rfl
   ·have he:i=day.toNat:=by omega
    subst he;refine WpL.path (G 32) (Ys1 b m ts w0 w1 w2 w3 s day turns _ _) ⟨by simp only[decide_eq_false_iff_not];omega,trivial⟩ ⟨rfl,rfl⟩
def trc0:TrC:=⟨0,0,0,0,⟨0,0⟩,⟨0,0⟩,⟨0,0⟩,⟨0,0⟩⟩
def Ydf (g:TrC->Span)(ts:List TrC):Span:=ts.foldl (fun o t=>Ycp o (g t)) (g (ts.getD 0 trc0))
theorem Zf4 (b:Book)(m:Mp)(ts:List TrC)(f:FuncId)(fs:List D)(cs:List (List D))(g:TrC->Span)(hg:∀ t∈ts,Contract PR glob f (fs++[trD t]++cs.map fun cs=>.ref cs 0) (spD (g t)))
  (hne:ts≠[]) (hts:ts.length<=100000):Contract PR glob 134 [bkD b m ts,.fn f fs cs] (spD (Ydf g ts)):=by
 have hpos:0<ts.length:=List.length_pos_iff.2 hne
 have hmem:∀ i,i<ts.length->ts.getD i trc0∈ts:=fun i hi=>by
  rw[List.getD_eq_getElem?_getD,List.getElem?_eq_getElem hi];exact List.getElem_mem hi
 refine Yaa (G 28) Xc3 (Zxd b m ts f fs cs trc0 (g (ts.getD 0 trc0)) ts.length (Ydf g ts)) ⟨by omega,by omega,hg _ (hmem 0 hpos),?_,by omega,by omega,trivial⟩;rw[show Ztp [1,1,0,1]=.block 0 (.loop (Ztp [1,1,0,1,0,0])) from by kernel_rfl];refine LoopT.rounds (tt:=Yac types) (S:=fun i:{i:Nat // i<=ts.length}=>Yqa b m ts f fs cs trc0 (g (ts.getD 0 trc0)) i.1 ((ts.take i.1).foldl (fun o t=>Ycp o (g t)) (g (ts.getD 0 trc0)))) (fun i=>ts.length-i.1) ?_ ⟨0,Nat.zero_le _⟩
 intro⟨i,hi⟩
 by_cases hlt:i<ts.length
 ·have hf:=Ybm (fun o t=>Ycp o (g t)) ts (g (ts.getD 0 trc0)) i trc0 hlt;refine WpL.path (G 28) (Zps b m ts f fs cs trc0 (g (ts.getD 0 trc0)) i _ (g (ts.getD i trc0)) (Ycp ((ts.take i).foldl (fun o t=>Ycp o (g t)) (g (ts.getD 0 trc0))) (g (ts.getD i trc0)))) ?_ ⟨⟨i+1,hlt⟩,?_,by dsimp only;omega⟩
  ·refine⟨decide_eq_true (by omega),by omega,by omega,by omega,by omega,hg _ (hmem i hlt),Xap _ _,by simp only[Yae];omega,trivial⟩
  ·simp only;rw[hf];rfl
 ·have he:i=ts.length:=by omega
  subst he;refine WpL.path (G 28) (Zii b m ts f fs cs _ _ _ _) ⟨decide_eq_false (Int.lt_irrefl _),trivial⟩ ⟨rfl,?_⟩;rw[List.take_length];rfl
def Yah (b:Book):D:=.agg [.z .sec b.secs,.z .int b.turns,.z .sv b.svs,.int .i64 b.rule,.int .i64 b.days]
abbrev Yal (b:Book):List D:=[.z .sec b.secs,.z .int b.turns,.z .sv b.svs,.int .i64 b.rule,.int .i64 b.days]
def svD (x:Sv):D:=.agg [.int .i64 x.s,.int .i64 x.d,.int .i64 x.r,.int .i64 x.e]
def Yad (n lo hi:Int):Bool:=decide (lo<=n)&&decide (n<=hi)
def Yc6 (s:Span)(hi wide:Int):Bool:=decide (0<=s.lo)&&decide (s.lo<=s.hi)&&decide (s.hi<=hi)&&decide (s.hi-s.lo<=wide)
def Yaf (b:Book)(n:Int):Bool:=Yad n 0 (b.secs.length-1)
def Ya3 (b:Book)(n:Int):Bool:=Yad n 0 b.days
def Ybh (b:Book)(x:Sv):Bool:=Yaf b x.s&&Ya3 b x.d&&Yad x.r 0 200&&Yad x.e 0 5
def sec0:Sec:=⟨⟨0,0⟩,⟨0,0⟩⟩
def sv0:Sv:=⟨0,0,0,0⟩
end Go.Di
