/- Part 10: contracts are proved. No condition. -/
import Derived.Test.YtfkmodcjddfeiaaGreatDoorDi09
set_option linter.unusedVariables false
set_option linter.unusedSimpArgs false
namespace Go.Di
open Proofs
noncomputable abbrev Yli (p:List Nat):Code:=Code.at p (body Proofs.Tryz.f145)
def rops (c:Code):Array Oper:=match c with
 | .region _ ops _=>ops
 | _=>#[]
def rgKs:List Key:=[.tmp 2,.tmp 3,.tmp 4,.tmp 6,.tmp 7,.tmp 8,.box 3,.box 4,.box 6,.box 8]
def rgK2:List Key:=[.tmp 2,.tmp 3,.tmp 4,.tmp 6,.tmp 7,.tmp 8,.box 3,.box 4,.box 6,.box 8,.tmp 20]
def rgK4:List Key:=[.tmp 2,.tmp 3,.tmp 4,.tmp 6,.tmp 7,.tmp 8,.box 3,.box 4,.box 6,.box 8,.tmp 9,.tmp 10,.box 9,.box 10]
def rgS (b:Book)(l:List Ent)(ts:List TrC)(x0 x1 x2 x3 k:Int)(s:Span):KV :=
 [(.tmp 2,.d (.I k)),(.tmp 3,.d (D.ptr 3 0)),(.tmp 4,.d (D.ptr 4 0)),(.tmp 6,.d (D.ptr 6 0)),(.tmp 7,.d (D.bool false)),(.tmp 8,.d (D.ptr 8 0)),
  (.box 3,.bz [.z .sec b.secs,.z .int b.turns,.z .sv b.svs,.int .i64 b.rule,.int .i64 b.days,.map (.spot l),.z .trc ts]),
  (.box 4,.bz [.int .i64 x0,.int .i64 x1,.int .i64 x2,.int .i64 x3]),
  (.box 6,.bz [.int .i64 (0:Int),.int .i64 (0:Int)]),(.box 8,.bz [.int .i64 s.lo,.int .i64 s.hi])]
def rgP (b:Book)(l:List Ent)(ts:List TrC)(x0 x1 x2 x3 k:Int):KV :=
 [(.tmp 2,.d (.I k)),(.tmp 3,.d (D.ptr 3 0)),(.tmp 4,.d (D.ptr 4 0)),(.tmp 6,.d (D.ptr 6 0)),(.tmp 7,.d (D.bool false)),
  (.box 3,.bz [.z .sec b.secs,.z .int b.turns,.z .sv b.svs,.int .i64 b.rule,.int .i64 b.days,.map (.spot l),.z .trc ts]),
  (.box 4,.bz [.int .i64 x0,.int .i64 x1,.int .i64 x2,.int .i64 x3]),
  (.box 6,.bz [.int .i64 (0:Int),.int .i64 (0:Int)])]
def rgT (b:Book)(l:List Ent)(ts:List TrC)(x0 x1 x2 x3 k:Int)(s:Span)(e:Ent):KV :=
 rgS b l ts x0 x1 x2 x3 k s++[(.tmp 9,.d (D.ptr 9 0)),(.tmp 10,.d (D.ptr 10 0)),(.box 9,.bz [.int .i64 e.1.1,.int .i64 e.1.2]),(.box 10,.bz [.int .i64 e.2.lo,.int .i64 e.2.hi])]
theorem Xhb (b:Book)(l:List Ent)(ts:List TrC)(x0 x1 x2 x3 k:Int) :runK (MP 66) [] [] [] (Yli [0]) (entry 0 [bkD b (.spot l) ts,wD x0 x1 x2 x3,.I k]) [.tmp 2,.tmp 3,.tmp 4,.tmp 6,.tmp 7,.box 3,.box 4,.box 6] =some ([],.normal,rgP b l ts x0 x1 x2 x3 k):=by kernel_rfl
theorem Xhc (b:Book)(l:List Ent)(ts:List TrC)(x0 x1 x2 x3 k:Int) :runK (MP 66) [] [] [] (Yli [1,0]) (rgP b l ts x0 x1 x2 x3 k) rgKs =some ([(0:Int)<=k/\k<((b.secs.length:Nat):Int),0+0+2<=4],.normal,rgS b l ts x0 x1 x2 x3 k (b.secs.getD k.toNat sec0).t):=by kernel_rfl
theorem Xha (b:Book)(l:List Ent)(ts:List TrC)(x0 x1 x2 x3 k:Int)(s:Span) :Yi5 (MP 66) [] [] (rops (Yli [1,1,0,0])) ((rops (Yli [1,1,0,0])).toList.take 2) (rgS b l ts x0 x1 x2 x3 k s) rgK2 =some ([],rgS b l ts x0 x1 x2 x3 k s++[(.tmp 20,.d (.map (.spot l)))]):=by kernel_rfl
theorem Xd0 (b:Book)(l:List Ent)(ts:List TrC)(x0 x1 x2 x3 k:Int)(s:Span)(e:Ent)(ke:Nat->Prop)(w1:World)(fv:Nat->Value) :Yi5 (mkM PR (Yac types) glob 66 ke w1 [21] fv) [] [] (rops (Code.at ([1,1,0,1,0,0,1,1,0]++[0]) (body Tryz.f145))) ((rops (Code.at ([1,1,0,1,0,0,1,1,0]++[0]) (body Tryz.f145))).toList.drop 1) ((.tmp 24,.d (entD e))::rgS b l ts x0 x1 x2 x3 k s) rgK4 =some ([],rgT b l ts x0 x1 x2 x3 k s e):=by kernel_rfl
theorem Xdz (b:Book)(l:List Ent)(ts:List TrC)(x0 x1 x2 x3 k:Int)(s:Span)(e:Ent)(ke:Nat->Prop)(w1:World)(fv:Nat->Value) :runK (mkM PR (Yac types) glob 66 ke w1 [21] fv) [(30,false)] [] [] (Code.at ([1,1,0,1,0,0,1,1,0]++[1]) (body Tryz.f145)) (rgT b l ts x0 x1 x2 x3 k s e) rgKs =some ([0+2<=2,0+2<=2,(!eqI [Prod.fst (Prod.fst e),Prod.snd (Prod.fst e)] [-(1:Int),-(1:Int)])=false,(!eqI [Prod.fst (Prod.fst e),Prod.snd (Prod.fst e)] [-(1:Int),-(1:Int)])=false,(!eqI [Prod.fst (Prod.fst e),Prod.snd (Prod.fst e)] [-(1:Int),-(1:Int)])=false,(!eqI [Prod.fst (Prod.fst e),Prod.snd (Prod.fst e)] [-(1:Int),-(1:Int)])=false,(!eqI [Prod.fst (Prod.fst e),Prod.snd (Prod.fst e)] [-(1:Int),-(1:Int)])=false],.normal,rgS b l ts x0 x1 x2 x3 k s):=by kernel_rfl
theorem Zx8 (b:Book)(l:List Ent)(ts:List TrC)(x0 x1 x2 x3 k:Int)(s:Span)(e:Ent)(ke:Nat->Prop)(w1:World)(fv:Nat->Value) :runK (mkM PR (Yac types) glob 66 ke w1 [21] fv) [(30,true),(35,false)] [] [] (Code.at ([1,1,0,1,0,0,1,1,0]++[1]) (body Tryz.f145)) (rgT b l ts x0 x1 x2 x3 k s e) rgKs =some ([0+2<=2,0+2<=2,(!eqI [Prod.fst (Prod.fst e),Prod.snd (Prod.fst e)] [-(1:Int),-(1:Int)])=true,(!eqI [Prod.fst (Prod.fst e),Prod.snd (Prod.fst e)] [-(1:Int),-(1:Int)])=true,0+0+1<=2,(!eqI [Prod.fst (Prod.fst e),Prod.snd (Prod.fst e)] [-(1:Int),-(1:Int)])=true,(!eqI [Prod.fst (Prod.fst e),Prod.snd (Prod.fst e)] [-(1:Int),-(1:Int)])=true,(!eqI [Prod.fst (Prod.fst e),Prod.snd (Prod.fst e)] [-(1:Int),-(1:Int)])=true,(Prod.fst (Prod.fst e)==k)=false],.normal,rgS b l ts x0 x1 x2 x3 k s):=by kernel_rfl
theorem Xhd (b:Book)(l:List Ent)(ts:List TrC)(x0 x1 x2 x3 k:Int)(s:Span)(e:Ent)(ke:Nat->Prop)(w1:World)(fv:Nat->Value)(n:Int)(o:Span) :runK (mkM PR (Yac types) glob 66 ke w1 [21] fv) [(30,true),(35,true)] [(44,.I n),(55,spD o)] [] (Code.at ([1,1,0,1,0,0,1,1,0]++[1]) (body Tryz.f145)) (rgT b l ts x0 x1 x2 x3 k s e) rgKs =some ([0+2<=2,0+2<=2,(!eqI [Prod.fst (Prod.fst e),Prod.snd (Prod.fst e)] [-(1:Int),-(1:Int)])=true,(!eqI [Prod.fst (Prod.fst e),Prod.snd (Prod.fst e)] [-(1:Int),-(1:Int)])=true,0+0+1<=2,(!eqI [Prod.fst (Prod.fst e),Prod.snd (Prod.fst e)] [-(1:Int),-(1:Int)])=true,(!eqI [Prod.fst (Prod.fst e),Prod.snd (Prod.fst e)] [-(1:Int),-(1:Int)])=true,(!eqI [Prod.fst (Prod.fst e),Prod.snd (Prod.fst e)] [-(1:Int),-(1:Int)])=true,(Prod.fst (Prod.fst e)==k)=true,0+4<=4,0+1+1<=2,Contract PR glob 152 [bkD b (.spot l) ts,wD x0 x1 x2 x3,.I k,.I e.1.2,.z .int b.turns] (.I n),0+2<=2,0+0+1<=2,Yae (Span.lo (Prod.snd e)+n),0+1+1<=2,Yae (Span.hi (Prod.snd e)+n),Contract PR glob 131 [spD s,spD ⟨e.2.lo+n,e.2.hi+n⟩] (spD o)],.normal,rgS b l ts x0 x1 x2 x3 k o):=by kernel_rfl
theorem Xhe (b:Book)(l:List Ent)(ts:List TrC)(x0 x1 x2 x3 k:Int)(s:Span) :runK (MP 66) [] [(57,.agg [.fn 155 [] []]),(60,.I s.lo),(61,.agg [.fn 154 [] []]),(64,.I s.hi)] [] (Yli [1,1,1]) (rgS b l ts x0 x1 x2 x3 k s) [.tmp 6,.tmp 7,.box 6] =some ([0+2<=2,Contract PR glob 148 [] (D.agg [D.fn 155 [] []]),0+2<=2,Contract PR glob 155 [D.agg [D.I s.lo,D.I s.hi]] (D.I s.lo),Contract PR glob 147 [] (D.agg [D.fn 154 [] []]),0+2<=2,Contract PR glob 154 [D.agg [D.I s.lo,D.I s.hi]] (D.I s.hi)],Ex.ret,[(.tmp 6,.d (D.ptr 6 0)),(.tmp 7,.d (D.bool (decide (s.lo<=s.hi)))),(.box 6,.bz [D.I s.lo,D.I s.hi])]):=by kernel_rfl
theorem Zx7:FnOk PR (MP 66) 145 (body Tryz.f145) [.cell 6 113,.tmp 7]:=by refine⟨Tryz.f145,?_,?_,?_,?_,?_⟩<;>kernel_rfl
end Go.Di
namespace Go.Di
open Proofs
def Ybb (b:Book)(x0 x1 x2 x3 k:Int)(s:Span)(e:Ent):Span :=
 if eqI [e.1.1,e.1.2] [-1,-1]=false/\(e.1.1==k)=true then bothF s ⟨e.2.lo+Yei b.secs.length x0 x1 x2 x3 b.turns k e.1.2.toNat,e.2.hi+Yei b.secs.length x0 x1 x2 x3 b.turns k e.1.2.toNat⟩ else s
def Yb2 (b:Book)(l:List Ent)(x0 x1 x2 x3 k:Int):Span:=l.foldl (Ybb b x0 x1 x2 x3 k) (b.secs.getD k.toNat sec0).t
theorem Zzq (a b c:Int):mx (mx a b) c=mx (mx a c) b:=by unfold mx;(repeat' split)<;>omega
theorem Zzr (a b c:Int):mn (mn a b) c=mn (mn a c) b:=by unfold mn;(repeat' split)<;>omega
theorem Zn9 (s t u:Span):bothF (bothF s t) u=bothF (bothF s u) t:=by unfold bothF;simp only[Zzq s.lo t.lo,Zzr s.hi t.hi]
theorem Yr8 (b:Book)(x0 x1 x2 x3 k:Int)(s:Span)(e f:Ent):Ybb b x0 x1 x2 x3 k (Ybb b x0 x1 x2 x3 k s e) f=Ybb b x0 x1 x2 x3 k (Ybb b x0 x1 x2 x3 k s f) e:=by
 unfold Ybb
 split<;>split<;>first|rfl|exact Zn9 _ _ _
theorem opAt {ops:Array Oper}{i:Nat}{dst:Option Tmp}{op:Op}(h:(ops[i]?.map fun o=>(o.guard,o.dst,o.op))=some (none,dst,op)):OpAt ops i dst op:=by
 cases hq:ops[i]? with
 | none=>rw[hq]at h;cases h
 | some o =>
  rw[hq]at h;simp only[Option.map_some,Option.some.injEq,Prod.mk.injEq]at h;exact⟨o,hq,h.1,h.2.1,h.2.2⟩
structure EntOk (e:Ent):Prop where
 d:e.1.2<=1000
 lo:-1000000<=e.2.lo/\e.2.lo<=1000000
 hi:-1000000<=e.2.hi/\e.2.hi<=1000000
theorem Zrc (b:Book)(l:List Ent)(ts:List TrC)(x0 x1 x2 x3 k:Int)(h0:0<=x0/\x0<=1000)(h1:0<=x1/\x1<=1000)(h2:0<=x2/\x2<=1000)(h3:0<=x3/\x3<=1000)
  (hs:0<=k/\k<b.secs.length) (hn:b.secs.length<=4) (ht:b.turns.length<=1000) (hl:∀ e∈l,EntOk e) :
  Contract PR glob 145 [bkD b (.spot l) ts,wD x0 x1 x2 x3,.I k] (.tup [spD (Yb2 b l x0 x1 x2 x3 k),.bool (decide ((Yb2 b l x0 x1 x2 x3 k).lo<=(Yb2 b l x0 x1 x2 x3 k).hi))]):=by
 have hround:∀(s:Span) (e:Ent) (ke:Nat->Prop) (w1:World) (fv:Nat->Value),e∈l->WpL PR (mkM PR (Yac types) glob 66 ke w1 [21] fv) (Code.at ([1,1,0,1,0,0,1,1,0]++[1]) (body Tryz.f145)) (rgT b l ts x0 x1 x2 x3 k s e)
   (fun ex L'=>(ex=.normal\/ex=.exit 1)/\L'=rgS b l ts x0 x1 x2 x3 k (Ybb b x0 x1 x2 x3 k s e)):=by
  intro s e ke w1 fv he;have hG:Good PR (mkM PR (Yac types) glob 66 ke w1 [21] fv):=Xju Yan Ya1;obtain⟨e1,e2,e3⟩:=hl e he;unfold Ybb
  cases hz:eqI [e.1.1,e.1.2] [-1,-1] with
  | true =>
   rw[if_neg (by simp)];have hz':(!eqI [e.1.1,e.1.2] [-1,-1])=false:=by rw[hz];rfl
   exact WpL.path hG (Xdz b l ts x0 x1 x2 x3 k s e ke w1 fv) ⟨by omega,by omega,hz',hz',hz',hz',hz',trivial⟩ ⟨.inl rfl,rfl⟩
  | false =>
   have hz':(!eqI [e.1.1,e.1.2] [-1,-1])=true:=by rw[hz];rfl
   cases hk:(e.1.1==k) with
   | false =>
    rw[if_neg (by simp)];exact WpL.path hG (Zx8 b l ts x0 x1 x2 x3 k s e ke w1 fv) ⟨by omega,by omega,hz',hz',by omega,hz',hz',hz',hk,trivial⟩ ⟨.inl rfl,rfl⟩
   | true =>
    rw[if_pos ⟨rfl,rfl⟩];have hb:=Ylr (n:=b.secs.length) (s:=k) (turns:=b.turns) h0 h1 h2 h3 e.1.2.toNat;have hd:(e.1.2.toNat:Int)<=1000:=by omega
    exact WpL.path hG (Xhd b l ts x0 x1 x2 x3 k s e ke w1 fv (Yei b.secs.length x0 x1 x2 x3 b.turns k e.1.2.toNat) (bothF s ⟨e.2.lo+Yei b.secs.length x0 x1 x2 x3 b.turns k e.1.2.toNat,e.2.hi+Yei b.secs.length x0 x1 x2 x3 b.turns k e.1.2.toNat⟩))
     ⟨by omega,by omega,hz',hz',by omega,hz',hz',hz',hk,by omega,by omega,Zfy b (.spot l) ts x0 x1 x2 x3 k e.1.2 b.turns h0 h1 h2 h3 hs hn ht e1,by omega,by omega,by simp only[Yae];omega,by omega,by simp only[Yae];omega,Zh3 _ _,trivial⟩ ⟨.inl rfl,rfl⟩
 have hloop:WpL PR (MP 66) (Yli [1,1,0]) (rgS b l ts x0 x1 x2 x3 k (b.secs.getD k.toNat sec0).t) (fun ex L'=>ex=.normal/\∃ vis:List Ent,l.Perm vis/\L'=rgS b l ts x0 x1 x2 x3 k (vis.foldl (Ybb b x0 x1 x2 x3 k) (b.secs.getD k.toNat sec0).t)):=by
  have hcode:Yli [1,1,0]=.seq (.region 2 (rops (Yli [1,1,0,0])) false) (.block 0 (.loop (.seq (.region 3 (rops (Yli [1,1,0,1,0,0,0])) false) (.seq (.cond (.tmp 23) .skip (.exit 0)) (.block 1 (.seq (.region 4 (rops (Code.at ([1,1,0,1,0,0,1,1,0]++[0]) (body Tryz.f145))) false) (Code.at ([1,1,0,1,0,0,1,1,0]++[1]) (body Tryz.f145)))))))):=by kernel_rfl
  rw[hcode]
  refine WpL.rangeMap (tt:=Yac types) (S:=rgS b l ts x0 x1 x2 x3 k) (step:=Ybb b x0 x1 x2 x3 k) (l:=l) (tr:=21) (tn:=22) (c:=23) (en:=24) (tm:=20) (t:=138) (tk:=157) (te:=113) (k:=2) (ksS:=rgKs) Yan Ya1
   (by kernel_rfl) (by kernel_rfl) (by kernel_rfl) (pre:=(rops (Yli [1,1,0,0])).toList.take 2) (by kernel_rfl) (by kernel_rfl) ?_ (Xha b l ts x0 x1 x2 x3 k _) trivial (by kernel_rfl) (by kernel_rfl)
   (opAt (by kernel_rfl)) (by kernel_rfl) (opAt (by kernel_rfl)) (opAt (by kernel_rfl)) (opAt (by kernel_rfl))
   (pre4:=(rops (Code.at ([1,1,0,1,0,0,1,1,0]++[0]) (body Tryz.f145))).toList.drop 1) (by kernel_rfl) ?_ (by omega) (by omega) (by omega) (by omega) (by omega) (by omega) (by omega) (by omega) (by kernel_rfl) (by kernel_rfl) ?_ (by kernel_rfl)
   (L2:=rgT b l ts x0 x1 x2 x3 k) ?_
  ·intro j o hj;rw[List.getElem?_take]at hj
   split at hj
   ·simpa using hj
   ·cases hj
  ·intro j o hj;rw[List.getElem?_drop]at hj;simpa using hj
  ·rintro x i (rfl|rfl|rfl|rfl)<;>kernel_rfl
  ·intro x e ke w1 fv he;exact⟨[],[],rgK4,_,Xd0 b l ts x0 x1 x2 x3 k x e ke w1 fv,trivial,hround x e ke w1 fv he⟩
 refine Yk3 (C:=MP 66) Ya1 rfl (fun _ h=>h) (fun _ h=>h) rfl rfl Zx7 ?_;rw[show body Tryz.f145=.seq (Yli [0]) (.seq (Yli [1,0]) (.seq (Yli [1,1,0]) (Yli [1,1,1]))) from by kernel_rfl];refine WpL.seq (WpL.path (G 66) (Xhb b l ts x0 x1 x2 x3 k) trivial ?_);refine WpL.seq (WpL.path (G 66) (Xhc b l ts x0 x1 x2 x3 k) ⟨hs,by omega,trivial⟩ ?_);refine WpL.seq (hloop.mono ?_)
 rintro ex L' ⟨rfl,vis,hp,rfl⟩
 have hf:vis.foldl (Ybb b x0 x1 x2 x3 k) (b.secs.getD k.toNat sec0).t=Yb2 b l x0 x1 x2 x3 k:=by
  unfold Yb2;exact(hp.foldl_eq' (fun x _ y _ z=>Yr8 b x0 x1 x2 x3 k z x y) _).symm
 rw[hf];show WpL PR (MP 66) (Yli [1,1,1]) _ _;refine WpL.path (G 66) (Xhe b l ts x0 x1 x2 x3 k (Yb2 b l x0 x1 x2 x3 k)) ⟨by omega,Zs9,by omega,Zg5 _,Zhh,by omega,Yzj _,trivial⟩ ?_;refine⟨fun id h=>(by cases h),[0+2<=2],by kernel_rfl,?_⟩;intro p hp
 have:p=(0+2<=2):=by simpa using hp
 subst this;omega
end Go.Di
namespace Go.Di
open Go.RowKit
section
variable {P:Program} {C C':Cfg} {w0 w w':World} {R0 R:Foot} {a:Act} {s:St} {β:Nat->Nat} {σ:Sig} {Q:Exit->Act->World->Prop}
def cut (W:World)(n:Nat):World:={W with heap:=W.heap.extract 0 n}
theorem Ye7 {W:World}{n:Nat}(h:n<=W.heap.size):(cut W n).heap.size=n:=by simp[cut];omega
theorem Yj3 {W:World}{n:Nat}(h:n<=W.heap.size):Below (cut W n).heap.size (cut W n) W:=by
 refine⟨rfl,rfl,rfl,by rw[Ye7 h];exact h,fun k hk=>?_⟩;rw[Ye7 h]at hk;simp[cut,Array.getElem?_extract];intro hx;omega
def mkF0 (glob:Nat->Option (List D))(n:Nat)(ke no:Nat->Prop)(w1:World)(fx:List Nat)(fv:Nat->Value):Cfg :=
 {tt:=fun _=>none,glob:=glob,con:=fun _ _ _=>False,nt:=n,lk:=fun _ _ _ _=>False,ke:=ke,no:=no,w1:=w1,fixed:=fx,fv:=fv}
structure LoopF (P:Program) (glob:Nat->Option (List D)) (n:Nat) (fx:List Nat) (c:Code) (L:KV) (e:Ex) (L':KV):Prop where
 wp:∀ ke no w1 fv,WpL P (mkF0 glob n ke no w1 fx fv) c L (fun e' L''=>e'=e/\L''=L')
def mkF (P:Program)(tt:TypeId->Option TI)(glob:Nat->Option (List D))(n:Nat)(ke no:Nat->Prop)(w1:World)(fx:List Nat)(fv:Nat->Value):Cfg :=
 {tt:=tt,glob:=glob,con:=fun f args r=>Contract P glob f args r,nt:=n,lk:=fun c L e L'=>LoopF P glob n fx c L e L',ke:=ke,no:=no,w1:=w1,fixed:=fx,fv:=fv}
theorem Xav {tt:TypeId->Option TI}{glob:Nat->Option (List D)}{n:Nat}{ke no:Nat->Prop}{w1:World}{fx:List Nat}{fv:Nat->Value}(hm:P.follows .mixedOrders=true)(hT:Ybu P tt):Good P (mkF P tt glob n ke no w1 fx fv) :=
 ⟨hm,hT,fun _ _ _ h=>h,fun _ _ _ _ h=>WpL.same (C:=mkF0 glob n ke no w1 fx fv) rfl rfl rfl rfl rfl rfl rfl rfl (fun _ _=>trivial) (fun _=>rfl) (h.wp ke no w1 fv)⟩
theorem LoopF.of {tt:TypeId->Option TI}{glob:Nat->Option (List D)}{n:Nat}{fx:List Nat}{c:Code}{L L':KV}{e:Ex}(h:∀ ke no w1 fv,WpL P (mkF P tt glob n ke no w1 fx fv) c L (fun e' L''=>e'=e/\L''=L')):LoopF P glob n fx c L e L' :=
 ⟨fun ke no w1 fv=>WpL.same (C:=mkF P tt glob n ke no w1 fx fv) (C':=mkF0 glob n ke no w1 fx fv) rfl rfl rfl rfl rfl rfl rfl rfl (fun _ _=>trivial) (fun _=>rfl) (h ke no w1 fv)⟩
theorem WpL.scope {c:Code}{L:KV}{Post:Ex->KV->Prop}(hi:C.inr=false)(h:WpL P C c L Post):WpL P C (.scope c) L Post:=by
 intro w0 R0 a w Q ro n hro hH hQ;have hn:=hro hi;subst hn;refine wpIn_wide.2 (wp_scope_straight ?_);refine(wpIn_wide (n:=n)).1 (h w0 R0 a w _ none n hro hH fun e L' a' w' hp hH'=>?_)
 have:=hQ e L' a' w' hp hH'
 cases e<;>exact this
def Yit (L:KV)(β:Nat->Nat)(b:Nat):Prop:=∃ i x,(ofL L).bx i=some x/\β i=b
def NoOb (L:KV):Prop:=∀ k,(ofL L).ob k=none/\(ofL L).mp k=none
theorem NoOb.mps {L:KV}(h:NoOb L){σ:Sig}{R:Foot}{w0 w:World}:MpsOk σ (ofL L) R w0 w:=.none fun k=>(h k).2
structure FrI (P:Program) (tt:TypeId->Option TI) (glob:Nat->Option (List D)) (n:Nat) (fx:List Nat) (fv:Nat->Value) (KE:Nat->Prop) (n0:Nat) (N:Nat->Prop) (a:Act) (W:World) (L:KV) (β:Nat->Nat) (σ:Sig) (R:Foot):Prop where
 inv:Inv (mkF P tt glob n (fun b=>b<W.heap.size/\¬Yit L β b) (fun b=>n0<=b/\b<W.heap.size/\¬N b) W fx fv) (cut W n0) R a W (ofL L) β σ R
 le:n0<=W.heap.size
 foot:∀ b o,R b o->KE b\/N b
 box:∀ i x,(ofL L).bx i=some x->N (β i)
 obs:NoOb L
 old:∀ b,KE b->b<n0
 own:∀ b,N b->b<W.heap.size
def Fr (P:Program)(tt:TypeId->Option TI)(glob:Nat->Option (List D))(n:Nat)(fx:List Nat)(fv:Nat->Value)(KE:Nat->Prop)(n0:Nat)(N:Nat->Prop)(a:Act)(W:World)(L:KV):Prop :=
 ∃ β σ R,FrI P tt glob n fx fv KE n0 N a W L β σ R
variable {tt:TypeId->Option TI} {glob:Nat->Option (List D)} {n n0:Nat} {fx:List Nat} {fv:Nat->Value} {KE N:Nat->Prop} {W W':World} {L L':KV}
theorem Yuk {α:Type}{J:List α->(Nat->Prop)->World->Prop}(hJ:Abides J){pre:List α}:∀(gs:List Nat) (W:World),J pre N W->(∀ g∈gs,N g/\∃ arr arr' el el',W.heap[g]?=some (.cells arr el (0,0))/\W'.heap[g]?=some (.cells arr' el' (0,0))) ->
  W'.os=W.os->W'.tape=W.tape->W'.output=W.output->W.heap.size<=W'.heap.size->(∀ b,b<W.heap.size->b∉gs->W'.heap[b]?=W.heap[b]?)->J pre (fun b=>N b\/(W.heap.size<=b/\b<W'.heap.size)) W'
 | [],W,hj,_,h1,h2,h3,h4,h5=>hJ.new _ _ _ _ _ hj ⟨h1,h2,h3,h4,fun k hk=>h5 k hk (by simp)⟩ (fun b hb=>hb)
 | g::gs,W,hj,hg,h1,h2,h3,h4,h5=>by
  obtain⟨hN,arr,arr',el,el',p1,p2⟩:=hg g (by simp);have hlt:g<W.heap.size:=(Array.getElem?_eq_some_iff.1 p1).1;have hs:({W with heap:=W.heap.setIfInBounds g (.cells arr' el' (0,0))}:World).heap.size=W.heap.size:=by simp
  have hg1:({W with heap:=W.heap.setIfInBounds g (.cells arr' el' (0,0))}:World).heap[g]?=some (.cells arr' el' (0,0)):=by simp[hlt]
  have hne:∀ k,k≠g->({W with heap:=W.heap.setIfInBounds g (.cells arr' el' (0,0))}:World).heap[k]?=W.heap[k]?:=fun k hk=>by simp[Array.getElem?_setIfInBounds_ne (Ne.symm hk)]
  have hj1:=hJ.store _ _ _ {W with heap:=W.heap.setIfInBounds g (.cells arr' el' (0,0))} g hj hN ⟨⟨rfl,rfl,rfl,hs⟩,⟨arr,arr',el,el',p1,hg1⟩,hne⟩
  have:=Yuk hJ gs _ hj1 (fun g' hg'=>by
   obtain⟨q1,q2⟩:=hg g' (by simp[hg']);refine⟨q1,?_⟩;obtain⟨brr,brr',e,e',r1,r2⟩:=q2
   by_cases he:g'=g
   ·subst he;exact⟨arr',brr',el',e',hg1,r2⟩
   ·exact⟨brr,brr',e,e',by rw[hne g' he];exact r1,r2⟩) h1 h2 h3 (by rw[hs];exact h4) (fun b hb hn=>by
   rw[hs]at hb
   by_cases he:b=g
   ·subst he;rw[p2,hg1]
   ·rw[hne b he];exact h5 b hb (by simp[he,hn]))
  rw[hs]at this;exact this
theorem Zn8 (L:KV)(β:Nat->Nat):∃ gs:List Nat,∀ b,b∈gs↔Yit L β b:=by
 have key:∀(M:KV),∃ gs:List Nat,∀ b,b∈gs↔∃ i,(∃ v,(Key.box i,v)∈M)/\(∃ x,(ofL L).bx i=some x)/\β i=b:=by
  intro M
  induction M with
  | nil=>exact⟨[],fun b=>⟨fun h=>by simp at h,fun⟨i,⟨v,hv⟩,_⟩=>by simp at hv⟩⟩
  | cons kv M ih =>
   obtain⟨gs,hgs⟩:=ih;obtain⟨k,v⟩:=kv
   by_cases hk:∃ i,k=.box i/\∃ x,(ofL L).bx i=some x
   ·obtain⟨i,rfl,x,hx⟩:=hk;refine⟨β i::gs,fun b=>⟨fun h=>?_,fun⟨j,⟨v',hv'⟩,hx',hb⟩=>?_⟩⟩
    ·rcases List.mem_cons.1 h with rfl|h
     ·exact⟨i,⟨v,by simp⟩,⟨x,hx⟩,rfl⟩
     ·obtain⟨j,⟨v',hv'⟩,hr⟩:=(hgs b).1 h;exact⟨j,⟨v',by simp[hv']⟩,hr⟩
    ·simp only[List.mem_cons,Prod.mk.injEq,Key.box.injEq]at hv';rcases hv' with ⟨rfl,_⟩|hv'
     ·simp[hb]
     ·exact List.mem_cons_of_mem _ ((hgs b).2 ⟨j,⟨v',hv'⟩,hx',hb⟩)
   ·refine⟨gs,fun b=>⟨fun h=>?_,fun⟨j,⟨v',hv'⟩,hx',hb⟩=>?_⟩⟩
    ·obtain⟨j,⟨v',hv'⟩,hr⟩:=(hgs b).1 h;exact⟨j,⟨v',by simp[hv']⟩,hr⟩
    ·simp only[List.mem_cons,Prod.mk.injEq]at hv';rcases hv' with ⟨rfl,_⟩|hv'
     ·exact absurd ⟨j,rfl,hx'⟩ hk
     ·exact(hgs b).2 ⟨j,⟨v',hv'⟩,hx',hb⟩
 obtain⟨gs,hgs⟩:=key L;refine⟨gs,fun b=>(hgs b).trans ⟨fun⟨i,_,⟨x,hx⟩,hb⟩=>⟨i,x,hx,hb⟩,fun⟨i,x,hx,hb⟩=>⟨i,?_,⟨x,hx⟩,hb⟩⟩⟩
 have:∀(M:KV),(∃ x,(ofL M).bx i=some x)->∃ v,(Key.box i,v)∈M:=by
  intro M
  induction M with
  | nil=>intro⟨x,hx⟩;cases hx
  | cons kv M ih =>
   obtain⟨k,v⟩:=kv;intro⟨x,hx⟩
   by_cases hk:k=.box i
   ·subst hk;exact⟨v,by simp⟩
   ·have:(ofL ((k,v)::M)).bx i=(ofL M).bx i:=by
     simp only[ofL,St.bx];unfold St.set
     have:k.eqb (.box i)=false:=by
      cases hq:k.eqb (.box i) with
      | false=>rfl
      | true=>exact absurd (Yk2 hq) hk
     rw[this]
    rw[this]at hx;obtain⟨v',hv'⟩:=ih ⟨x,hx⟩;exact⟨v',by simp[hv']⟩
 exact this L ⟨x,hx⟩
structure FrNext {α:Type} (P:Program) (tt:TypeId->Option TI) (glob:Nat->Option (List D)) (n:Nat) (fx:List Nat) (fv:Nat->Value) (KE:Nat->Prop) (n0:Nat) (N N':Nat->Prop) (J:List α->(Nat->Prop)->World->Prop) (pre:List α) (a':Act) (W W':World) (L':KV):Prop where
 fr:Fr P tt glob n fx fv KE n0 N' a' W' L'
 le:∀ b,N b->N' b
 new:∀ b,N' b->N b\/W.heap.size<=b
 j:J pre N' W'
 size:W.heap.size<=W'.heap.size
 old:∀ b,b<n0->W'.heap[b]?=W.heap[b]?
theorem FrI.next {α:Type}{J:List α->(Nat->Prop)->World->Prop}(hJ:Abides J){pre:List α}(hj:J pre N W)(h:FrI P tt glob n fx fv KE n0 N a W L β σ R){a':Act}{β':Nat->Nat}{σ':Sig}{R':Foot}{s':St}
  (hI:Inv (mkF P tt glob n (fun b=>b<W.heap.size/\¬Yit L β b) (fun b=>n0<=b/\b<W.heap.size/\¬N b) W fx fv) (cut W n0) R a' W' s' β' σ' R') (hs':s'=ofL L') (hobs:NoOb L')
  (hkeep:∀ i x,(ofL L).bx i=some x->i∈fx/\(ofL L).tmp i=.ptr i 0/\(ofL L').tmp i=.ptr i 0):∃ N',FrNext P tt glob n fx fv KE n0 N N' J pre a' W W' L':=by
 subst hs';have hcs:=Ye7 h.le;have hbel:=hI.below;have hsz:W.heap.size<=W'.heap.size:=hI.far.sz
 have hold:∀ b,b<n0->W'.heap[b]?=W.heap[b]?:=by
  intro b hb;have h1:=hbel.block b (by rw[hcs];exact hb);have h2:=(Yj3 h.le).block b (by rw[hcs];exact hb);rw[h1,h2]
 obtain⟨gs,hgs⟩:=Zn8 L β
 have hj':J pre (fun b=>N b\/(W.heap.size<=b/\b<W'.heap.size)) W':=by
  refine Yuk hJ gs W hj (fun g hg=>?_) (hbel.os.trans rfl) (hbel.tape.trans rfl) (hbel.output.trans rfl) hsz (fun b hb hn=>(hI.far.ke b ⟨hb,fun hx=>hn ((hgs b).2 hx)⟩).2.1);obtain⟨i,x,hx,rfl⟩:=(hgs g).1 hg;obtain⟨arr,el,p1,_⟩:=(h.inv.box i x hx).cells;obtain⟨k1,k2,k3⟩:=hkeep i x hx;have f1:=h.inv.fix i k1;have f2:=hI.fix i k1;have t1:=h.inv.tmps i;have t2:=hI.tmps i;rw[f1,k2]at t1;rw[f2,k3]at t2;obtain⟨⟨x',hx'⟩,t2⟩:=t2
  obtain⟨_,t1⟩:=t1
  have he:β i=β' i:=by
   have h1:fv i=.pointer (some ⟨β i,0,none⟩):=t1;have h2:fv i=.pointer (some ⟨β' i,0,none⟩):=t2;rw[h1]at h2;simpa using h2
  obtain⟨arr',el',p2,_⟩:=(hI.box i x' hx').cells;rw[<-he]at p2;exact⟨h.box i x hx,arr,arr',el,el',p1,p2⟩
 have hin:∀ b,n0<=b->b<W'.heap.size->(∃ o,R' b o)\/(∃ i x,(ofL L').bx i=some x/\β' i=b)->N b\/(W.heap.size<=b/\b<W'.heap.size):=by
  intro b hb1 hb2 hb3
  by_cases hlt:b<W.heap.size
  ·by_cases hN:N b
   ·exact .inl hN
   ·obtain⟨_,_,q3,q4,_⟩:=hI.far.no b ⟨hb1,hlt,hN⟩;rcases hb3 with ⟨o,ho⟩|⟨i,x,hx,he⟩
    ·exact absurd ho (q3 o)
    ·exact absurd he (q4 i x hx)
  ·exact .inr ⟨by omega,hb2⟩
 refine⟨fun b=>N b\/(W.heap.size<=b/\b<W'.heap.size),⟨β',σ',R',?_⟩,fun b hb=>.inl hb,fun b hb=>hb.elim .inl fun hb=>.inr hb.1,hj',hsz,hold⟩
 have hbox':∀ i x,(ofL L').bx i=some x->N (β' i)\/(W.heap.size<=β' i/\β' i<W'.heap.size):=by
  intro i x hx;have h1:=(hI.box i x hx).new;rw[hcs]at h1;exact hin _ h1 (hI.box_lt hx) (.inr ⟨i,x,hx,rfl⟩)
 have hR':∀ b o,R' b o->KE b\/(N b\/(W.heap.size<=b/\b<W'.heap.size)):=by
  intro b o hr;rcases hI.dom b o hr with ⟨h1,h2⟩
  rcases h2 with h2|h2
  ·exact(h.foot b o h2).imp id .inl
  ·rw[hcs]at h2;exact .inr (hin b h2 h1 (.inl ⟨o,hr⟩))
 refine⟨?_,Nat.le_trans h.le hsz,hR',hbox',hobs,h.old,fun b hb=>?_⟩
 ·have hcs':(cut W' n0).heap.size=n0:=Ye7 (Nat.le_trans h.le hsz);refine⟨Yj3 (Nat.le_trans h.le hsz),hI.defers,hI.fix,hI.nt,fun _ _ h=>h,fun b o hr=>⟨(hI.dom b o hr).1,.inl hr⟩,hI.glob,hI.tmps,fun i b hb=>?_,hI.inj,fun k o ho=>?_,⟨Nat.le_refl _,fun b hb=>?_,fun b hb=>?_⟩,hobs.mps⟩
  ·obtain⟨p1,p2,p3⟩:=hI.box i b hb;exact⟨by rw[hcs'] ;rw[hcs]at p1;exact p1,p2,p3⟩
  ·rw[(hobs k).1]at ho
   cases ho
  ·refine⟨hb.1,rfl,fun i x hx hf e=>hb.2 ⟨i,x,hx,e⟩,fun k o ho=>?_⟩;rw[(hobs k).1]at ho
   cases ho
  ·obtain⟨b1,b2,b3⟩:=hb;refine⟨by rw[hcs'];exact b1,b2,fun o hr=>?_,fun i x hx e=>?_,fun k o ho=>?_⟩
   ·rcases hR' b o hr with h1|h1
    ·have:=h.old b h1
     omega
    ·exact b3 h1
   ·exact b3 (e▸hbox' i x hx)
   ·rw[(hobs k).1]at ho
    cases ho
 ·rcases hb with hb|hb
  ·exact Nat.lt_of_lt_of_le (h.own b hb) hsz
  ·exact hb.2
theorem Fr.piece {α:Type}{J:List α->(Nat->Prop)->World->Prop}(hJ:Abides J){pre:List α}(hj:J pre N W)(h:Fr P tt glob n fx fv KE n0 N a W L){c:Code}{Post:Ex->KV->Prop}{m:Nat}
  (hw:∀ ke no w1,WpL P (mkF P tt glob n ke no w1 fx fv) c L Post) (hobs:∀ e L',Post e L'->NoOb L')
  (hkeep:∀ e L',Post e L'->∀ i x,(ofL L).bx i=some x->i∈fx/\(ofL L).tmp i=.ptr i 0/\(ofL L').tmp i=.ptr i 0)
  (hQ:∀ e L' a' W' N',Post e L'->FrNext P tt glob n fx fv KE n0 N N' J pre a' W W' L'->Q e.out a' W'):c.wpIn (FR none) m P Q a W:=by
 obtain⟨β,σ,R,hI⟩:=h;refine hw _ _ _ _ _ a W Q none m (fun _=>rfl) ⟨β,σ,R,hI.inv⟩ fun e L' a' W' hp hH=>?_;obtain⟨β',σ',R',hI'⟩:=hH;obtain⟨N',hN⟩:=hI.next hJ hj hI' rfl (hobs e L' hp) (hkeep e L' hp);exact hQ e L' a' W' N' hp hN
theorem Fr.ops {α:Type}{J:List α->(Nat->Prop)->World->Prop}(hJ:Abides J){pre:List α}(hj:J pre N W)(h:Fr P tt glob n fx fv KE n0 N a W L)(hT:Ybu P tt){ops:Array Oper}{l:List Oper}{k:Nat}{rest:List Nat}{dec:List (Nat×Bool)}{orc:List (Nat×D)}{ks:List Key}
  (hl:∀ j o,l[j]?=some o->ops[k+j]?=some o) (hw:∀ ke no w1,∃ ps,Yi5 (mkF P tt glob n ke no w1 fx fv) dec orc ops l L ks=some (ps,L')/\allP ps) (hobs:NoOb L')
  (hkeep:∀ i x,(ofL L).bx i=some x->i∈fx/\(ofL L).tmp i=.ptr i 0/\(ofL L').tmp i=.ptr i 0)
  (hQ:∀ a' W' N',FrNext P tt glob n fx fv KE n0 N N' J pre a' W W' L'->wpOps P ops Q rest a' W'):wpOps P ops Q (List.range' k l.length++rest) a W:=by
 obtain⟨β,σ,R,hI⟩:=h;obtain⟨ps,h1,h2⟩:=hw (fun b=>b<W.heap.size/\¬Yit L β b) (fun b=>n0<=b/\b<W.heap.size/\¬N b) W;refine Yhl (C:=mkF P tt glob n (fun b=>b<W.heap.size/\¬Yit L β b) (fun b=>n0<=b/\b<W.heap.size/\¬N b) W fx fv) hT (fun _ _ _ h=>h) h1 h2 hl ⟨β,σ,R,hI.inv⟩ fun a' W' hH=>?_;obtain⟨β',σ',R',hI'⟩:=hH;obtain⟨N',hN⟩:=hI.next hJ hj hI' rfl hobs hkeep;exact hQ a' W' N' hN
theorem Fr.after (h:Fr P tt glob n fx fv KE n0 N a W L){N':Nat->Prop}(hN:∀ b,N b->N' b)(hN':∀ b,N' b->b<W'.heap.size)(hsz:W.heap.size<=W'.heap.size)(hsame:∀ b,KE b\/N b->W'.heap[b]?=W.heap[b]?):Fr P tt glob n fx fv KE n0 N' a W' L:=by
 obtain⟨β,σ,R,h⟩:=h;have hI:=h.inv;have hle:=Nat.le_trans h.le hsz
 have hk:Keeps R R W W':=by
  refine⟨fun _ _ h=>h,fun b o u hr hc=>?_,fun b es c hr hm=>?_⟩
  ·simp only[World.cell?]at hc ⊢;rw[hsame b (h.foot b o hr)];exact hc
  ·rw[hsame b (h.foot b 0 hr)];exact hm
 refine⟨β,σ,R,⟨?_,hle,fun b o hr=>(h.foot b o hr).imp id (hN b),fun i x hx=>hN _ (h.box i x hx),h.obs,h.old,hN'⟩⟩;refine⟨Yj3 hle,hI.defers,hI.fix,hI.nt,fun _ _ h=>h,fun b o hr=>⟨Nat.lt_of_lt_of_le (hI.dom b o hr).1 hsz,.inl hr⟩,fun g cs hg=>Rel.keep hk _ _ (hI.glob g cs hg),fun i=>RelT.world hk _ _ (hI.tmps i),fun i b hb=>?_,hI.inj,fun k o ho=>?_,⟨Nat.le_refl _,fun b hb=>?_,fun b hb=>?_⟩,h.obs.mps⟩
 ·obtain⟨p1,⟨arr,el,p2,p3,p4,p5⟩,p6⟩:=hI.box i b hb;refine⟨by rw[Ye7 hle];rw[Ye7 h.le]at p1;exact p1,⟨arr,el,by rw[hsame _ (.inr (h.box i b hb))];exact p2,fun x=>(p3 x).imp (RelC.keep hk),fun x=>(p4 x).imp (RelTC.world hk),p5⟩,p6⟩
 ·rw[(h.obs k).1]at ho
  cases ho
 ·refine⟨hb.1,rfl,fun i x hx hf e=>hb.2 ⟨i,x,hx,e⟩,fun k o ho=>?_⟩;rw[(h.obs k).1]at ho
  cases ho
 ·obtain⟨b1,b2,b3⟩:=hb;refine⟨by rw[Ye7 hle];exact b1,b2,fun o hr=>?_,fun i x hx e=>?_,fun k o ho=>?_⟩
  ·rcases h.foot b o hr with h1|h1
   ·have:=h.old b h1
    omega
   ·exact b3 (hN b h1)
  ·exact b3 (e▸hN _ (h.box i x hx))
  ·rw[(h.obs k).1]at ho
   cases ho
theorem Fr.put (h:Fr P tt glob n fx fv KE n0 N a W L)(d:Nat)(hd:d<n)(hfx:d∉fx){x:D}{v:Value}(hv:∀ R,Rel R W x v):Fr P tt glob n fx fv KE n0 N (a.put (some d) v) W ((.tmp d,.d x)::L):=by
 obtain⟨β,σ,R,h⟩:=h
 have:=h.inv.put d hd hfx (x:=x) (v:=v) (RelT.ofRel (hv R))
 exact⟨β,σ,R,⟨this,h.le,h.foot,h.box,h.obs,h.old,h.own⟩⟩
theorem Fr.putAny (h:Fr P tt glob n fx fv KE n0 N a W L)(d:Nat)(hd:d<n)(hfx:d∉fx)(hs:(ofL L) (.tmp d)=.d .undef)(v:Value):Fr P tt glob n fx fv KE n0 N (a.put (some d) v) W L:=by
 obtain⟨β,σ,R,h⟩:=h;exact⟨β,σ,R,⟨h.inv.putAny hd hfx hs v,h.le,h.foot,h.box,h.obs,h.old,h.own⟩⟩
theorem Fr.fix (h:Fr P tt glob n fx fv KE n0 N a W L)(fx':List Nat):Fr P tt glob n fx' (fun i=>a.tmps.getD i undef) KE n0 N a W L:=by
 obtain⟨β,σ,R,h⟩:=h;exact⟨β,σ,R,⟨h.inv.turn rfl rfl rfl (fun i _=>rfl) ⟨h.inv.far.sz,h.inv.far.ke,h.inv.far.no⟩,h.le,h.foot,h.box,h.obs,h.old,h.own⟩⟩
theorem Fr.fixed (h:Fr P tt glob n fx fv KE n0 N a W L):∀ i∈fx,a.tmps.getD i undef=fv i:=by
 obtain⟨β,σ,R,h⟩:=h;exact h.inv.fix
theorem Fr.defers (h:Fr P tt glob n fx fv KE n0 N a W L):a.defers=[]:=by
 obtain⟨β,σ,R,h⟩:=h;exact h.inv.defers
theorem Fr.restrict (h:Fr P tt glob n fx fv KE n0 N a W L){ks:List Key}(hc:Ye0 ks (Ycy (ofL L) ks)=true)(hk:∀ i x,(ofL (Ycy (ofL L) ks)).bx i=some x->(ofL L).bx i=some x)(hk':∀ i x,(ofL L).bx i=some x->∃ x',(ofL (Ycy (ofL L) ks)).bx i=some x')(hob:NoOb (Ycy (ofL L) ks)) :
  Fr P tt glob n fx fv KE n0 N a W (Ycy (ofL L) ks):=by
 obtain⟨β,σ,R,h⟩:=h;have hb:∀ b,Yit L β b↔Yit (Ycy (ofL L) ks) β b:=fun b=>⟨fun⟨i,x,hx,e⟩=>(hk' i x hx).elim fun x' hx'=>⟨i,x',hx',e⟩,fun⟨i,x,hx,e⟩=>⟨i,x,hk i x hx,e⟩⟩
 have:=h.inv.restrict hc
 refine⟨β,σ,R,⟨this.turn rfl rfl rfl this.fix ⟨this.far.sz,fun b hb'=>this.far.ke b ⟨hb'.1,fun hx=>hb'.2 ((hb b).1 hx)⟩,this.far.no⟩,h.le,h.foot,fun i x hx=>h.box i x (hk i x hx),hob,h.old,h.own⟩⟩
theorem Fr.enter {args:List D}{vs:Array Value}(hkN:∀ b,N b->b<W.heap.size)(hKE:∀ b,KE b->b<W.heap.size)(hR:∀ b o,R b o->KE b\/N b)(hg:∀ g cs,glob g=some cs->Rel R W (.ref cs 0) (.pointer (some ⟨g,0,none⟩)))(ha:∀(i:Nat) (d:D),args[i]?=some d->∃ v,vs[i]?=some v/\Rel R W d v) :
  Fr P tt glob n fx (fun i=>vs.getD i undef) KE W.heap.size N {tmps:=vs++Array.replicate (n-vs.size) undef,defers:=[]} W (entry 0 args):=by
 have hle:=Nat.le_refl W.heap.size;have hRd:∀ b o,R b o->b<W.heap.size:=fun b o hr=>(hR b o hr).elim (hKE b) (hkN b);refine⟨fun _=>0,fun _=>(none,0),R,⟨?_,hle,hR,fun i x hx=>?_,fun k=>?_,hKE,hkN⟩⟩
 ·have hget:∀ i,(vs++Array.replicate (n-vs.size) undef).getD i undef=vs.getD i undef:=by
   intro i;rw[Array.getD_eq_getD_getElem?,Array.getD_eq_getD_getElem?,Array.getElem?_append];split
   ·rfl
   ·rename_i h;rw[Array.getElem?_eq_none (by omega:vs.size<=i),Array.getElem?_replicate]
    split<;>rfl
  refine⟨Yj3 hle,rfl,fun i _=>hget i,by simp[mkF];omega,fun _ _ h=>h,fun b o h=>⟨hRd b o h,.inl h⟩,hg,fun i=>?_,fun i b hb=>?_,fun i j bi bj hi hj=>?_,fun k o ho=>?_,⟨hle,fun b hb=>⟨hb.1,rfl,fun i x hx=>?_,fun k o ho=>?_⟩,fun b hb=>?_⟩,.none (Ymu args 0)⟩
  ·have:(ofL (entry 0 args)).tmp i=args.getD i .undef:=by
    unfold St.tmp;rw[Ymv];simp only[Nat.zero_le,true_and,Nat.zero_add,Nat.sub_zero]
    by_cases h:i<args.length
    ·rw[if_pos h]
    ·rw[if_neg h,List.getD_eq_getElem?_getD,List.getElem?_eq_none (by omega)];rfl
   rw[this]
   by_cases h:i<args.length
   ·obtain⟨v,hv,hr⟩:=ha i args[i] (List.getElem?_eq_getElem h);have e1:args.getD i .undef=args[i]:=by rw[List.getD_eq_getElem?_getD,List.getElem?_eq_getElem h];rfl
    rw[e1];show RelT _ _ _ _ _ _ ((vs++Array.replicate (n-vs.size) undef).getD i undef);rw[hget,Array.getD_eq_getD_getElem?,hv];exact RelT.ofRel hr
   ·have e1:args.getD i .undef=.undef:=by rw[List.getD_eq_getElem?_getD,List.getElem?_eq_none (by omega)];rfl
    rw[e1];exact trivial
  ·unfold St.bx at hb;rw[Ye6]at hb;cases hb
  ·unfold St.bx at hi;rw[Ye6]at hi;cases hi
  ·unfold St.ob at ho;rw[Yiq]at ho;cases ho
  ·unfold St.bx at hx;rw[Ye6]at hx;cases hx
  ·unfold St.ob at ho;rw[Yiq]at ho;cases ho
  ·obtain⟨b1,b2,_⟩:=hb;omega
 ·unfold St.bx at hx;rw[Ye6]at hx;cases hx
 ·exact⟨by unfold St.ob;rw[Yiq],Ymu args 0 k⟩
theorem Fr.start {args:List D}(hd:a.defers=[])(hnt:n<=a.tmps.size)(hkN:∀ b,N b->b<W.heap.size)(hKE:∀ b,KE b->b<W.heap.size)(hR:∀ b o,R b o->KE b\/N b)(hg:∀ g cs,glob g=some cs->Rel R W (.ref cs 0) (.pointer (some ⟨g,0,none⟩)))(ha:∀(i:Nat) (d:D),args[i]?=some d->d=.undef\/Rel R W d (a.tmps.getD i undef)) :
  Fr P tt glob n fx (fun i=>a.tmps.getD i undef) KE W.heap.size N a W (entry 0 args):=by
 have hle:=Nat.le_refl W.heap.size;have hRd:∀ b o,R b o->b<W.heap.size:=fun b o hr=>(hR b o hr).elim (hKE b) (hkN b);refine⟨fun _=>0,fun _=>(none,0),R,⟨?_,hle,hR,fun i x hx=>?_,fun k=>?_,hKE,hkN⟩⟩
 ·refine⟨Yj3 hle,hd,fun i _=>rfl,hnt,fun _ _ h=>h,fun b o h=>⟨hRd b o h,.inl h⟩,hg,fun i=>?_,fun i b hb=>?_,fun i j bi bj hi hj=>?_,fun k o ho=>?_,⟨hle,fun b hb=>⟨hb.1,rfl,fun i x hx=>?_,fun k o ho=>?_⟩,fun b hb=>?_⟩,.none (Ymu args 0)⟩
  ·have:(ofL (entry 0 args)).tmp i=args.getD i .undef:=by
    unfold St.tmp;rw[Ymv];simp only[Nat.zero_le,true_and,Nat.zero_add,Nat.sub_zero]
    by_cases h:i<args.length
    ·rw[if_pos h]
    ·rw[if_neg h,List.getD_eq_getElem?_getD,List.getElem?_eq_none (by omega)];rfl
   rw[this]
   by_cases h:i<args.length
   ·have e1:args.getD i .undef=args[i]:=by rw[List.getD_eq_getElem?_getD,List.getElem?_eq_getElem h];rfl
    rw[e1];rcases ha i args[i] (List.getElem?_eq_getElem h) with hr|hr
    ·rw[hr];exact trivial
    ·exact RelT.ofRel hr
   ·have e1:args.getD i .undef=.undef:=by rw[List.getD_eq_getElem?_getD,List.getElem?_eq_none (by omega)];rfl
    rw[e1];exact trivial
  ·unfold St.bx at hb;rw[Ye6]at hb;cases hb
  ·unfold St.bx at hi;rw[Ye6]at hi;cases hi
  ·unfold St.ob at ho;rw[Yiq]at ho;cases ho
  ·unfold St.bx at hx;rw[Ye6]at hx;cases hx
  ·unfold St.ob at ho;rw[Yiq]at ho;cases ho
  ·obtain⟨b1,b2,_⟩:=hb;omega
 ·unfold St.bx at hx;rw[Ye6]at hx;cases hx
 ·exact⟨by unfold St.ob;rw[Yiq],Ymu args 0 k⟩
theorem Fr.boxAt (h:Fr P tt glob n fx fv KE n0 N a W L){i:Nat}(ht:(ofL L).tmp i=.ptr i 0){cs:List D}(hb:(ofL L).bx i=some ⟨false,cs⟩) :
  ∃ g arr el R,a.tmps.getD i undef=.pointer (some ⟨g,0,none⟩)/\N g/\n0<=g/\W.heap[g]?=some (.cells arr el (0,0))/\(∀ b o,R b o->KE b\/N b)/\(cs.all is0=true\/(∃ f fs,cs=[.fn f fs []])->All2 (RelC R W) cs (arr.toList.take cs.length)):=by
 obtain⟨β,σ,R,h⟩:=h;have h1:=h.inv.tmps i;rw[ht]at h1;obtain⟨_,h1⟩:=h1;obtain⟨p1,⟨arr,el,p2,p3,p4,p5⟩,p6⟩:=h.inv.box i _ hb;rw[Ye7 h.le]at p1;refine⟨β i,arr,el,R,h1,h.box i _ hb,p1,p2,h.foot,fun hcs=>?_⟩
 have:=p4 rfl
 refine All2.of_get (All2.length this) fun j d v hd hv=>?_;obtain⟨v',hv',hr⟩:=All2.get this j d hd;rw[hv]at hv'
 cases hv'
 rcases hcs with hcs|⟨f,fs,rfl⟩
 ·have:=List.all_eq_true.1 hcs d (List.mem_of_getElem? hd)
  cases d<;>first|exact hr|cases this
 ·match j,hd with
  | 0,hd=>cases hd;exact hr
theorem wpOpsIn_cons {ops:Array Oper}{i:Nat}{l:List Nat}{o:Oper}{m:Nat}(ho:ops[i]?=some o)(hg:o.guard=none)(h:o.wpIn (FR none) m P a w (wpOpsIn (FR none) m P ops Q l) Q):wpOpsIn (FR none) m P ops Q (i::l) a w:=by
 unfold wpOpsIn;rw[ho]
 have:Region.wanted o (yielded ops a.tmps)=true:=by simp[Region.wanted,hg]
 simp only[this,if_true];exact h
theorem Zoh {ops:Array Oper}{id m:Nat}(h:wpOpsIn (FR none) m P ops (Yiy Q) (List.range' 0 ops.size) a w):(Code.region id ops false).wpIn (FR none) m P Q a w :=
 wpIn_mono (Q:=Yiy Q) (wpIn_region (by rw[List.range_eq_range'];exact h)) fun e a w=>Yhq
theorem Ywz {ops:Array Oper}{i:Nat}{l:List Nat}{o:Oper}{m:Nat}(ho:ops[i]?=some o)(hg:o.guard=none)(hd:∀ c,o.op≠.defer c){v:Value}(hrun:(execOp a.eval o).run P w=.ok (.value v) w')(hK:wpOpsIn (FR none) m P ops Q l (a.put o.dst v) w'):wpOpsIn (FR none) m P ops Q (i::l) a w :=
 wpOpsIn_cons ho hg (opIn hd (Ycd hrun hK))
theorem Yqi (hT:Ybu P C.tt)(hC:∀ f args r,C.con f args r->Contract P C.glob f args r){ops:Array Oper}(hnd:Yih ops.toList=true)(hq:¬LetsOut Q){m:Nat}{dec:List (Nat×Bool)}{orc:List (Nat×D)}{rest:List Nat} :
  ∀(l:List Oper) (k:Nat) (s:St) (a:Act) (w:World) (es:List Eff) (s':St),(∀ j o,l[j]?=some o->ops[k+j]?=some o)->runL C dec orc ops l s=some (es,s')->(∀ p∈psOf es,p)->Holds C w0 R0 a w s->(∀ a' w',Holds C w0 R0 a' w' s'->wpOpsIn (FR none) m P ops Q rest a' w') ->
   wpOpsIn (FR none) m P ops Q (List.range' k l.length++rest) a w
 | [],k,s,a,w,es,s',_,h,_,hH,hQ=>by
  cases h
  exact hQ _ _ hH
 | o::l,k,s,a,w,es,s',hl,h,hp,hH,hQ=>by
  simp only[runL]at h
  split at h
  ·rename_i e he
   split at h
   ·rename_i es' s1 hes
    cases h
    have ho:ops[k]?=some o:=hl 0 o rfl;rw[List.length_cons,List.range'_succ,List.cons_append]
    have hw:=Yur (Q:=Q) (K:=wpOpsIn (FR none) m P ops Q (List.range' (k+1) l.length++rest)) hT hC ho hH (fun a' w' hH'=>Yqi hT hC hnd hq l (k+1) _ a' w' es' _ (fun j o' hj=>by
     rw[show k+1+j=k+(j+1) by omega];exact hl (j+1) o' hj) hes (fun p hpp=>hp p (by simp[psOf,hpp])) hH' hQ) (M.exec_ok _ _ _ he fun p hpp=>hp p (by simp[psOf,hpp]))
    unfold wpOp at hw;unfold wpOpsIn;rw[ho]at hw ⊢;simp only at hw ⊢
    by_cases hwant:Region.wanted o (yielded ops a.tmps)=true
    ·rw[if_pos hwant]at hw ⊢;rcases hw with hw|hw
     ·refine opIn (fun c hc=>?_) hw
      have hm:o∈ops.toList:=by
       have:=Array.mem_of_getElem? ho
       simpa using this
      have:=List.all_eq_true.1 hnd o hm
      rw[hc]at this
      cases this
     ·exact absurd hw.2 hq
    ·rw[if_neg hwant]at hw ⊢;exact⟨fun _ _=>trivial,hw⟩
   ·cases h
  ·cases h
theorem Fr.opsIn {α:Type}{J:List α->(Nat->Prop)->World->Prop}(hJ:Abides J){pre:List α}(hj:J pre N W)(h:Fr P tt glob n fx fv KE n0 N a W L)(hT:Ybu P tt){ops:Array Oper}(hnd:Yih ops.toList=true)(hq:¬LetsOut Q){m:Nat}{l:List Oper}{k:Nat}{rest:List Nat}{dec:List (Nat×Bool)}{orc:List (Nat×D)}{ks:List Key}
  (hl:∀ j o,l[j]?=some o->ops[k+j]?=some o) (hw:∀ ke no w1,∃ ps,Yi5 (mkF P tt glob n ke no w1 fx fv) dec orc ops l L ks=some (ps,L')/\allP ps) (hobs:NoOb L')
  (hkeep:∀ i x,(ofL L).bx i=some x->i∈fx/\(ofL L).tmp i=.ptr i 0/\(ofL L').tmp i=.ptr i 0)
  (hQ:∀ a' W' N',FrNext P tt glob n fx fv KE n0 N N' J pre a' W W' L'->wpOpsIn (FR none) m P ops Q rest a' W'):wpOpsIn (FR none) m P ops Q (List.range' k l.length++rest) a W:=by
 obtain⟨β,σ,R,hI⟩:=h;obtain⟨ps,h1,h2⟩:=hw (fun b=>b<W.heap.size/\¬Yit L β b) (fun b=>n0<=b/\b<W.heap.size/\¬N b) W;unfold Yi5 at h1
 split at h1
 ·rename_i es s1 hes
  split at h1
  ·rename_i hc
   cases h1
   refine Yqi (C:=mkF P tt glob n (fun b=>b<W.heap.size/\¬Yit L β b) (fun b=>n0<=b/\b<W.heap.size/\¬N b) W fx fv) hT (fun _ _ _ h=>h) hnd hq l k _ a W es s1 hl hes (allP_mem h2) ⟨β,σ,R,hI.inv⟩ fun a' W' hH=>?_;obtain⟨β',σ',R',hI'⟩:=hH.restrict hc;obtain⟨N',hN⟩:=hI.next hJ hj hI' rfl hobs hkeep;exact hQ a' W' N' hN
  ·cases h1
 ·cases h1
def litC:D->Option Value
 | .int k x=>some (.int k x)
 | .bool b=>some (.bool b)
 | _=>none
def Zzv:List D->Option (List Value)
 | []=>some []
 | d::l=>match litC d,Zzv l with
  | some v,some vs=>some (v::vs)
  | _,_=>none
def litV:D->Option Value
 | .agg cs=>match Zzv cs with
  | some vs=>some (.agg vs.toArray)
  | none=>none
 | d=>litC d
theorem Zzw {d:D}{v v':Value}(h:litC d=some v')(hr:RelTC σ s R w d v):v=v':=by
 cases d<;>simp only[litC,Option.some.injEq]at h<;>first|(subst h;exact hr)|cases h
theorem Yyv:∀ {ds:List D} {vs vs':List Value},Zzv ds=some vs'->All2 (RelTC σ s R w) ds vs->vs=vs'
 | [],vs,vs',h,hr=>by cases h;exact Ych hr
 | d::l,vs,vs',h,hr=>by
  obtain⟨v,m,rfl,h1,h2⟩:=Yaq hr;simp only[Zzv]at h
  split at h
  ·rename_i u us hu hus
   cases h
   rw[Zzw hu h1,Yyv hus h2]
  ·cases h
theorem Zzu {d:D}{v v':Value}(h:litV d=some v')(hr:RelT β σ s R w d v):v=v':=by
 cases d with
 | agg cs =>
  simp only[litV]at h
  split at h
  ·rename_i vs hvs
   cases h
   obtain⟨us,rfl,hr⟩:=hr;rw[<-Yyv hvs hr]
  ·cases h
 | int k x=>simp only[litV,litC,Option.some.injEq]at h;subst h;exact hr
 | bool b=>simp only[litV,litC,Option.some.injEq]at h;subst h;exact hr
 | _=>simp only[litV,litC]at h;cases h
theorem Fr.val (h:Fr P tt glob n fx fv KE n0 N a W L){i:Nat}{d:D}(hd:(ofL L).tmp i=d){v:Value}(hv:litV d=some v):a.tmps.getD i undef=v:=by
 obtain⟨β,σ,R,h⟩:=h
 have:=h.inv.tmps i
 rw[hd]at this;exact Zzu hv this
theorem Yum {ops:Array Oper}{i:Nat}{l:List Nat}{o:Oper}{m y:Nat}{vs:Array Value}{R:Ending->World->Prop}(ho:ops[i]?=some o)(hg:o.guard=none){c:Call}(hc:o.op=.call c){t:Operand}(hcal:c.callee=.value t)(hev:a.eval t=.func (.yield y) #[] #[])(hargs:c.args.map a.eval=vs)
  (hy:YieldAt Fence.wide 0 P y vs w R) (hK:∀ e w',R e w'->∃ v,e=.returned v/\wpOpsIn (FR none) m P ops Q l (a.put o.dst v) w'):wpOpsIn (FR none) m P ops Q (i::l) a w:=by
 refine wpOpsIn_cons ho hg ⟨fun _ _=>trivial,?_⟩;obtain⟨fn,tmps,assign,body,hrun,hr⟩:=hy;rw[show(FR none).round=none from rfl,Oper.semAt_eq none a.eval o (fun c' hc'=>by rw[hc]at hc';cases hc')]
 have:(execOp a.eval o).run P w=.ok (.round y fn tmps assign body) w:=by
  rw[<-hrun];simp[execOp,hc,resolve,hcal,hev,hargs,Deferred.ofValue,invoke]
 rw[this,Oper.uponIn_round];refine⟨fun x=>by simp[FR,Fence.wide]at x,⟨trivial,fun c' cs hroom=>?_⟩⟩;obtain⟨e,w',hr1,hr2⟩:=hr.2 c' cs (room_wide _);obtain⟨v,rfl,hk⟩:=hK e w' hr1;refine⟨.returned v,w',hk,?_⟩;exact hr2
theorem Ydx {ops:Array Oper}{i:Nat}{l:List Nat}{o:Oper}{f:FuncId}{vs caps:Array Value}{R:Ending->World->Prop}(ho:ops[i]?=some o)(hg:o.guard=none){c:Call}(hc:o.op=.call c){t:Operand}(hcal:c.callee=.value t)(hev:a.eval t=.func (.func f) #[] caps)(hargs:c.args.map a.eval=vs)
  {fn : Func} (h1 : P.funcs[f]? = some fn) (h2 : (fn.name == "runtime.NumGoroutine") = false) (h3 : fn.body.isNone = false) (hcl : Calls P f (vs ++ caps) w R) (hK : ∀ e w',R e w' -> ∃ v,e = .returned v /\ wpOps P ops Q l (a.put o.dst v) w') : wpOps P ops Q (i :: l) a w := by
 rw[wpOps_cons];unfold wpOp;rw[ho]
 have:Region.wanted o (yielded ops a.tmps)=true:=by simp[Region.wanted,hg]
 simp only[this,if_true];refine .inl ?_
 obtain⟨cb,hbody⟩:∃ cb,fn.body=some cb:=by
  cases hb:fn.body with
  | none=>rw[hb]at h3;cases h3
  | some cb=>exact⟨cb,rfl⟩
 have h2' : fn.name ≠ "runtime.NumGoroutine" := by simpa using h2
 have hrun:(execOp a.eval o).run P w=.ok (.enter f (vs++caps)) w:=by
  simp[execOp,hc,resolve,hcal,hev,hargs,Deferred.ofValue,invoke,callFunc,h1,h2',hbody]
 unfold Oper.wp;rw[hrun,Oper.upon_enter];refine hcl.mono fun e w' he=>?_;obtain⟨v,rfl,hk⟩:=hK e w' he;exact hk
def noObs:KV->Bool
 | []=>true
 | (k,_)::l=>(match k with|.obj _=>false|.mp _=>false|_=>true)&&noObs l
theorem Zg1:∀ {L:KV},noObs L=true->∀ k,(ofL L).ob k=none
 | [],_,_=>rfl
 | (k,v)::l,h,j=>by
  simp only[noObs,Bool.and_eq_true]at h;have ih:=Zg1 h.2 j;unfold St.ob at ih ⊢;simp only[ofL];unfold St.set
  have:k.eqb (.obj j)=false:=by
   cases k<;>first|rfl|(simp at h)
  rw[this];exact ih
theorem Zg2:∀ {L:KV},noObs L=true->∀ k,(ofL L).mp k=none
 | [],_,_=>rfl
 | (k,v)::l,h,j=>by
  simp only[noObs,Bool.and_eq_true]at h;have ih:=Zg2 h.2 j;unfold St.mp at ih ⊢;simp only[ofL];unfold St.set
  have:k.eqb (.mp j)=false:=by
   cases k<;>first|rfl|(simp at h)
  rw[this];exact ih
theorem Ye5 {L:KV}(h:noObs L=true):NoOb L:=fun k=>⟨Zg1 h k,Zg2 h k⟩
def Xam (s:St)(i:Nat):Bool:=match s.tmp i with
 | .ptr j o=>Nat.beq j i&&Nat.beq o 0
 | _=>false
theorem Zhc {s:St}{i:Nat}(h:Xam s i=true):s.tmp i=.ptr i 0:=by
 unfold Xam at h
 split at h
 ·rename_i j o hs;simp only[Bool.and_eq_true]at h;rw[hs,Nat.eq_of_beq_eq_true h.1,Nat.eq_of_beq_eq_true h.2]
 ·cases h
theorem Zv2 {L:KV}{i:Nat}{x:Box}(h:(ofL L).bx i=some x):∃ v,(Key.box i,v)∈L:=by
 induction L with
 | nil=>cases h
 | cons kv M ih =>
  obtain⟨k,v⟩:=kv
  by_cases hk:k=.box i
  ·subst hk;exact⟨v,by simp⟩
  ·have:(ofL ((k,v)::M)).bx i=(ofL M).bx i:=by
    simp only[ofL,St.bx];unfold St.set
    have:k.eqb (.box i)=false:=by
     cases hq:k.eqb (.box i) with
     | false=>rfl
     | true=>exact absurd (Yk2 hq) hk
    rw[this]
   rw[this]at h;obtain⟨v',hv'⟩:=ih h;exact⟨v',by simp[hv']⟩
def Xcm (fx:List Nat)(L L':KV):Bool:=L.all fun kv=>match kv.1 with
 | .box i=>(fx.any fun j=>Nat.beq j i)&&Xam (ofL L) i&&Xam (ofL L') i
 | _=>true
theorem Yef {fx:List Nat}{L L':KV}(h:Xcm fx L L'=true):∀ i x,(ofL L).bx i=some x->i∈fx/\(ofL L).tmp i=.ptr i 0/\(ofL L').tmp i=.ptr i 0:=by
 intro i x hx;obtain⟨v,hv⟩:=Zv2 hx
 have:=List.all_eq_true.1 h _ hv
 simp only[Bool.and_eq_true,List.any_eq_true]at this;obtain⟨⟨⟨j,hj,hji⟩,h2⟩,h3⟩:=this
 have:=Nat.eq_of_beq_eq_true hji
 subst this;exact⟨hj,Zhc h2,Zhc h3⟩
def Xj2 (ks:List Key)(L:KV):Bool:=L.all fun kv=>match kv.1 with
 | .box i=>hasK (.box i) ks
 | _=>true
theorem Fr.drop (h:Fr P tt glob n fx fv KE n0 N a W L)(ks:List Key)(hc:Ye0 ks (Ycy (ofL L) ks)=true)(hb:Xj2 ks L=true)(hL:Ycy (ofL L) ks=L')(hob:noObs L'=true):Fr P tt glob n fx fv KE n0 N a W L':=by
 subst hL
 have key:∀ i,(ofL (Ycy (ofL L) ks)).bx i=match hasK (.box i) ks with|true=>(ofL L).bx i|false=>none:=by
  intro i;unfold St.bx;rw[Yq7]
  cases hasK (.box i) ks<;>rfl
 refine h.restrict hc (fun i x hx=>?_) (fun i x hx=>?_) (Ye5 hob)
 ·rw[key]at hx
  split at hx
  ·exact hx
  ·cases hx
 ·obtain⟨v,hv⟩:=Zv2 hx
  have:=List.all_eq_true.1 hb _ hv
  simp only at this;exact⟨x,by rw[key,this];exact hx⟩
theorem Fr.path {α:Type}{J:List α->(Nat->Prop)->World->Prop}(hm:P.follows .mixedOrders=true)(hT:Ybu P tt)(hJ:Abides J){pre:List α}(hj:J pre N W)(h:Fr P tt glob n fx fv KE n0 N a W L){c:Code}{m:Nat}{dec:List (Nat×Bool)}{orc:List (Nat×D)}{lorc:Lorc}{ks:List Key}{e:Ex}
  (hr:∀ ke no w1,∃ ps,runK (mkF P tt glob n ke no w1 fx fv) dec orc lorc c L ks=some (ps,e,L')/\allP ps) (hob:noObs L'=true) (hk:Xcm fx L L'=true) (hQ:∀ a' W' N',FrNext P tt glob n fx fv KE n0 N N' J pre a' W W' L'->Q e.out a' W'):c.wpIn (FR none) m P Q a W :=
 h.piece hJ hj (Post:=fun e' L''=>e'=e/\L''=L') (fun ke no w1=>by
  obtain⟨ps,h1,h2⟩:=hr ke no w1;exact WpL.path (Xav hm hT) h1 h2 ⟨rfl,rfl⟩) (by rintro e' L'' ⟨rfl,rfl⟩;exact Ye5 hob) (by rintro e' L'' ⟨rfl,rfl⟩;exact Yef hk) (by rintro e' L'' a' W' N' ⟨rfl,rfl⟩ hN;exact hQ a' W' N' hN)
theorem Zic {c:Code}{m:Nat}(h:c.wpIn (FR none) m P (Exit.noGoto Q) a w):(Code.scope c).wpIn (FR none) m P Q a w :=
 wpIn_wide.2 (wp_scope_straight ((wpIn_wide (n:=m)).1 h))
theorem Yhk {t:TypeId}{b:Nat}{v:Value}(hT:Ybu P tt){ti:TI}(hti:tt t=some ti)(ha:ti.agg=false)(hs:ti.sz=1)(hc:w.cell? ⟨b,0,none⟩=some v):(Instr.loadAt t (.pointer (some ⟨b,0,none⟩))).run P w=.ok v w:=by
 have:=Yfz (P:=P) (C:=mkF P tt (fun _=>none) 0 (fun _=>False) (fun _=>False) w [] (fun _=>undef)) (w:=w) (hT t ti hti) (b:=b) (o':=0) (off:=0) [v] (fun j u hu=>by
  cases j with
  | zero=>simpa using (show w.cell? ⟨b,0+0,none⟩=some u by simp at hu;rw[<-hu];exact hc)
  | succ j=>simp at hu) (by simp[hs]) (fun _=>hs)
 simpa [ha] using this
end
end Go.Di
