/- Part 1: contracts are proved. No condition. -/
import Derived.Test.YtfkmodcjddfeiaaGreatDoorDi00
import Derived.Laws.Append
import Derived.Laws.AppendOwn
import Derived.Laws.IdiomCopy
set_option linter.unusedVariables false
set_option linter.unusedSimpArgs false
namespace Go.Di
inductive TK where
 | int (k:IntKind)
 | bool
 | struct (fs:List (Nat×TypeId))
 | array (n:Nat) (el:TypeId)
 | slice (el:TypeId)
 | map (kt et:TypeId) (spot:Bool)
 | other
structure TI where
 k:TK
 sz:Nat
 bytes:Nat
 zero:List D
 e:Option E
 eq:Bool:=false
def Yac {α:Type}:List (Nat×α)->Nat->Option α
 | [],_=>none
 | (k,v)::l,n=>match Nat.beq k n with
  | true=>some v
  | false=>Yac l n
def TI.agg (t:TI):Bool:=match t.k with
 | .struct _=>true
 | .array _ _=>true
 | _=>false
inductive Key where
 | tmp (i:Nat)
 | box (i:Nat)
 | obj (i:Nat)
 | mp (i:Nat)
def Key.eqb:Key->Key->Bool
 | .tmp a,.tmp b=>Nat.beq a b
 | .box a,.box b=>Nat.beq a b
 | .obj a,.obj b=>Nat.beq a b
 | .mp a,.mp b=>Nat.beq a b
 | _,_=>false
structure Box where
 frozen:Bool
 cells:List D
structure Ob where
 e:E
 xs:List e.α
inductive Val where
 | d (x:D)
 | bx (b:Option Box)
 | ob (o:Option Ob)
 | mp (m:Option Mp)
 | rw (zs:List Int)
abbrev St:=Key->Val
def St.set (s:St)(k:Key)(v:Val):St:=fun k'=>match k.eqb k' with
 | true=>v
 | false=>s k'
def St.apply (s:St):List (Key×Val)->St
 | []=>s
 | (k,v)::l=>(s.set k v).apply l
inductive M where
 | done
 | get (k:Key) (f:Val->M)
 | put (k:Key) (v:Val) (m:M)
 | ask (p:Prop) (m:M)
 | fail
structure Eff where
 ps:List Prop
 rd:List (Key×Val)
 wr:List (Key×Val)
def M.exec:M->St->Option Eff
 | .done,_=>some ⟨[],[],[]⟩
 | .get k f,s=>match (f (s k)).exec s with
  | some e=>some ⟨e.ps,(k,s k)::e.rd,e.wr⟩
  | none=>none
 | .put k v m,s=>match m.exec s with
  | some e=>some ⟨e.ps,e.rd,(k,v)::e.wr⟩
  | none=>none
 | .ask p m,s=>match m.exec s with
  | some e=>some ⟨p::e.ps,e.rd,e.wr⟩
  | none=>none
 | .fail,_=>none
inductive Ex where
 | normal
 | exit (id:Nat)
 | ret
structure Cfg where
 tt:TypeId->Option TI
 glob:Nat->Option (List D)
 con:FuncId->List D->D->Prop
 nt:Nat
 lk:Code->List (Key×Val)->Ex->List (Key×Val)->Prop
 dfs:List Deferred:=[]
 inr:Bool:=false
 ke:Nat->Prop:=fun _=>False
 no:Nat->Prop:=fun _=>False
 w1:World:=default
 fixed:List Nat:=[]
 fv:Nat->Value:=fun _=>.tuple #[]
def elt (tt:TypeId->Option TI)(t:TypeId):Option (E×Nat):=match tt t with
 | some ti=>match ti.k with
  | .slice el=>match tt el with
   | some te=>match te.e with
    | some e=>match Nat.beq e.sz te.sz with
     | true=>some (e,te.bytes)
     | false=>none
    | none=>none
   | none=>none
  | _=>none
 | none=>none
def Ydy (tt:TypeId->Option TI)(t:TypeId):D->D
 | .nil=>match elt tt t with
  | some (e,_)=>.sl true e []
  | none=>.nil
 | d=>d
def Zvh:Value->Option D
 | .int k n=>some (.int k n)
 | .bool b=>some (.bool b)
 | .slice none 0 0=>some .nil
 | .nilFunc=>some .nilfn
 | _=>none
def opd (C:Cfg)(x:Operand)(k:D->M):M:=match x with
 | .tmp t=>.get (.tmp t) fun v=>match v with
  | .d d=>k d
  | _=>.fail
 | .const v=>match Zvh v with
  | some d=>k d
  | none=>.fail
 | .global g=>match C.glob g with
  | some cs=>k (.ref cs 0)
  | none=>.fail
 | .func f=>k (.fn f [] [])
def opds (C:Cfg):List Operand->(List D->M)->M
 | [],k=>k []
 | x::l,k=>opd C x fun d=>opds C l fun ds=>k (d::ds)
def cellsOf:D->List D
 | .agg cs=>cs
 | d=>[d]
def Ynn (d:D)(k:D->M):M:=match d with
 | .own i n=>.get (.obj i) fun v=>match v with
  | .ob (some o)=>.ask (n=o.xs.length) (k (.sl false o.e o.xs))
  | _=>.fail
 | .undef=>.fail
 | .ptr _ _=>.fail
 | .ref _ _=>.fail
 | .agg _=>.fail
 | .tup _=>.fail
 | .mref _=>.fail
 | .row _ _=>.fail
 | d=>k d
def Yie:List D->(List D->M)->M
 | [],k=>k []
 | d::l,k=>Ynn d fun d'=>Yie l fun l'=>k (d'::l')
def Zgk (d:D)(k:D->M):M:=match d with
 | .agg cs=>Yie cs fun cs'=>k (.agg cs')
 | .ref cs o=>k (.ref cs o)
 | d=>Ynn d k
def Yqq:List D->(List D->M)->M
 | [],k=>k []
 | d::l,k=>Zgk d fun d'=>Yqq l fun l'=>k (d'::l')
def Zad (d:D)(k:(e:E)->List e.α->M):M:=match d with
 | .sl _ e xs=>k e xs
 | .own i n=>.get (.obj i) fun v=>match v with
  | .ob (some o)=>.ask (n=o.xs.length) (k o.e o.xs)
  | _=>.fail
 | _=>.fail
def Yae (z:Int):Prop:=-9223372036854775808<=z/\z<=9223372036854775807
def mx (x y:Int):Int:=if y>x then y else x
def mn (x y:Int):Int:=if y<x then y else x
def Yiw (cs:List D)(off:Nat)(new:List D):List D:=cs.take off++(new++cs.drop (off+new.length))
def Xa8 (tt:TypeId->Option TI)(fs:List (Nat×TypeId)):List D->List (Nat×D)->Option (List D)
 | cs,[]=>some cs
 | cs,(i,d)::l=>match fs[i]? with
  | some (off,ft)=>match tt ft with
   | some ti =>
    let new:=cellsOf (Ydy tt ft d)
    match Nat.beq new.length ti.sz,Nat.ble (off+new.length) cs.length with
    | true,true=>Xa8 tt fs (Yiw cs off new) l
    | _,_=>none
   | none=>none
  | none=>none
def Xa9 (el:TypeId)(tt:TypeId->Option TI)(sz:Nat):List D->List (Nat×D)->Option (List D)
 | cs,[]=>some cs
 | cs,(i,d)::l =>
  let new:=cellsOf (Ydy tt el d)
  match Nat.beq new.length sz,Nat.ble (i*sz+new.length) cs.length with
  | true,true=>Xa9 el tt sz (Yiw cs (i*sz) new) l
  | _,_=>none
def Yii (ti:TI)(cs:List D)(off:Nat)(k:D->M):M:=match allI cs with
 | some zs=>.ask (off+ti.sz<=zs.length) (match ti.agg with
  | true=>k (.agg ((List.range ti.sz).map fun j=>.int .i64 (zs.getD (off+j) 0)))
  | false=>match Nat.beq ti.sz 1 with
   | true=>k (.int .i64 (zs.getD off 0))
   | false=>.fail)
 | none=>match Nat.ble (off+ti.sz) cs.length with
  | true=>match ti.agg with
   | true=>k (.agg ((cs.drop off).take ti.sz))
   | false=>match Nat.beq ti.sz 1,cs[off]? with
    | true,some d=>k d
    | _,_=>.fail
  | false=>.fail
def Zdt (ti:TI)(zs:List Int)(off:Nat)(k:D->M):M:=.ask (off+ti.sz<=zs.length) (match ti.agg with
  | true=>k (.agg ((List.range ti.sz).map fun j=>.int .i64 (zs.getD (off+j) 0)))
  | false=>match Nat.beq ti.sz 1 with
   | true=>k (.int .i64 (zs.getD off 0))
   | false=>.fail)
def intC (zs:List Int):List D:=zs.map fun z=>.int .i64 z
theorem Yr4:∀ zs:List Int,allI (intC zs)=some zs
 | []=>rfl
 | z::zs=>by
  have:=Yr4 zs
  simp only[intC,List.map_cons,allI,asI]at this ⊢;rw[this]
theorem Zds (ti:TI)(zs:List Int)(off:Nat)(k:D->M):Yii ti (intC zs) off k=Zdt ti zs off k:=by
 unfold Yii Zdt;rw[Yr4]
def cmpD (op:BinOp)(x y:Int):Option Bool:=match op with
 | .eql=>some (x==y)
 | .neq=>some (x != y)
 | .lss=>some (decide (x<y))
 | .leq=>some (decide (x<=y))
 | .gtr=>some (decide (x>y))
 | .geq=>some (decide (x>=y))
 | _=>none
def Xj3 (op:BinOp)(x y:Int):Option Int:=match op with
 | .and=>some (IntKind.i64.wrap ((BitVec.ofInt 64 x&&& BitVec.ofInt 64 y).toNat:Int))
 | .or=>some (IntKind.i64.wrap ((BitVec.ofInt 64 x||| BitVec.ofInt 64 y).toNat:Int))
 | _=>none
def eqI:List Int->List Int->Bool
 | [],[]=>true
 | a::l,b::m=>(a==b)&&eqI l m
 | _,_=>false
def eqT (C:Cfg)(t:TypeId)(n:Nat):Bool:=match C.tt t with
 | some ti=>ti.eq&&Nat.beq n ti.sz
 | none=>false
def Ztx (C:Cfg)(t:TypeId):Bool:=match C.tt t with
 | some ti=>match ti.k with
  | .bool=>true
  | _=>false
 | none=>false
def binI (op:BinOp)(a b:Int)(k:D->M):M:=match op with
 | .add=>.ask (Yae (a+b)) (k (.int .i64 (a+b)))
 | .sub=>.ask (Yae (a-b)) (k (.int .i64 (a-b)))
 | .mul=>.ask (Yae (a*b)) (k (.int .i64 (a*b)))
 | .quo=>.ask (b≠0/\Yae (a.tdiv b)) (k (.int .i64 (a.tdiv b)))
 | .rem=>.ask (b≠0) (k (.int .i64 (a.tmod b)))
 | .shl=>.ask (0<=b/\Yae (a*2 ^ min b.toNat 64)) (k (.int .i64 (a*2 ^ min b.toNat 64)))
 | .shr=>.ask (0<=b) (k (.int .i64 (a.fdiv (2 ^ min b.toNat 64))))
 | op=>match cmpD op a b with
  | some t=>k (.bool t)
  | none=>match Xj3 op a b with
   | some z=>k (.int .i64 z)
   | none=>.fail
def binD (C:Cfg)(op:BinOp)(ty:TypeId)(x y:D)(k:D->M):M:=match x with
 | .int .i64 a=>match y with
  | .int .i64 b=>binI op a b k
  | _=>.fail
 | .bool a=>match y,Ztx C ty with
  | .bool b,true=>match op with
   | .eql=>k (.bool (a==b))
   | .neq=>k (.bool (!(a==b)))
   | _=>.fail
  | _,_=>.fail
 | .agg a=>match y with
  | .agg b=>match allI a,allI b with
   | some x,some y=>match eqT C ty x.length,eqT C ty y.length with
    | true,true=>match op with
     | .eql=>k (.bool (eqI x y))
     | .neq=>k (.bool (!(eqI x y)))
     | _=>.fail
    | _,_=>.fail
   | _,_=>.fail
  | _=>.fail
 | _=>.fail
def Zfx (dst:Option Tmp)(orc:List (Nat×D))(op:BinOp):Option Int:=match op with
 | .add=>match dst with
  | some t=>match Yac orc t with
   | some (.int .i64 z)=>some z
   | _=>none
  | none=>none
 | _=>none
def binW (C:Cfg)(dst:Option Tmp)(orc:List (Nat×D))(op:BinOp)(ty:TypeId)(x y:D)(k:D->M):M:=match Zfx dst orc op with
 | none=>binD C op ty x y k
 | some z=>match x,y with
  | .int .i64 a,.int .i64 b=>.ask (z=IntKind.i64.wrap (a+b)) (k (.int .i64 z))
  | _,_=>.fail
def okT (C:Cfg)(t:Nat):Bool:=Nat.blt t C.nt&&!(C.fixed.any fun i=>Nat.beq i t)
def setTmp (C:Cfg)(dst:Option Tmp)(d:D):M:=match dst with
 | some t=>match okT C t with
  | true=>.put (.tmp t) (.d d) .done
  | false=>.fail
 | none=>.done
def newBox (C:Cfg)(dst:Option Tmp)(cells:List D):M:=match dst with
 | some t=>match okT C t with
  | true=>.get (.box t) fun v=>match v with
   | .bx none=>.put (.box t) (.bx (some ⟨false,cells⟩)) (.put (.tmp t) (.d (.ptr t 0)) .done)
   | _=>.fail
  | false=>.fail
 | none=>.fail
def Xgd:D->Bool
 | .int _ _=>true|.bool _=>true|.nil=>true|.nilmap=>true|.nilfn=>true|.sl _ _ _=>true|.map _=>true|.fn _ _ _=>true|.own _ _=>true|.mref _=>true|.self _ _ _=>true
 | _=>false
def chk:List D->M->M
 | [],m=>m
 | d::l,m=>match d with
  | .own i n=>.get (.obj i) fun v=>match v with
   | .ob (some o)=>.ask (n=o.xs.length) (chk l m)
   | _=>.fail
  | d=>match Xgd d with
   | true=>chk l m
   | false=>.fail
def Zhx (e:E):List (List D)->Option (List e.α)
 | []=>some []
 | cs::l=>match e.dec cs,Zhx e l with
  | some x,some xs=>some (x::xs)
  | _,_=>none
def is0:D->Bool
 | .int _ _=>true|.bool _=>true|.nil=>true|.nilmap=>true|.nilfn=>true|.sl _ _ _=>true|.map _=>true
 | _=>false
def is0A:D->Bool
 | .agg cs=>cs.all is0
 | d=>is0 d
def Yjv:List Nat->List D->List (List D)->(List (List D)->M)->M
 | _,[],acc,k=>k acc.reverse
 | seen,d::l,acc,k=>match d with
  | .ptr i 0=>match seen.all (fun j=>!(Nat.beq j i)) with
   | true=>.get (.box i) fun v=>match v with
    | .bx (some b)=>Yie b.cells fun cs=>match cs.all is0 with
     | true=>.put (.box i) (.bx (some ⟨true,cs⟩)) (Yjv (i::seen) l (cs::acc) k)
     | false=>.fail
    | _=>.fail
   | false=>.fail
  | .ref cs 0=>match cs.all is0 with
   | true=>Yjv seen l (cs::acc) k
   | false=>.fail
  | _=>.fail
def appD (C:Cfg)(dst:Option Tmp)(t:TypeId)(x y:D):M:=match elt C.tt t,dst with
 | some (e0,bytes),some d=>Zad y fun e' ys=>match E.same e' e0 with
  | some h=>match x with
   | .sl true e xs=>match E.same e e0 with
    | some h'=>.get (.obj d) fun v=>match v with
     | .ob none=>.get (.mp d) fun vm=>match vm with
      | .mp none=>.ask ((h'.down▸xs++h.down▸ys:List e0.α).length*(bytes+1)<=140737488355328)
       (.put (.obj d) (.ob (some ⟨e0,(h'.down▸xs++h.down▸ys:List e0.α)⟩)) (setTmp C dst (.own d (h'.down▸xs++h.down▸ys:List e0.α).length)))
      | _=>.fail
     | _=>.fail
    | none=>.fail
   | .own i n=>.get (.obj i) fun v=>match v with
    | .ob (some o)=>match E.same o.e e0 with
     | some h'=>.ask (n=o.xs.length) (.ask ((h'.down▸o.xs++h.down▸ys:List e0.α).length*(bytes+1)<=140737488355328)
       (.put (.obj i) (.ob (some ⟨e0,(h'.down▸o.xs++h.down▸ys:List e0.α)⟩)) (setTmp C dst (.own i (h'.down▸o.xs++h.down▸ys:List e0.α).length))))
     | none=>.fail
    | _=>.fail
   | _=>.fail
  | none=>.fail
 | _,_=>.fail
def Xgg (dst:Option Tmp)(orc:List (Nat×D)):Bool:=match dst with
 | some d=>match Yac orc d with
  | some .nil=>true
  | _=>false
 | none=>false
def appB (C:Cfg)(dst:Option Tmp)(t:TypeId)(x y:D):M:=match elt C.tt t,dst with
 | some (e0,bytes),some d=>Zad y fun e' ys=>match E.same e' e0 with
  | some h=>match x with
   | .sl true e []=>match E.same e e0 with
    | some _=>.get (.obj d) fun v=>match v with
     | .ob none=>.get (.mp d) fun vm=>match vm with
      | .mp none=>.ask ((h.down▸ys:List e0.α).length*bytes<=140737488355328/\(h.down▸ys:List e0.α).length<=140737488355328)
       (.put (.obj d) (.ob (some ⟨e0,(h.down▸ys:List e0.α)⟩)) (setTmp C dst (.own d (h.down▸ys:List e0.α).length)))
      | _=>.fail
     | _=>.fail
    | none=>.fail
   | _=>.fail
  | none=>.fail
 | _,_=>.fail
def Xdo (dst:Option Tmp)(orc:List (Nat×D)):Bool:=match dst with
 | some d=>match Yac orc d with
  | some (.row _ _)=>true
  | _=>false
 | none=>false
def Yvx:D->Bool
 | .sl true .int []=>true
 | _=>false
def appX (C:Cfg)(dst:Option Tmp)(orc:List (Nat×D))(t:TypeId)(a b:D):M:=match b with
 | .row i n=>match Yvx a,elt C.tt t,dst with
  | true,some (.int,bytes),some d=>.get (.box i) fun v=>match v with
   | .rw zs=>.get (.obj d) fun v=>match v with
    | .ob none=>.get (.mp d) fun vm=>match vm with
     | .mp none=>.ask (n=zs.length/\0<n/\n*(bytes+1)<=140737488355328) (.put (.obj d) (.ob (some ⟨.int,zs⟩)) (setTmp C dst (.own d zs.length)))
     | _=>.fail
    | _=>.fail
   | _=>.fail
  | _,_,_=>.fail
 | b=>match Xdo dst orc with
  | false=>match Xgg dst orc with
   | false=>appD C dst t (Ydy C.tt t a) (Ydy C.tt t b)
   | true=>appB C dst t (Ydy C.tt t a) (Ydy C.tt t b)
  | true=>match Yvx a,elt C.tt t,dst with
   | true,some (.int,bytes),some d=>Zad b fun e ys=>match E.same e .int with
    | some h=>.get (.box d) fun v=>match v with
     | .bx none=>.ask (0<(h.down▸ys:List E.int.α).length/\(h.down▸ys:List E.int.α).length*(bytes+1)<=140737488355328)
      (.put (.box d) (.rw (h.down▸ys:List E.int.α)) (setTmp C dst (.row d (h.down▸ys:List E.int.α).length)))
     | _=>.fail
    | none=>.fail
   | _,_,_=>.fail
def Xb1 (n:Int):Option D->Option Int
 | none=>some n
 | some (.int .i64 z)=>some z
 | _=>none
def Xcd (e0:E)(x:D)(lo hi mx:Option D)(k:D->M):M:=Zad x fun e xs=>match E.same e e0 with
 | none=>.fail
 | some _=>match Xb1 0 lo,Xb1 xs.length hi with
  | some l,some h=>match mx with
   | none=>.ask (0<=l/\l<=h/\h<=xs.length) (k (.sl false e ((xs.take h.toNat).drop l.toNat)))
   | some (.int .i64 m)=>match hi with
    | some _=>.ask (0<=l/\l<=h/\h<=xs.length/\m=h) (k (.sl true e ((xs.take h.toNat).drop l.toNat)))
    | none=>.fail
   | _=>.fail
  | _,_=>.fail
def Zgw (C:Cfg)(x:Option Operand)(k:Option D->M):M:=match x with
 | none=>k none
 | some x=>opd C x fun d=>k (some d)
def Zwo:D->D
 | .sl _ e xs=>.sl false e xs
 | d=>d
def weak:D->D
 | .agg cs=>.agg (cs.map Zwo)
 | d=>Zwo d
def Xby (C:Cfg)(dst:Option Tmp)(orc:List (Nat×D))(f:FuncId)(args:List D):M:=match dst with
 | some t=>match Yac orc t with
  | some r=>.ask (C.con f args r) (setTmp C dst r)
  | none=>.fail
 | none=>.fail
abbrev K2:=Int×Int
def Ybq {α:Type}:List (K2×α)->K2->Option α
 | [],_=>none
 | (k',v)::l,k=>if k=k' then some v else Ybq l k
def updK {α:Type}:List (K2×α)->K2->α->List (K2×α)
 | [],k,v=>[(k,v)]
 | (k',u)::l,k,v=>if k=k' then(k,v)::l else(k',u)::updK l k v
def Cfg.plain (C:Cfg):Prop:=(∀ b,¬C.ke b)/\(∀ b,¬C.no b)/\C.w1.heap.size=0
def intT (C:Cfg)(t:TypeId):Bool:=match C.tt t with
 | some ti=>(match ti.k with|.int _=>true|_=>false)&&Nat.beq ti.sz 1
 | none=>false
def keyT (C:Cfg)(kt:TypeId):Bool:=match C.tt kt with
 | some tk=>tk.eq&&Nat.beq tk.sz 2&&(match tk.k with
  | .struct [(0,x),(1,y)]=>intT C x&&intT C y
  | _=>false)
 | none=>false
def Zs7 (C:Cfg)(t:TypeId):Option (TypeId×TypeId×Bool):=match C.tt t with
 | some ti=>match ti.k with
  | .map kt et sp=>match keyT C kt,C.tt et with
   | true,some te=>match sp with
    | true=>match te.zero,Nat.beq te.sz 2,te.agg with
     | [.int .i64 0,.int .i64 0],true,true=>some (kt,et,true)
     | _,_,_=>none
    | false=>match te.zero,Nat.beq te.sz 1,te.agg with
     | [.bool false],true,false=>some (kt,et,false)
     | _,_,_=>none
   | _,_=>none
  | _=>none
 | none=>none
def key2:D->Option K2
 | .agg [.int .i64 a,.int .i64 b]=>some (a,b)
 | _=>none
def Xc8:D->Option Span
 | .agg [.int .i64 a,.int .i64 b]=>some ⟨a,b⟩
 | _=>none
def updD (C:Cfg)(dst:Option Tmp)(t:TypeId)(m k x:D):M:=match m with
 | .mref i=>.get (.mp i) fun v=>match v with
  | .mp (some m)=>match Zs7 C t,key2 k with
   | some (_,_,true),some k=>match m,Xc8 x with
    | .spot l,some s=>.ask C.plain (.put (.mp i) (.mp (some (.spot (updK l k s)))) (setTmp C dst .undef))
    | _,_=>.fail
   | some (_,_,false),some k=>match m,x with
    | .work l,.bool b=>.ask C.plain (.put (.mp i) (.mp (some (.work (updK l k b)))) (setTmp C dst .undef))
    | _,_=>.fail
   | _,_=>.fail
  | _=>.fail
 | _=>.fail
def Xe7 (m:D)(k:Mp->M):M:=match m with
 | .mref i=>.get (.mp i) fun v=>match v with
  | .mp (some m)=>k m
  | _=>.fail
 | .map m=>k m
 | _=>.fail
def Xff (C:Cfg)(dst:Option Tmp)(t:TypeId)(m k:D)(ok:Bool):M:=Xe7 m fun m=>match Zs7 C t,key2 k with
 | some (_,_,true),some k=>match m,ok with
  | .spot l,true=>setTmp C dst (.tup [.agg [.int .i64 ((Ybq l k).getD ⟨0,0⟩).lo,.int .i64 ((Ybq l k).getD ⟨0,0⟩).hi],.bool (Ybq l k).isSome])
  | _,_=>.fail
 | some (_,_,false),some k=>match m,ok with
  | .work l,false=>setTmp C dst (.bool ((Ybq l k).getD false))
  | _,_=>.fail
 | _,_=>.fail
def Zve:Bool->Mp
 | true=>.spot []
 | false=>.work []
def sem (C:Cfg)(dec:List (Nat×Bool))(orc:List (Nat×D))(o:Oper):M:=match o.op with
 | .move x=>opd C x fun d=>setTmp C o.dst (Ydy C.tt o.type d)
 | .assign x=>opd C x fun d=>setTmp C o.dst (Ydy C.tt o.type d)
 | .pick (.tmp c) a b=>match Yac dec c with
  | some t=>.get (.tmp c) fun v=>match v with
   | .d (.bool u)=>.ask (u=t) (opd C (match t with|true=>a|false=>b) fun d=>setTmp C o.dst d)
   | _=>.fail
  | none=>.get (.tmp c) fun v=>match v with
   | .d (.bool true)=>opd C a fun d=>setTmp C o.dst d
   | .d (.bool false)=>opd C b fun d=>setTmp C o.dst d
   | _=>.fail
 | .alloc t=>match C.tt t with
  | some ti=>newBox C o.dst ti.zero
  | none=>.fail
 | .box t x=>opd C x fun d=>chk (cellsOf (Ydy C.tt t d)) (newBox C o.dst (cellsOf (Ydy C.tt t d)))
 | .build t parts=>opds C (parts.toList.map (·.2)) fun ds=>chk (ds.flatMap cellsOf) (match C.tt t with
  | some ti=>match ti.k with
   | .struct fs=>match Xa8 C.tt fs ti.zero ((parts.toList.map (·.1)).zip ds) with
    | some cs=>setTmp C o.dst (.agg cs)
    | none=>.fail
   | .array _ el=>match C.tt el with
    | some te=>match Xa9 el C.tt te.sz ti.zero ((parts.toList.map (·.1)).zip ds) with
     | some cs=>setTmp C o.dst (.agg cs)
     | none=>.fail
    | none=>.fail
   | _=>.fail
  | none=>.fail)
 | .buildSlice t n parts=>match elt C.tt t,eqNs (parts.toList.map (·.1)) n&&Nat.ble (n*12) 16777216 with
  | some (e,_),true=>opds C (parts.toList.map (·.2)) fun ds=>resRows (ds.map cellsOf) fun css=>match Zhx e css with
   | some xs=>setTmp C o.dst (.sl true e xs)
   | none=>.fail
  | _,_=>.fail
 | .load t a=>match C.tt t with
  | some ti=>opd C a fun d=>match d with
   | .ptr b off=>.get (.box b) fun v=>match v with
    | .bx (some bx)=>Yii ti bx.cells off fun d=>setTmp C o.dst d
    | .rw zs=>Zdt ti zs off fun d=>setTmp C o.dst d
    | _=>.fail
   | .ref cs off=>Yii ti cs off fun d=>setTmp C o.dst d
   | _=>.fail
  | none=>.fail
 | .store t a x=>match C.tt t with
  | some ti=>opd C a fun d=>opd C x fun y=>match d with
   | .ptr b off=>.get (.box b) fun v=>match v with
    | .bx (some bx)=>match bx.frozen,Nat.beq (cellsOf (Ydy C.tt t y)).length ti.sz,Nat.ble (off+ti.sz) bx.cells.length with
     | false,true,true=>chk (cellsOf (Ydy C.tt t y)) (.put (.box b) (.bx (some ⟨false,Yiw bx.cells off (cellsOf (Ydy C.tt t y))⟩)) (setTmp C o.dst .undef))
     | _,_,_=>.fail
    | .rw zs=>match y,Nat.beq ti.sz 1 with
     | .int .i64 v,true=>.ask (off<zs.length) (.put (.box b) (.rw (zs.set off v)) (setTmp C o.dst .undef))
     | _,_=>.fail
    | _=>.fail
   | _=>.fail
  | none=>.fail
 | .binOp op t x y _=>opd C x fun a=>opd C y fun b=>binW C o.dst orc op t a b fun d=>setTmp C o.dst d
 | .unOp .not _ x=>opd C x fun a=>match a with
  | .bool b=>setTmp C o.dst (.bool (!b))
  | _=>.fail
 | .unOp .neg _ x=>opd C x fun a=>match a with
  | .int .i64 z=>.ask (Yae (0-z)) (setTmp C o.dst (.int .i64 (0-z)))
  | _=>.fail
 | .makeFunc (.func f) first caps=>opds C first.toList fun ds=>Yqq ds fun fs=>match fs.all is0A with
  | true=>opds C caps.toList fun cs=>Yjv [] cs [] fun caps=>setTmp C o.dst (.fn f fs caps)
  | false=>.fail
 | .slice t x lo hi mx=>match elt C.tt t with
  | some (e0,_)=>opd C x fun d=>Zgw C lo fun l=>Zgw C hi fun h=>Zgw C mx fun m=>Xcd e0 (Ydy C.tt t d) l h m fun r=>setTmp C o.dst r
  | none=>.fail
 | .fieldAddr t x f=>match C.tt t with
  | some ti=>match ti.k with
   | .struct fs=>match fs[f]? with
    | some (off,ft)=>match C.tt ft with
     | some tf=>match Nat.beq tf.sz 0 with
      | false=>opd C x fun d=>match d with
       | .ptr b o'=>setTmp C o.dst (.ptr b (o'+off))
       | .ref cs o'=>setTmp C o.dst (.ref cs (o'+off))
       | _=>.fail
      | true=>.fail
     | none=>.fail
    | none=>.fail
   | _=>.fail
  | none=>.fail
 | .field t x f=>match C.tt t with
  | some ti=>match ti.k with
   | .struct fs=>match fs[f]? with
    | some (off,ft)=>match C.tt ft with
     | some tf=>opd C x fun d=>match d with
      | .agg cs=>Yii tf cs off fun d=>setTmp C o.dst d
      | _=>.fail
     | none=>.fail
    | none=>.fail
   | _=>.fail
  | none=>.fail
 | .indexAddr t x ix=>match C.tt t with
  | some ti=>match ti.k with
   | .array n el=>match C.tt el with
    | some te=>opd C x fun d=>opd C ix fun i=>match d,i with
     | .ptr b off,.int .i64 z=>.ask (0<=z/\z<n) (setTmp C o.dst (.ptr b (off+z.toNat*te.sz)))
     | .ref cs off,.int .i64 z=>.ask (0<=z/\z<n) (setTmp C o.dst (.ref cs (off+z.toNat*te.sz)))
     | _,_=>.fail
    | none=>.fail
   | .slice el=>match elt C.tt t with
    | some (e0,_)=>opd C x fun d=>opd C ix fun i=>match i with
     | .int .i64 z=>match d with
      | .row b n=>.ask (0<=z/\z<n) (setTmp C o.dst (.ptr b (z.toNat*e0.sz)))
      | d=>Zad (Ydy C.tt t d) fun e xs=>match E.same e e0 with
      | some _=>.ask (0<=z/\z<xs.length) (setTmp C o.dst (.ref (e.enc (xs.getD z.toNat e.z)) 0))
      | none=>.fail
     | _=>.fail
    | none=>.fail
   | _=>.fail
  | none=>.fail
 | .index t x ix=>match C.tt t with
  | some ti=>match ti.k with
   | .array n el=>match C.tt el with
    | some te=>opd C x fun d=>opd C ix fun i=>match d,i with
     | .agg cs,.int .i64 z=>.ask (0<=z/\z<n) (Yii te cs (z.toNat*te.sz) fun d=>setTmp C o.dst d)
     | _,_=>.fail
    | none=>.fail
   | _=>.fail
  | none=>.fail
 | .makeMap t none=>match Zs7 C t,o.dst with
  | some (_,_,sp),some d=>match okT C d with
   | true=>.get (.mp d) fun v=>match v with
    | .mp none=>.get (.obj d) fun v=>match v with
     | .ob none=>.ask C.plain (.put (.mp d) (.mp (some (Zve sp))) (.put (.tmp d) (.d (.mref d)) .done))
     | _=>.fail
    | _=>.fail
   | false=>.fail
  | _,_=>.fail
 | .insert t m k x=>opd C m fun m=>opd C k fun k=>opd C x fun x=>updD C o.dst t m k x
 | .mapUpdate t m k x=>opd C m fun m=>opd C k fun k=>opd C x fun x=>updD C o.dst t m k x
 | .lookup t m k ok=>opd C m fun m=>opd C k fun k=>Xff C o.dst t m k ok
 | .extract x ix=>opd C x fun d=>match d with
  | .tup vs=>match vs[ix]? with
   | some d=>setTmp C o.dst d
   | none=>.fail
  | _=>.fail
 | .call c=>match c.callee with
  | .builtin .len=>match c.args.toList,c.argTypes.toList with
   | [x],[t]=>match C.tt t with
    | some ti=>match ti.k with
     | .slice _=>opd C x fun d=>match d with
      | .row _ n=>setTmp C o.dst (.int .i64 n)
      | d=>Zad (Ydy C.tt t d) fun _ xs=>setTmp C o.dst (.int .i64 xs.length)
     | .array n _=>opd C x fun _=>setTmp C o.dst (.int .i64 n)
     | _=>.fail
    | none=>.fail
   | _,_=>.fail
  | .builtin .max=>opds C c.args.toList fun ds=>match allI ds with
   | some (z::zs)=>setTmp C o.dst (.int .i64 (zs.foldl mx z))
   | _=>.fail
  | .builtin .min=>opds C c.args.toList fun ds=>match allI ds with
   | some (z::zs)=>setTmp C o.dst (.int .i64 (zs.foldl mn z))
   | _=>.fail
  | .builtin .append=>match c.args.toList,c.argTypes.toList with
   | [x,y],[t,u]=>match Nat.beq t u with
    | true=>opd C x fun a=>opd C y fun b=>appX C o.dst orc t a b
    | false=>.fail
   | _,_=>.fail
  | .value f=>opd C f fun g=>match g with
   | .fn f first caps=>match Nat.beq c.args.toList.length c.argTypes.toList.length with
    | true=>opds C c.args.toList fun ds=>Yqq ((c.argTypes.toList.zip ds).map fun p=>Ydy C.tt p.1 p.2) fun args =>
     Xby C o.dst orc f (first++args.map weak++caps.map fun cs=>.ref cs 0)
    | false=>.fail
   | .self f (n+1) cells=>match Nat.beq c.args.toList.length c.argTypes.toList.length with
    | true=>opds C c.args.toList fun ds=>Yqq ((c.argTypes.toList.zip ds).map fun p=>Ydy C.tt p.1 p.2) fun args =>
     Xby C o.dst orc f (args.map weak++[.ref cells 0,.ref [.self f n cells] 0])
    | false=>.fail
   | _=>.fail
  | _=>.fail
 | _=>.fail
where
 eqNs (l:List Nat) (n:Nat):Bool:=match l with
  | []=>Nat.beq n 0
  | _=>Nat.beq l.length n&&upFrom 0 l
 upFrom (k:Nat):List Nat->Bool
  | []=>true
  | a::l=>Nat.beq a k&&upFrom (k+1) l
 resRows:List (List D)->(List (List D)->M)->M
  | [],k=>k []
  | cs::l,k=>Yie cs fun cs'=>match cs'.all is0 with
   | true=>resRows l fun l'=>k (cs'::l')
   | false=>.fail
def semG (C:Cfg)(dec:List (Nat×Bool))(orc:List (Nat×D))(ops:Array Oper)(o:Oper):M:=match o.guard with
 | none=>sem C dec orc o
 | some (j,b)=>match (ops[j]?).bind (·.dst) with
  | some t=>.get (.tmp t) fun v=>match v with
   | .d (.bool c)=>match Yac dec t with
    | some u=>.ask (c=u) (match Bool.xor u b with
     | false=>sem C dec orc o
     | true=>setTmp C o.dst (.tup []))
    | none=>match Bool.xor c b with
     | false=>sem C dec orc o
     | true=>setTmp C o.dst (.tup [])
   | .d (.tup [])=>setTmp C o.dst (.tup [])
   | _=>.fail
  | none=>.fail
def runL (C:Cfg)(dec:List (Nat×Bool))(orc:List (Nat×D))(ops:Array Oper):List Oper->St->Option (List Eff×St)
 | [],s=>some ([],s)
 | o::l,s=>match (semG C dec orc ops o).exec s with
  | some e=>match runL C dec orc ops l (s.apply e.wr) with
   | some (es,s')=>some (e::es,s')
   | none=>none
  | none=>none
def memK (k:Key):List (Key×Val)->Bool
 | []=>false
 | (k',_)::l=>k.eqb k'||memK k l
def Yo0:List (Key×Val)->List (Key×Val)->Bool
 | [],_=>false
 | (k,_)::l,m=>memK k m||Yo0 l m
def Eff.apart (a b:Eff):Bool:=!(Yo0 a.wr b.rd)&&!(Yo0 a.wr b.wr)&&!(Yo0 b.wr a.rd)
def ancs:List Oper->List Nat->List Nat
 | [],acc=>acc
 | o::l,acc=>ancs l (acc++[o.after.toList.foldl (fun s e=>match Region.binds .any e with|true=>s||| (2 ^ e.on||| acc.getD e.on 0)|false=>s) 0])
def Yrr:List Oper->Nat->Bool
 | [],_=>true
 | o::l,n=>(o.after.toList.all fun e=>!(Region.binds .any e)||Nat.blt e.on n)&&Yrr l (n+1)
def Zgv (anc:Nat)(e:Eff):Nat->List Eff->Bool
 | _,[]=>true
 | i,a::l=>(anc.testBit i||a.apart e)&&Zgv anc e (i+1) l
def Zhy (as:List Nat):List Eff->List Eff->Bool
 | _,[]=>true
 | before,e::l=>Zgv (as.getD before.length 0) e 0 before&&Zhy as (before++[e]) l
def Zhu (ops:List Oper)(es:List Eff):Bool:=Yrr ops 0&&Zhy (ancs ops []) [] es
def psOf:List Eff->List Prop
 | []=>[]
 | e::l=>e.ps++psOf l
def Yih (l:List Oper):Bool:=l.all fun o=>match o.op with
 | .defer _=>false
 | _=>true
def runR (C:Cfg)(dec:List (Nat×Bool))(orc:List (Nat×D))(ops:Array Oper)(draw:Bool)(s:St):Option (List Prop×St) :=
 match Yih ops.toList,runL C dec orc ops ops.toList s with
 | true,some (es,s')=>match draw with
  | false=>some (psOf es,s')
  | true=>match Zhu ops.toList es with
   | true=>some (psOf es,s')
   | false=>none
 | _,_=>none
def dflt:Key->Val
 | .tmp _=>.d .undef
 | .box _=>.bx none
 | .obj _=>.ob none
 | .mp _=>.mp none
def ofL:List (Key×Val)->St
 | []=>dflt
 | (k,v)::l=>(ofL l).set k v
def Ycy (s:St):List Key->List (Key×Val)
 | []=>[]
 | k::l=>(k,s k)::Ycy s l
def idsD:D->List Key
 | .own i _=>[.obj i]
 | .mref i=>[.mp i]
 | .ptr i _=>[.box i]
 | .row i _=>[.box i]
 | .agg cs=>cs.flatMap fun d=>match d with
  | .own i _=>[.obj i]
  | .mref i=>[.mp i]
  | _=>[]
 | _=>[]
def hasK (k:Key):List Key->Bool
 | []=>false
 | k'::l=>k.eqb k'||hasK k l
def idsV:Val->List Key
 | .d d=>idsD d
 | .bx (some b)=>b.cells.flatMap idsD
 | _=>[]
def Ye0 (ks:List Key):List (Key×Val)->Bool
 | []=>true
 | (_,v)::l=>(idsV v).all (fun k=>hasK k ks)&&Ye0 ks l
abbrev Lorc:=List (Nat×(List Key×(Ex×List (Key×Val))))
def run (C:Cfg)(dec:List (Nat×Bool))(orc:List (Nat×D))(lorc:Lorc):Code->St->Option (List Prop×Ex×St)
 | .skip,s=>some ([],.normal,s)
 | .label _,s=>some ([],.normal,s)
 | .region id ops draw,s=>match Yac lorc (1000+id) with
  | some (ks,e,L')=>match Ye0 ks (Ycy s ks) with
   | true=>some ([C.lk (.region id ops draw) (Ycy s ks) e L'],e,ofL L')
   | false=>none
  | none=>match runR C dec orc ops draw s with
   | some (ps,s')=>some (ps,.normal,s')
   | none=>none
 | .seq a b,s=>match run C dec orc lorc a s with
  | some (ps,.normal,s')=>match run C dec orc lorc b s' with
   | some (qs,e,s'')=>some (ps++qs,e,s'')
   | none=>none
  | some (ps,.exit id,s')=>some (ps,.exit id,s')
  | some (ps,.ret,s')=>some (ps,.ret,s')
  | none=>none
 | .cond (.tmp c) a b,s=>match Yac dec c,s (.tmp c) with
  | some true,.d (.bool t)=>match run C dec orc lorc a s with
   | some (ps,e,s')=>some ((t=true)::ps,e,s')
   | none=>none
  | some false,.d (.bool t)=>match run C dec orc lorc b s with
   | some (ps,e,s')=>some ((t=false)::ps,e,s')
   | none=>none
  | none,.d (.bool true)=>run C dec orc lorc a s
  | none,.d (.bool false)=>run C dec orc lorc b s
  | _,_=>none
 | .block id c,s=>match Yac lorc id with
  | some (ks,e,L')=>match Ye0 ks (Ycy s ks) with
   | true=>some ([C.lk (.block id c) (Ycy s ks) e L'],e,ofL L')
   | false=>none
  | none=>match run C dec orc lorc c s with
   | some (ps,.normal,s')=>some (ps,.normal,s')
   | some (ps,.exit id',s')=>match Nat.beq id' id with
    | true=>some (ps,.normal,s')
    | false=>some (ps,.exit id',s')
   | some (ps,.ret,s')=>some (ps,.ret,s')
   | none=>none
 | .scope c,s=>match C.inr with
  | false=>run C dec orc lorc c s
  | true=>none
 | .exit id,s=>some ([],.exit id,s)
 | .ret,s=>some ([],.ret,s)
 | _,_=>none
def runK (C:Cfg)(dec:List (Nat×Bool))(orc:List (Nat×D))(lorc:Lorc)(c:Code)(L:List (Key×Val))(ks:List Key):Option (List Prop×Ex×List (Key×Val)) :=
 match run C dec orc lorc c (ofL L) with
 | some (ps,e,s)=>match Ye0 ks (Ycy s ks) with
  | true=>some (ps,e,Ycy s ks)
  | false=>none
 | none=>none
def told:D->Bool
 | .ref _ _=>false
 | .tup _=>false
 | _=>true
def Yg9 (C:Cfg):List ResultVar->(List D->M)->M
 | [],k=>k []
 | .tmp t::l,k=>.get (.tmp t) fun v=>match v with
  | .d d=>Zgk d fun d'=>match told d' with
   | true=>Yg9 C l fun ds=>k (d'::ds)
   | false=>.fail
  | _=>.fail
 | .cell a t::l,k=>match C.tt t with
  | some ti=>.get (.tmp a) fun v=>match v with
   | .d (.ptr b off)=>.get (.box b) fun v=>match v with
    | .bx (some bx)=>Yii ti bx.cells off fun d=>Zgk d fun d'=>match told d' with
     | true=>Yg9 C l fun ds=>k (d'::ds)
     | false=>.fail
    | _=>.fail
   | _=>.fail
  | none=>.fail
def one:List D->D
 | [d]=>d
 | ds=>.tup ds
def fin (C:Cfg)(rs:List ResultVar)(s:St):Option (List Prop×D) :=
 match (Yg9 C rs fun ds=>.put (.tmp 0) (.d (one ds)) .done).exec s with
 | some ⟨ps,_,[(_,.d r)]⟩=>some (ps,r)
 | _=>none
def entry:Nat->List D->List (Key×Val)
 | _,[]=>[]
 | i,d::l=>(.tmp i,.d d)::entry (i+1) l
def Yaj (C:Cfg)(dec:List (Nat×Bool))(orc:List (Nat×D))(lorc:Lorc)(c:Code)(rs:List ResultVar)(args:List D):Option (List Prop×D) :=
 match run C dec orc lorc c (ofL (entry 0 args)) with
 | some (_,.exit _,_)=>none
 | some (ps,_,s)=>match fin C rs s with
  | some (qs,r)=>some (ps++qs,r)
  | none=>none
 | none=>none
def Code.at:List Nat->Code->Code
 | [],c=>c
 | 0::p,.seq a _=>Code.at p a
 | 1::p,.seq _ b=>Code.at p b
 | 0::p,.cond _ a _=>Code.at p a
 | 1::p,.cond _ _ b=>Code.at p b
 | 0::p,.block _ c=>Code.at p c
 | 0::p,.loop c=>Code.at p c
 | 0::p,.scope c=>Code.at p c
 | 0::p,.rangeFunc _ _ a _=>Code.at p a
 | 1::p,.rangeFunc _ _ _ b=>Code.at p b
 | _,c=>c
end Go.Di
namespace Go.Di
open Go.RowKit
def M.Ok:M->St->List (Key×Val)->Prop
 | .done,_,wr=>wr=[]
 | .get k f,s,wr=>(f (s k)).Ok s wr
 | .put k v m,s,wr=>∃ wr',wr=(k,v)::wr'/\m.Ok s wr'
 | .ask p m,s,wr=>p/\m.Ok s wr
 | .fail,_,_=>False
theorem M.exec_ok:∀(m:M) (s:St) (e:Eff),m.exec s=some e->(∀ p∈e.ps,p)->m.Ok s e.wr
 | .done,s,e,h,_=>by simp only[M.exec,Option.some.injEq]at h;subst h;rfl
 | .get k f,s,e,h,hp=>by
  simp only[M.exec]at h
  split at h
  ·rename_i e' he
   cases h
   exact M.exec_ok (f (s k)) s e' he hp
  ·cases h
 | .put k v m,s,e,h,hp=>by
  simp only[M.exec]at h
  split at h
  ·rename_i e' he
   cases h
   exact⟨_,rfl,M.exec_ok m s e' he hp⟩
  ·cases h
 | .ask p m,s,e,h,hp=>by
  simp only[M.exec]at h
  split at h
  ·rename_i e' he
   cases h
   exact⟨hp p (by simp),M.exec_ok m s e' he (fun q hq=>hp q (by simp[hq]))⟩
  ·cases h
 | .fail,_,_,h,_=>by cases h
def St.tmp (s:St)(i:Nat):D:=match s (.tmp i) with|.d d=>d|_=>.undef
def St.bx (s:St)(i:Nat):Option Box:=match s (.box i) with|.bx b=>b|.rw zs=>some ⟨false,intC zs⟩|_=>none
def St.ob (s:St)(i:Nat):Option Ob:=match s (.obj i) with|.ob o=>o|_=>none
def St.mp (s:St)(i:Nat):Option Mp:=match s (.mp i) with|.mp m=>m|_=>none
theorem Yo6 {i j:Nat}(h:i=j):Nat.beq i j=true:=by subst h;exact Nat.beq_refl i
theorem Yws {i j:Nat}(h:¬i=j):Nat.beq i j=false:=by
 cases h':Nat.beq i j with
 | false=>rfl
 | true=>exact absurd (Nat.eq_of_beq_eq_true h') h
theorem Yla (s:St)(i j:Nat)(v:Val):(s.set (.tmp i) v) (.tmp j)=if i=j then v else s (.tmp j):=by
 unfold St.set;simp only[Key.eqb]
 by_cases h:i=j
 ·rw[if_pos h,Yo6 h]
 ·rw[if_neg h,Yws h]
theorem Yh8 (s:St)(i j:Nat)(v:Val):(s.set (.box i) v) (.box j)=if i=j then v else s (.box j):=by
 unfold St.set;simp only[Key.eqb]
 by_cases h:i=j
 ·rw[if_pos h,Yo6 h]
 ·rw[if_neg h,Yws h]
theorem Zbf (s:St)(i j:Nat)(v:Val):(s.set (.obj i) v) (.obj j)=if i=j then v else s (.obj j):=by
 unfold St.set;simp only[Key.eqb]
 by_cases h:i=j
 ·rw[if_pos h,Yo6 h]
 ·rw[if_neg h,Yws h]
theorem Zp5 (s:St)(i j:Nat)(v:Val):(s.set (.mp i) v) (.mp j)=if i=j then v else s (.mp j):=by
 unfold St.set;simp only[Key.eqb]
 by_cases h:i=j
 ·rw[if_pos h,Yo6 h]
 ·rw[if_neg h,Yws h]
@[simp] theorem Zlh (s:St) (i j:Nat) (v:Val):(s.set (.tmp i) v).mp j=s.mp j:=rfl
@[simp] theorem Xgw (s:St) (i j:Nat) (v:Val):(s.set (.box i) v).mp j=s.mp j:=rfl
@[simp] theorem Xgv (s:St) (i j:Nat) (v:Val):(s.set (.obj i) v).mp j=s.mp j:=rfl
@[simp] theorem Xgs (s:St) (i j:Nat) (v:Val):(s.set (.mp i) v).tmp j=s.tmp j:=rfl
@[simp] theorem Xiv (s:St) (i j:Nat) (v:Val):(s.set (.mp i) v).bx j=s.bx j:=rfl
@[simp] theorem Xhz (s:St) (i j:Nat) (v:Val):(s.set (.mp i) v).ob j=s.ob j:=rfl
@[simp] theorem Yfb (s:St) (i j:Nat) (o:Option Mp):(s.set (.mp i) (.mp o)).mp j=if i=j then o else s.mp j:=by
 unfold St.mp;rw[Zp5]
 by_cases h:i=j<;>simp[h]
@[simp] theorem Zbb (s:St) (i j:Nat) (d:D):(s.set (.tmp i) (.d d)).tmp j=if i=j then d else s.tmp j:=by
 unfold St.tmp;rw[Yla]
 by_cases h:i=j<;>simp[h]
@[simp] theorem Xgx (s:St) (i j:Nat) (v:Val):(s.set (.tmp i) v).bx j=s.bx j:=rfl
@[simp] theorem Xgt (s:St) (i j:Nat) (v:Val):(s.set (.tmp i) v).ob j=s.ob j:=rfl
@[simp] theorem Xc5 (s:St) (i j:Nat) (v:Val):(s.set (.box i) v).tmp j=s.tmp j:=rfl
@[simp] theorem Xgu (s:St) (i j:Nat) (v:Val):(s.set (.box i) v).ob j=s.ob j:=rfl
@[simp] theorem Xc4 (s:St) (i j:Nat) (v:Val):(s.set (.obj i) v).tmp j=s.tmp j:=rfl
@[simp] theorem Xgy (s:St) (i j:Nat) (v:Val):(s.set (.obj i) v).bx j=s.bx j:=rfl
@[simp] theorem Yba (s:St) (i j:Nat) (b:Option Box):(s.set (.box i) (.bx b)).bx j=if i=j then b else s.bx j:=by
 unfold St.bx;rw[Yh8]
 by_cases h:i=j<;>simp[h]
@[simp] theorem Zas (s:St) (i j:Nat) (zs:List Int):(s.set (.box i) (.rw zs)).bx j=if i=j then some ⟨false,intC zs⟩ else s.bx j:=by
 unfold St.bx;rw[Yh8]
 by_cases h:i=j<;>simp[h]
@[simp] theorem Ya6 (s:St) (i j:Nat) (o:Option Ob):(s.set (.obj i) (.ob o)).ob j=if i=j then o else s.ob j:=by
 unfold St.ob;rw[Zbf]
 by_cases h:i=j<;>simp[h]
theorem Yf4 (s:St)(k:Key)(v:Val)(l:List (Key×Val)):s.apply ((k,v)::l)=(s.set k v).apply l:=rfl
abbrev Sig:=Nat->Option Addr×Nat
def RelTC (σ:Sig)(s:St)(R:Foot)(w:World):D->Value->Prop
 | .own k n,v=>∃ o,s.ob k=some o/\n<=o.xs.length/\(n=o.xs.length->v=.slice (σ k).1 n (σ k).2)
 | .mref i,v=>(∃ m,s.mp i=some m)/\∃ ad,(σ i).1=some ad/\v=.map (some ad.block)
 | d,v=>RelC R w d v
def RelT (β:Nat->Nat)(σ:Sig)(s:St)(R:Foot)(w:World):D->Value->Prop
 | .undef,_=>True
 | .ptr i off,v=>(∃ b,s.bx i=some b)/\v=.pointer (some ⟨β i,off,none⟩)
 | .agg cs,v=>∃ vs,v=.agg vs/\All2 (RelTC σ s R w) cs vs.toList
 | .own k n,v=>RelTC σ s R w (.own k n) v
 | .mref i,v=>RelTC σ s R w (.mref i) v
 | .row i n,v=>(∃ b,s.bx i=some b)/\∃ c,n<=c/\c<=maxLen/\v=.slice (some ⟨β i,0,none⟩) n c
 | d,v=>Rel R w d v
structure BoxOk (β:Nat->Nat) (σ:Sig) (s:St) (R:Foot) (w0 w:World) (i:Nat) (b:Box):Prop where
 new:w0.heap.size<=β i
 cells:∃ arr el,w.heap[β i]?=some (.cells arr el (0,0))/\(b.frozen=true->All2 (RelC R w) b.cells (arr.toList.take b.cells.length))/\(b.frozen=false->All2 (RelTC σ s R w) b.cells (arr.toList.take b.cells.length))/\(b.frozen=true->∀ j,j<arr.size->R (β i) j)
 free:b.frozen=false->∀ o,¬R (β i) o
structure ObjOk (β:Nat->Nat) (σ:Sig) (s:St) (R:Foot) (w0 w:World) (k:Nat) (o:Ob):Prop where
 sl:SlR (RelE R w o.e) o.e.sz R w false o.xs (.slice (σ k).1 o.xs.length (σ k).2)
 spare:o.xs.length<(σ k).2->∃ g off,(σ k).1=some ⟨g,off,none⟩/\w0.heap.size<=g/\(∃ arr el,w.heap[g]?=some (.cells arr el (0,0))/\off+(σ k).2*o.e.sz<=arr.size) /\
  (∀ i b,s.bx i=some b->β i≠g)/\(∀ k' o',s.ob k'=some o'->k'≠k->o'.xs.length<(σ k').2->∀ a',(σ k').1=some a'->a'.block≠g)/\∀ q,off+o.xs.length*o.e.sz<=q->¬R g q
structure Far (C:Cfg) (w0 w:World) (s:St) (β:Nat->Nat) (σ:Sig) (R:Foot):Prop where
 sz:C.w1.heap.size<=w.heap.size
 ke:∀ b,C.ke b->b<w.heap.size/\w.heap[b]?=C.w1.heap[b]?/\(∀ i x,s.bx i=some x->x.frozen=false->β i≠b)/\∀ k o,s.ob k=some o->o.xs.length<(σ k).2->∀ ad,(σ k).1=some ad->ad.block≠b
 no:∀ b,C.no b->w0.heap.size<=b/\b<w.heap.size/\(∀ o,¬R b o)/\(∀ i x,s.bx i=some x->β i≠b)/\∀ k o,s.ob k=some o->o.xs.length<(σ k).2->∀ ad,(σ k).1=some ad->ad.block≠b
structure MpsOk (σ:Sig) (s:St) (R:Foot) (w0 w:World):Prop where
 ok:∀ i m,s.mp i=some m->∃ g,(σ i).1=some ⟨g,0,none⟩/\w0.heap.size<=g/\(∀ o,¬R g o)/\MapAt w m g
 sep:∀ i m,s.mp i=some m->s.ob i=none
 inj:∀ i j m m',s.mp i=some m->s.mp j=some m'->(σ i).1=(σ j).1->i=j
theorem MapAt.obj {w:World}{m:Mp}{g:Nat}(h:MapAt w m g):∃ es c,w.heap[g]?=some (.map es c):=by
 obtain⟨es,c,h,_⟩:=h;exact⟨es,c,h⟩
theorem MapAt.keep {w w':World}{m:Mp}{g:Nat}(h:MapAt w m g)(hw:w'.heap[g]?=w.heap[g]?):MapAt w' m g:=by
 obtain⟨es,c,h1,h2⟩:=h;exact⟨es,c,by rw[hw];exact h1,h2⟩
theorem MpsOk.step {σ σ':Sig}{s s':St}{R R':Foot}{w0 w w':World}(h:MpsOk σ s R w0 w)(hs:∀ i m,s'.mp i=some m->s.mp i=some m)(hσ:∀ i m,s.mp i=some m->σ' i=σ i)
  (hw:∀ g,(∃ es c,w.heap[g]?=some (.map es c))->w0.heap.size<=g->w'.heap[g]?=w.heap[g]?) (hR:∀ g,(∃ es c,w.heap[g]?=some (.map es c))->(∀ o,¬R g o)->∀ o,¬R' g o) (hob:∀ i m,s.mp i=some m->s.ob i=none->s'.ob i=none):MpsOk σ' s' R' w0 w':=by
 refine⟨fun i m hi=>?_,fun i m hi=>hob i m (hs i m hi) (h.sep i m (hs i m hi)),fun i j m m' hi hj he=>?_⟩
 ·obtain⟨g,h1,h2,h3,h4⟩:=h.ok i m (hs i m hi);exact⟨g,by rw[hσ i m (hs i m hi)];exact h1,h2,hR g h4.obj h3,h4.keep (hw g h4.obj h2)⟩
 ·rw[hσ i m (hs i m hi),hσ j m' (hs j m' hj)]at he;exact h.inj i j m m' (hs i m hi) (hs j m' hj) he
theorem MpsOk.same {σ:Sig}{s s':St}{R:Foot}{w0 w:World}(h:MpsOk σ s R w0 w)(hs:∀ i,s'.mp i=s.mp i)(ho:∀ i,s'.ob i=s.ob i):MpsOk σ s' R w0 w :=
 h.step (fun i m hi=>by rw[<-hs];exact hi) (fun _ _ _=>rfl) (fun _ _ _=>rfl) (fun _ _ h=>h) (fun i m _ h=>by rw[ho];exact h)
theorem MpsOk.none {σ:Sig}{s:St}{R:Foot}{w0 w:World}(h:∀ i,s.mp i=none):MpsOk σ s R w0 w :=
 ⟨fun i m hi=>(by rw[h]at hi;cases hi),fun i m hi=>(by rw[h]at hi;cases hi),fun i j m m' hi=>(by rw[h]at hi;cases hi)⟩
structure Inv (C:Cfg) (w0:World) (R0:Foot) (a:Act) (w:World) (s:St) (β:Nat->Nat) (σ:Sig) (R:Foot):Prop where
 below:Below w0.heap.size w0 w
 defers:a.defers=C.dfs
 fix:∀ i∈C.fixed,a.tmps.getD i undef=C.fv i
 nt:C.nt<=a.tmps.size
 sub:∀ b o,R0 b o->R b o
 dom:∀ b o,R b o->b<w.heap.size/\(R0 b o\/w0.heap.size<=b)
 glob:∀ g cs,C.glob g=some cs->Rel R w (.ref cs 0) (.pointer (some ⟨g,0,none⟩))
 tmps:∀ i,RelT β σ s R w (s.tmp i) (a.tmps.getD i undef)
 box:∀ i b,s.bx i=some b->BoxOk β σ s R w0 w i b
 inj:∀ i j bi bj,s.bx i=some bi->s.bx j=some bj->β i=β j->i=j
 obj:∀ k o,s.ob k=some o->ObjOk β σ s R w0 w k o
 far:Far C w0 w s β σ R
 mps:MpsOk σ s R w0 w
theorem Inv.box_lt {C:Cfg}{w0 w:World}{R0 R:Foot}{a:Act}{s:St}{β:Nat->Nat}{σ:Sig}(h:Inv C w0 R0 a w s β σ R){i:Nat}{b:Box}(hb:s.bx i=some b):β i<w.heap.size:=by
 obtain⟨arr,el,hh,_⟩:=(h.box i b hb).cells;exact(Array.getElem?_eq_some_iff.1 hh).1
def Holds (C:Cfg)(w0:World)(R0:Foot)(a:Act)(w:World)(s:St):Prop:=∃ β σ R,Inv C w0 R0 a w s β σ R
theorem RelTC.world {σ:Sig}{s:St}{R R':Foot}{w w':World}(hk:Keeps R R' w w'):∀(d:D) (v:Value),RelTC σ s R w d v->RelTC σ s R' w' d v
 | .own k n,v,h=>h
 | .undef,v,h=>RelC.keep hk .undef v h
 | .int k n,v,h=>RelC.keep hk (.int k n) v h
 | .bool b,v,h=>RelC.keep hk (.bool b) v h
 | .nil,v,h=>RelC.keep hk .nil v h
 | .nilmap,v,h=>RelC.keep hk .nilmap v h
 | .nilfn,v,h=>RelC.keep hk .nilfn v h
 | .sl f e xs,v,h=>RelC.keep hk (.sl f e xs) v h
 | .map m,v,h=>RelC.keep hk (.map m) v h
 | .fn f a b,v,h=>RelC.keep hk (.fn f a b) v h
 | .self f a b,v,h=>RelC.keep hk (.self f a b) v h
 | .ptr i n,v,h=>RelC.keep hk (.ptr i n) v h
 | .mref i,v,h=>h
 | .row i n,v,h=>RelC.keep hk (.row i n) v h
 | .ref c o,v,h=>RelC.keep hk (.ref c o) v h
 | .agg cs,v,h=>RelC.keep hk (.agg cs) v h
 | .tup vs,v,h=>RelC.keep hk (.tup vs) v h
theorem RelT.world {β:Nat->Nat}{σ:Sig}{s:St}{R R':Foot}{w w':World}(hk:Keeps R R' w w'):∀(d:D) (v:Value),RelT β σ s R w d v->RelT β σ s R' w' d v
 | .own k n,v,h=>h
 | .undef,v,h=>trivial
 | .int k n,v,h=>Rel.keep hk (.int k n) v h
 | .bool b,v,h=>Rel.keep hk (.bool b) v h
 | .nil,v,h=>Rel.keep hk .nil v h
 | .nilmap,v,h=>Rel.keep hk .nilmap v h
 | .nilfn,v,h=>Rel.keep hk .nilfn v h
 | .sl f e xs,v,h=>Rel.keep hk (.sl f e xs) v h
 | .map m,v,h=>Rel.keep hk (.map m) v h
 | .fn f a b,v,h=>Rel.keep hk (.fn f a b) v h
 | .self f a b,v,h=>Rel.keep hk (.self f a b) v h
 | .ptr i n,v,h=>h
 | .mref i,v,h=>h
 | .row i n,v,h=>h
 | .ref c o,v,h=>Rel.keep hk (.ref c o) v h
 | .agg cs,v,⟨vs,hv,h⟩=>⟨vs,hv,h.imp (RelTC.world hk)⟩
 | .tup vs,v,h=>Rel.keep hk (.tup vs) v h
structure Grows (β β':Nat->Nat) (σ σ':Sig) (s s':St):Prop where
 box:∀ i b,s.bx i=some b->(∃ b',s'.bx i=some b')/\β' i=β i
 obj:∀ k o,s.ob k=some o->∃ o',s'.ob k=some o'/\o.xs.length<=o'.xs.length/\(o'.xs.length=o.xs.length->σ' k=σ k)
 mp:∀ i m,s.mp i=some m->(∃ m',s'.mp i=some m')/\σ' i=σ i
theorem RelTC.grow {β β':Nat->Nat}{σ σ':Sig}{s s':St}{R:Foot}{w:World}(hg:Grows β β' σ σ' s s'):∀(d:D) (v:Value),RelTC σ s R w d v->RelTC σ' s' R w d v
 | .own k n,v,⟨o,ho,hle,h⟩=>by
  obtain⟨o',ho',h1,h2⟩:=hg.obj k o ho;exact⟨o',ho',by omega,fun e=>by rw[h2 (by omega)];exact h (by omega)⟩
 | .mref i,v,⟨⟨m,hm⟩,ad,h1,h2⟩=>⟨(hg.mp i m hm).1,ad,by rw[(hg.mp i m hm).2];exact h1,h2⟩
 | .row i n,v,h=>h
 | .undef,v,h=>h|.int k n,v,h=>h|.bool b,v,h=>h|.nil,v,h=>h|.nilmap,v,h=>h|.nilfn,v,h=>h|.sl f e xs,v,h=>h|.map m,v,h=>h
 | .fn f a b,v,h=>h|.self f a b,v,h=>h|.ptr i n,v,h=>h|.ref c o,v,h=>h|.agg cs,v,h=>h|.tup vs,v,h=>h
theorem RelT.grow {β β':Nat->Nat}{σ σ':Sig}{s s':St}{R:Foot}{w:World}(hg:Grows β β' σ σ' s s'):∀(d:D) (v:Value),RelT β σ s R w d v->RelT β' σ' s' R w d v
 | .own k n,v,h=>RelTC.grow (β:=β) (β':=β') (R:=R) (w:=w) hg (.own k n) v h
 | .mref i,v,h=>RelTC.grow (β:=β) (β':=β') (R:=R) (w:=w) hg (.mref i) v h
 | .row i n,v,⟨⟨b,hb⟩,hv⟩=>⟨(hg.box i b hb).1,by rw[(hg.box i b hb).2];exact hv⟩
 | .ptr i off,v,⟨⟨b,hb⟩,hv⟩=>by
  obtain⟨h1,h2⟩:=hg.box i b hb;exact⟨h1,by rw[h2];exact hv⟩
 | .agg cs,v,⟨vs,hv,h⟩=>⟨vs,hv,h.imp (RelTC.grow hg)⟩
 | .undef,v,h=>h|.int k n,v,h=>h|.bool b,v,h=>h|.nil,v,h=>h|.nilmap,v,h=>h|.nilfn,v,h=>h|.sl f e xs,v,h=>h|.map m,v,h=>h
 | .fn f a b,v,h=>h|.self f a b,v,h=>h|.ref c o,v,h=>h|.tup vs,v,h=>h
theorem Yaz (a:Act)(d:Nat)(v:Value)(i:Nat)(hd:d<a.tmps.size):(a.put (some d) v).tmps.getD i undef=if d=i then v else a.tmps.getD i undef:=by
 simp only[Act.put,Array.getD_eq_getD_getElem?,Array.getElem?_setIfInBounds]
 by_cases h:d=i
 ·subst h;simp[hd]
 ·simp[h]
section
variable {C:Cfg} {w0 w:World} {R0 R:Foot} {a:Act} {s:St} {β:Nat->Nat} {σ:Sig}
theorem Zsw {C:Cfg}{t:Nat}(h:okT C t=true):t<C.nt:=by
 simp only[okT,Bool.and_eq_true]at h;exact Nat.le_of_ble_eq_true h.1
theorem Zsx {C:Cfg}{t:Nat}(h:okT C t=true):t∉C.fixed:=by
 simp only[okT,Bool.and_eq_true,Bool.not_eq_true',List.any_eq_false]at h;intro hm
 have:=h.2 t hm
 rw[Nat.beq_refl t]at this;exact this rfl
theorem Inv.put (h:Inv C w0 R0 a w s β σ R)(d:Nat)(hd:d<C.nt)(hfx:d∉C.fixed){x:D}{v:Value}(hv:RelT β σ s R w x v) :
  Inv C w0 R0 (a.put (some d) v) w (s.set (.tmp d) (.d x)) β σ R:=by
 have hlt:d<a.tmps.size:=Nat.lt_of_lt_of_le hd h.nt;have hg:Grows β β σ σ s (s.set (.tmp d) (.d x)):=⟨fun i b hb=>⟨⟨b,hb⟩,rfl⟩,fun k o ho=>⟨o,ho,Nat.le_refl _,fun _=>rfl⟩,fun i m hm=>⟨⟨m,hm⟩,rfl⟩⟩;refine⟨h.below,h.defers,fun i hi=>by rw[Yaz a d v i hlt,if_neg (fun(e:d=i)=>hfx (by rw[e];exact hi))];exact h.fix i hi,by simp[Act.put];exact h.nt,h.sub,h.dom,h.glob,fun i=>?_,fun i b hb=>?_,h.inj,fun k o ho=>?_,?_,h.mps.same (fun _=>rfl) (fun _=>rfl)⟩
 ·rw[Yaz a d v i hlt,Zbb]
  by_cases e:d=i
  ·rw[if_pos e,if_pos e];exact RelT.grow hg _ _ hv
  ·rw[if_neg e,if_neg e];exact RelT.grow hg _ _ (h.tmps i)
 ·obtain⟨h1,⟨arr,el,h2,h3,h4,h5⟩,h6⟩:=h.box i b hb;exact⟨h1,⟨arr,el,h2,h3,fun hf=>(h4 hf).imp (RelTC.grow hg),h5⟩,h6⟩
 ·obtain⟨h1,h2⟩:=h.obj k o ho;exact⟨h1,h2⟩
 ·exact⟨h.far.sz,h.far.ke,h.far.no⟩
theorem Inv.congr (h:Inv C w0 R0 a w s β σ R){s':St}(ht:∀ i,s'.tmp i=s.tmp i)(hb:∀ i,s'.bx i=s.bx i)(ho:∀ i,s'.ob i=s.ob i)(hm:∀ i,s'.mp i=s.mp i):Inv C w0 R0 a w s' β σ R:=by
 have hg:Grows β β σ σ s s':=⟨fun i b hi=>⟨⟨b,by rw[hb];exact hi⟩,rfl⟩,fun k o hk=>⟨o,by rw[ho];exact hk,Nat.le_refl _,fun _=>rfl⟩,fun i m hi=>⟨⟨m,by rw[hm];exact hi⟩,rfl⟩⟩;refine⟨h.below,h.defers,h.fix,h.nt,h.sub,h.dom,h.glob,fun i=>by rw[ht];exact RelT.grow hg _ _ (h.tmps i),fun i b hi=>?_,fun i j bi bj hi hj e=>h.inj i j bi bj (by rw[<-hb];exact hi) (by rw[<-hb];exact hj) e,fun k o hk=>?_,?_,h.mps.same hm ho⟩
 ·obtain⟨h1,⟨arr,el,h2,h3,h4,h5⟩,h6⟩:=h.box i b (by rw[<-hb];exact hi);exact⟨h1,⟨arr,el,h2,h3,fun hf=>(h4 hf).imp (RelTC.grow hg),h5⟩,h6⟩
 ·obtain⟨h1,h2⟩:=h.obj k o (by rw[<-ho];exact hk);refine⟨h1,fun hl=>?_⟩;obtain⟨g,off,q1,q2,q3,q4,q5,q6⟩:=h2 hl;exact⟨g,off,q1,q2,q3,fun i b hi=>q4 i b (by rw[<-hb];exact hi),fun k' o' hk'=>q5 k' o' (by rw[<-ho];exact hk'),q6⟩
 ·refine⟨h.far.sz,fun b hb'=>?_,fun b hb'=>?_⟩
  ·obtain⟨p1,p2,p3,p4⟩:=h.far.ke b hb';exact⟨p1,p2,fun i x hi=>p3 i x (by rw[<-hb];exact hi),fun k o hk=>p4 k o (by rw[<-ho];exact hk)⟩
  ·obtain⟨p1,p2,p3,p4,p5⟩:=h.far.no b hb';exact⟨p1,p2,p3,fun i x hi=>p4 i x (by rw[<-hb];exact hi),fun k o hk=>p5 k o (by rw[<-ho];exact hk)⟩
theorem Inv.rw_box {i:Nat}{zs:List Int}(h:Inv C w0 R0 a w (s.set (.box i) (.bx (some ⟨false,intC zs⟩))) β σ R):Inv C w0 R0 a w (s.set (.box i) (.rw zs)) β σ R :=
 h.congr (fun _=>rfl) (fun j=>by rw[Zas,Yba]) (fun _=>rfl) (fun _=>rfl)
theorem Inv.later (h:Inv C w0 R0 a w s β σ R){w':World}{R':Foot}(hb:Below w.heap.size w w')(hR:∀ b o,R b o->R' b o)(hd:∀ b o,R' b o->b<w'.heap.size/\(R b o\/w.heap.size<=b)) :
  Inv C w0 R0 a w' s β σ R':=by
 have hk:Keeps R R' w w':=Keeps.of_below hR (fun b o hr=>(h.dom b o hr).1) hb;have hsz:w0.heap.size<=w.heap.size:=h.below.size;refine⟨h.below.trans (hb.mono hsz),h.defers,h.fix,h.nt,fun b o hr=>hR _ _ (h.sub b o hr),fun b o hr=>⟨(hd b o hr).1,?_⟩,fun g cs hg=>Rel.keep hk _ _ (h.glob g cs hg),fun i=>RelT.world hk _ _ (h.tmps i),fun i b hb'=>?_,h.inj,fun k o ho=>?_,?_,h.mps.step (fun _ _ h=>h) (fun _ _ _=>rfl) (fun g ⟨es,c,hg⟩ _=>hb.block g (Array.getElem?_eq_some_iff.1 hg).1) (fun g ⟨es,c,hg⟩ hR o hr=>?_) (fun _ _ _ h=>h)⟩
 ·rcases (hd b o hr).2 with h1|h1
  ·exact(h.dom b o h1).2
  ·exact .inr (Nat.le_trans hsz h1)
 ·have hlt:=h.box_lt hb';obtain⟨h1,⟨arr,el,h2,h3,h4,h5⟩,h6⟩:=h.box i b hb';refine⟨h1,⟨arr,el,by rw[hb.block _ hlt];exact h2,fun hf=>(h3 hf).imp (RelC.keep hk),fun hf=>(h4 hf).imp (RelTC.world hk),fun hf j hj=>hR _ _ (h5 hf j hj)⟩,fun hf o hr=>?_⟩;rcases (hd _ _ hr).2 with h7|h7
  ·exact h6 hf o h7
  ·omega
 ·obtain⟨h1,h2⟩:=h.obj k o ho;refine⟨SlR.keep hk (fun x vs hx=>RelE.keep hk _ x vs hx) h1,fun hlt=>?_⟩;obtain⟨g,off,h3,h4,⟨arr,el,h5,h6⟩,h7,h8,h9⟩:=h2 hlt;have hglt:g<w.heap.size:=(Array.getElem?_eq_some_iff.1 h5).1;refine⟨g,off,h3,h4,⟨arr,el,by rw[hb.block _ hglt];exact h5,h6⟩,h7,h8,fun q hq hr=>?_⟩;rcases (hd _ _ hr).2 with h10|h10
  ·exact h9 q hq h10
  ·omega
 ·refine⟨Nat.le_trans h.far.sz hb.size,fun b hb'=>?_,fun b hb'=>?_⟩
  ·obtain⟨p1,p2,p3,p4⟩:=h.far.ke b hb';exact⟨Nat.lt_of_lt_of_le p1 hb.size,by rw[hb.block b p1];exact p2,p3,p4⟩
  ·obtain⟨p1,p2,p3,p4,p5⟩:=h.far.no b hb';refine⟨p1,Nat.lt_of_lt_of_le p2 hb.size,fun o hr=>?_,p4,p5⟩;rcases (hd _ _ hr).2 with h10|h10
   ·exact p3 o h10
   ·omega
 ·have:=(Array.getElem?_eq_some_iff.1 hg).1
  rcases (hd g o hr).2 with h1|h1
  ·exact hR o h1
  ·omega
end
end Go.Di
