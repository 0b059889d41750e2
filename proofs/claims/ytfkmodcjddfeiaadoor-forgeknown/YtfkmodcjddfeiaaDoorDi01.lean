/- Part 1: an interpreter over plain data for this code, with the proof that it says what the model does, and the contracts of the functions. No condition. -/
import Derived.Test.YtfkmodcjddfeiaaDoorDi00
set_option linter.unusedVariables false
/-
 DI,part B: the interpreter: what an operation does to plain data,by which places it reads and writes,and the run of a piece of code along one road.
-/
namespace Go.Di

/-! ### Types,as far as they are wanted -/
inductive TK where
 | int (k : IntKind)
 | bool
 | struct (fs : List (Nat × TypeId))
 | array (n : Nat) (el : TypeId)
 | slice (el : TypeId)
 | map (kt et : TypeId) (spot : Bool)
 | other
structure TI where
 k : TK
 sz : Nat
 bytes : Nat
 zero : List D
 e : Option E
 /-- A struct or an array of numbers: two of them are compared number by number. -/
 eq : Bool := false

def lookN {α : Type} : List (Nat × α) → Nat → Option α
 | [],_ => none
 | (k,v) :: l,n => match Nat.beq k n with
  | true => some v
  | false => lookN l n

def TI.agg (t : TI) : Bool := match t.k with
 | .struct _ => true
 | .array _ _ => true
 | _ => false

/-! ### Places -/
inductive Key where
 | tmp (i : Nat)
 | box (i : Nat)
 | obj (i : Nat)
 | mp (i : Nat)
def Key.eqb : Key → Key → Bool
 | .tmp a,.tmp b => Nat.beq a b
 | .box a,.box b => Nat.beq a b
 | .obj a,.obj b => Nat.beq a b
 | .mp a,.mp b => Nat.beq a b
 | _,_ => false
structure Box where
 frozen : Bool
 cells : List D
structure Ob where
 e : E
 xs : List e.α
inductive Val where
 | d (x : D)
 | bx (b : Option Box)
 | ob (o : Option Ob)
 | mp (m : Option Mp)
 | rw (zs : List Int)
abbrev St := Key → Val
def St.set (s : St) (k : Key) (v : Val) : St := fun k' => match k.eqb k' with
 | true => v
 | false => s k'
def St.apply (s : St) : List (Key × Val) → St
 | [] => s
 | (k,v) :: l => (s.set k v).apply l

inductive M where
 | done
 | get (k : Key) (f : Val → M)
 | put (k : Key) (v : Val) (m : M)
 | ask (p : Prop) (m : M)
 | fail

structure Eff where
 ps : List Prop
 rd : List (Key × Val)
 wr : List (Key × Val)

/-- What is read is read ahead of all that is written. -/
def M.exec : M → St → Option Eff
 | .done,_ => some ⟨[],[],[]⟩
 | .get k f,s => match (f (s k)).exec s with
  | some e => some ⟨e.ps,(k,s k) :: e.rd,e.wr⟩
  | none => none
 | .put k v m,s => match m.exec s with
  | some e => some ⟨e.ps,e.rd,(k,v) :: e.wr⟩
  | none => none
 | .ask p m,s => match m.exec s with
  | some e => some ⟨p :: e.ps,e.rd,e.wr⟩
  | none => none
 | .fail,_ => none

/-! ### The configuration -/
inductive Ex where
 | normal
 | exit (id : Nat)
 | ret

structure Cfg where
 tt : TypeId → Option TI
 glob : Nat → Option (List D)
 con : FuncId → List D → D → Prop
 /-- Functions that return cells of which one is a row of new memory that nobody else knows: the cells,and what the row holds. -/
 conL : FuncId → List D → List D → List D → Prop := fun _ _ _ _ => False
 nt : Nat
 lk : Code → List (Key × Val) → Ex → List (Key × Val) → Prop
 /-- What the frame has deferred: behind a range over a function,the rounds' calls. -/
 dfs : List Deferred := []
 /-- Is it the body of a round? -/
 inr : Bool := false
 /-- Blocks of others: which stay as they were in w1; which may not be spoken of. -/
 ke : Nat → Prop := fun _ => False
 no : Nat → Prop := fun _ => False
 w1 : World := default
 /-- Slots that are not written,and what they hold. -/
 fixed : List Nat := []
 fv : Nat → Value := fun _ => .tuple #[]

def elt (tt : TypeId → Option TI) (t : TypeId) : Option (E × Nat) := match tt t with
 | some ti => match ti.k with
  | .slice el => match tt el with
   | some te => match te.e with
    | some e => match Nat.beq e.sz te.sz with
     | true => some (e,te.bytes)
     | false => none
    | none => none
   | none => none
  | _ => none
 | none => none

/-- A nil takes its type. -/
def typed (tt : TypeId → Option TI) (t : TypeId) : D → D
 | .nil => match elt tt t with
  | some (e,_) => .sl true e []
  | none => .nil
 | d => d

def constD : Value → Option D
 | .int k n => some (.int k n)
 | .bool b => some (.bool b)
 | .slice none 0 0 => some .nil
 | .nilFunc => some .nilfn
 | _ => none

def opd (C : Cfg) (x : Operand) (k : D → M) : M := match x with
 | .tmp t => .get (.tmp t) fun v => match v with
  | .d d => k d
  | _ => .fail
 | .const v => match constD v with
  | some d => k d
  | none => .fail
 | .global g => match C.glob g with
  | some cs => k (.ref cs 0)
  | none => .fail
 | .func f => k (.fn f [] [])

def opds (C : Cfg) : List Operand → (List D → M) → M
 | [],k => k []
 | x :: l,k => opd C x fun d => opds C l fun ds => k (d :: ds)

def cellsOf : D → List D
 | .agg cs => cs
 | d => [d]

/-- A cell as it is told to others: a row of the call's own by its elements. -/
def resCell (d : D) (k : D → M) : M := match d with
 | .own i n => .get (.obj i) fun v => match v with
  | .ob (some o) => .ask (n = o.xs.length) (k (.sl false o.e o.xs))
  | _ => .fail
 | .undef => .fail
 | .ptr _ _ => .fail
 | .ref _ _ => .fail
 | .agg _ => .fail
 | .tup _ => .fail
 | .mref _ => .fail
 | .row _ _ => .fail
 | d => k d
def resCells : List D → (List D → M) → M
 | [],k => k []
 | d :: l,k => resCell d fun d' => resCells l fun l' => k (d' :: l')
def resArg (d : D) (k : D → M) : M := match d with
 | .agg cs => resCells cs fun cs' => k (.agg cs')
 | .ref cs o => k (.ref cs o)
 | d => resCell d k
def resArgs : List D → (List D → M) → M
 | [],k => k []
 | d :: l,k => resArg d fun d' => resArgs l fun l' => k (d' :: l')

/-- A slice's elements. -/
def elems (d : D) (k : (e : E) → List e.α → M) : M := match d with
 | .sl _ e xs => k e xs
 | .own i n => .get (.obj i) fun v => match v with
  | .ob (some o) => .ask (n = o.xs.length) (k o.e o.xs)
  | _ => .fail
 | _ => .fail

def inI64 (z : Int) : Prop := -9223372036854775808 ≤ z ∧ z ≤ 9223372036854775807
def mx (x y : Int) : Int := if y > x then y else x
def mn (x y : Int) : Int := if y < x then y else x

def replAt (cs : List D) (off : Nat) (new : List D) : List D := cs.take off ++ (new ++ cs.drop (off + new.length))

def fillS (tt : TypeId → Option TI) (fs : List (Nat × TypeId)) : List D → List (Nat × D) → Option (List D)
 | cs,[] => some cs
 | cs,(i,d) :: l => match fs[i]? with
  | some (off,ft) => match tt ft with
   | some ti =>
    let new := cellsOf (typed tt ft d)
    match Nat.beq new.length ti.sz,Nat.ble (off + new.length) cs.length with
    | true,true => fillS tt fs (replAt cs off new) l
    | _,_ => none
   | none => none
  | none => none
def fillA (el : TypeId) (tt : TypeId → Option TI) (sz : Nat) : List D → List (Nat × D) → Option (List D)
 | cs,[] => some cs
 | cs,(i,d) :: l =>
  let new := cellsOf (typed tt el d)
  match Nat.beq new.length sz,Nat.ble (i * sz + new.length) cs.length with
  | true,true => fillA el tt sz (replAt cs (i * sz) new) l
  | _,_ => none

/-- Cells read at a place: of whole numbers alone at any place that is told in numbers,else at a known one. -/
def loadAtD (ti : TI) (cs : List D) (off : Nat) (k : D → M) : M := match allI cs with
 | some zs => .ask (off + ti.sz ≤ zs.length) (match ti.agg with
  | true => k (.agg ((List.range ti.sz).map fun j => .int .i64 (zs.getD (off + j) 0)))
  | false => match Nat.beq ti.sz 1 with
   | true => k (.int .i64 (zs.getD off 0))
   | false => .fail)
 | none => match Nat.ble (off + ti.sz) cs.length with
  | true => match ti.agg with
   | true => k (.agg ((cs.drop off).take ti.sz))
   | false => match Nat.beq ti.sz 1,cs[off]? with
    | true,some d => k d
    | _,_ => .fail
  | false => .fail

/-- The same of a row of numbers. -/
def loadAtI (ti : TI) (zs : List Int) (off : Nat) (k : D → M) : M := .ask (off + ti.sz ≤ zs.length) (match ti.agg with
  | true => k (.agg ((List.range ti.sz).map fun j => .int .i64 (zs.getD (off + j) 0)))
  | false => match Nat.beq ti.sz 1 with
   | true => k (.int .i64 (zs.getD off 0))
   | false => .fail)
def intC (zs : List Int) : List D := zs.map fun z => .int .i64 z
theorem allI_intC : ∀ zs : List Int,allI (intC zs) = some zs
 | [] => rfl
 | z :: zs => by
  have := allI_intC zs
  simp only [intC,List.map_cons,allI,asI] at this ⊢
  rw [this]
theorem loadAt_intC (ti : TI) (zs : List Int) (off : Nat) (k : D → M) : loadAtD ti (intC zs) off k = loadAtI ti zs off k := by
 unfold loadAtD loadAtI
 rw [allI_intC]

def cmpD (op : BinOp) (x y : Int) : Option Bool := match op with
 | .eql => some (x == y)
 | .neq => some (x != y)
 | .lss => some (decide (x < y))
 | .leq => some (decide (x ≤ y))
 | .gtr => some (decide (x > y))
 | .geq => some (decide (x ≥ y))
 | _ => none
def bitsD (op : BinOp) (x y : Int) : Option Int := match op with
 | .and => some (IntKind.i64.wrap ((BitVec.ofInt 64 x &&& BitVec.ofInt 64 y).toNat : Int))
 | .or => some (IntKind.i64.wrap ((BitVec.ofInt 64 x ||| BitVec.ofInt 64 y).toNat : Int))
 | _ => none

def eqI : List Int → List Int → Bool
 | [],[] => true
 | a :: l,b :: m => (a == b) && eqI l m
 | _,_ => false

def eqT (C : Cfg) (t : TypeId) (n : Nat) : Bool := match C.tt t with
 | some ti => ti.eq && Nat.beq n ti.sz
 | none => false
def isBoolT (C : Cfg) (t : TypeId) : Bool := match C.tt t with
 | some ti => match ti.k with
  | .bool => true
  | _ => false
 | none => false

def binI (op : BinOp) (a b : Int) (k : D → M) : M := match op with
 | .add => .ask (inI64 (a + b)) (k (.int .i64 (a + b)))
 | .sub => .ask (inI64 (a - b)) (k (.int .i64 (a - b)))
 | .mul => .ask (inI64 (a * b)) (k (.int .i64 (a * b)))
 | .quo => .ask (b ≠ 0 ∧ inI64 (a.tdiv b)) (k (.int .i64 (a.tdiv b)))
 | .rem => .ask (b ≠ 0) (k (.int .i64 (a.tmod b)))
 | .shl => .ask (0 ≤ b ∧ inI64 (a * 2 ^ min b.toNat 64)) (k (.int .i64 (a * 2 ^ min b.toNat 64)))
 | .shr => .ask (0 ≤ b) (k (.int .i64 (a.fdiv (2 ^ min b.toNat 64))))
 | op => match cmpD op a b with
  | some t => k (.bool t)
  | none => match bitsD op a b with
   | some z => k (.int .i64 z)
   | none => .fail

def binD (C : Cfg) (op : BinOp) (ty : TypeId) (x y : D) (k : D → M) : M := match x with
 | .int .i64 a => match y with
  | .int .i64 b => binI op a b k
  | _ => .fail
 | .bool a => match y,isBoolT C ty with
  | .bool b,true => match op with
   | .eql => k (.bool (a == b))
   | .neq => k (.bool (!(a == b)))
   | _ => .fail
  | _,_ => .fail
 | .agg a => match y with
  | .agg b => match allI a,allI b with
   | some x,some y => match eqT C ty x.length,eqT C ty y.length with
    | true,true => match op with
     | .eql => k (.bool (eqI x y))
     | .neq => k (.bool (!(eqI x y)))
     | _ => .fail
    | _,_ => .fail
   | _,_ => .fail
  | _ => .fail
 | _ => .fail

/-- A sum that may pass the bounds: its value is told. -/
def wrapMark (dst : Option Tmp) (orc : List (Nat × D)) (op : BinOp) : Option Int := match op with
 | .add => match dst with
  | some t => match lookN orc t with
   | some (.int .i64 z) => some z
   | _ => none
  | none => none
 | _ => none
def binW (C : Cfg) (dst : Option Tmp) (orc : List (Nat × D)) (op : BinOp) (ty : TypeId) (x y : D) (k : D → M) : M := match wrapMark dst orc op with
 | none => binD C op ty x y k
 | some z => match x,y with
  | .int .i64 a,.int .i64 b => .ask (z = IntKind.i64.wrap (a + b)) (k (.int .i64 z))
  | _,_ => .fail

def okT (C : Cfg) (t : Nat) : Bool := Nat.blt t C.nt && !(C.fixed.any fun i => Nat.beq i t)

def setTmp (C : Cfg) (dst : Option Tmp) (d : D) : M := match dst with
 | some t => match okT C t with
  | true => .put (.tmp t) (.d d) .done
  | false => .fail
 | none => .done

def newBox (C : Cfg) (dst : Option Tmp) (cells : List D) : M := match dst with
 | some t => match okT C t with
  | true => .get (.box t) fun v => match v with
   | .bx none => .put (.box t) (.bx (some ⟨false,cells⟩)) (.put (.tmp t) (.d (.ptr t 0)) .done)
   | _ => .fail
  | false => .fail
 | none => .fail

/-- May a cell lie in a box? -/
def boxable : D → Bool
 | .int _ _ => true | .bool _ => true | .nil => true | .nilmap => true | .nilfn => true | .sl _ _ _ => true | .map _ => true | .fn _ _ _ => true | .own _ _ => true | .mref _ => true | .self _ _ _ => true | .row _ _ => true
 | _ => false

/-- Cells that may be laid down: none of them is an elder state of a row. -/
def chk : List D → M → M
 | [],m => m
 | d :: l,m => match d with
  | .own i n => .get (.obj i) fun v => match v with
   | .ob (some o) => .ask (n = o.xs.length) (chk l m)
   | _ => .fail
  | d => match boxable d with
   | true => chk l m
   | false => .fail

/-- The same of values. -/
def chkVals : List D → M → M
 | [],m => m
 | d :: l,m => chk (cellsOf d) (chkVals l m)

def decAll (e : E) : List (List D) → Option (List e.α)
 | [] => some []
 | cs :: l => match e.dec cs,decAll e l with
  | some x,some xs => some (x :: xs)
  | _,_ => none

/-- A cell that holds no function. -/
def is0 : D → Bool
 | .int _ _ => true | .bool _ => true | .nil => true | .nilmap => true | .nilfn => true | .sl _ _ _ => true | .map _ => true
 | _ => false
def is0A : D → Bool
 | .agg cs => cs.all is0
 | d => is0 d

/-- What is captured: boxes,which are shut by that,and memory that stays. -/
def freezeAll : List Nat → List D → List (List D) → (List (List D) → M) → M
 | _,[],acc,k => k acc.reverse
 | seen,d :: l,acc,k => match d with
  | .ptr i 0 => match seen.all (fun j => !(Nat.beq j i)) with
   | true => .get (.box i) fun v => match v with
    | .bx (some b) => resCells b.cells fun cs => match cs.all is0 with
     | true => .put (.box i) (.bx (some ⟨true,cs⟩)) (freezeAll (i :: seen) l (cs :: acc) k)
     | false => .fail
    | _ => .fail
   | false => .fail
  | .ref cs 0 => match cs.all is0 with
   | true => freezeAll seen l (cs :: acc) k
   | false => .fail
  | _ => .fail

def appD (C : Cfg) (dst : Option Tmp) (t : TypeId) (x y : D) : M := match elt C.tt t,dst with
 | some (e0,bytes),some d => elems y fun e' ys => match E.same e' e0 with
  | some h => match x with
   | .sl true e xs => match E.same e e0 with
    | some h' => .get (.obj d) fun v => match v with
     | .ob none => .get (.mp d) fun vm => match vm with
      | .mp none => .ask ((h'.down ▸ xs ++ h.down ▸ ys : List e0.α).length * (bytes + 1) ≤ 140737488355328)
       (.put (.obj d) (.ob (some ⟨e0,(h'.down ▸ xs ++ h.down ▸ ys : List e0.α)⟩)) (setTmp C dst (.own d (h'.down ▸ xs ++ h.down ▸ ys : List e0.α).length)))
      | _ => .fail
     | _ => .fail
    | none => .fail
   | .own i n => .get (.obj i) fun v => match v with
    | .ob (some o) => match E.same o.e e0 with
     | some h' => .ask (n = o.xs.length) (.ask ((h'.down ▸ o.xs ++ h.down ▸ ys : List e0.α).length * (bytes + 1) ≤ 140737488355328)
       (.put (.obj i) (.ob (some ⟨e0,(h'.down ▸ o.xs ++ h.down ▸ ys : List e0.α)⟩)) (setTmp C dst (.own i (h'.down ▸ o.xs ++ h.down ▸ ys : List e0.α).length))))
     | none => .fail
    | _ => .fail
   | _ => .fail
  | none => .fail
 | _,_ => .fail

/-- A copy: an append to nothing,of what may be as much as there is room for. -/
def bigMark (dst : Option Tmp) (orc : List (Nat × D)) : Bool := match dst with
 | some d => match lookN orc d with
  | some .nil => true
  | _ => false
 | none => false
def appB (C : Cfg) (dst : Option Tmp) (t : TypeId) (x y : D) : M := match elt C.tt t,dst with
 | some (e0,bytes),some d => elems y fun e' ys => match E.same e' e0 with
  | some h => match x with
   | .sl true e [] => match E.same e e0 with
    | some _ => .get (.obj d) fun v => match v with
     | .ob none => .get (.mp d) fun vm => match vm with
      | .mp none => .ask ((h.down ▸ ys : List e0.α).length * bytes ≤ 140737488355328 ∧ (h.down ▸ ys : List e0.α).length ≤ 140737488355328)
       (.put (.obj d) (.ob (some ⟨e0,(h.down ▸ ys : List e0.α)⟩)) (setTmp C dst (.own d (h.down ▸ ys : List e0.α).length)))
      | _ => .fail
     | _ => .fail
    | none => .fail
   | _ => .fail
  | none => .fail
 | _,_ => .fail

/-- A row that may be written: into a new box,or out of one into a row that stays. -/
def rowMark (dst : Option Tmp) (orc : List (Nat × D)) : Bool := match dst with
 | some d => match lookN orc d with
  | some (.row _ _) => true
  | _ => false
 | none => false
def isNilSl : D → Bool
 | .sl true .int [] => true
 | _ => false
def appX (C : Cfg) (dst : Option Tmp) (orc : List (Nat × D)) (t : TypeId) (a b : D) : M := match b with
 | .row i n => match isNilSl a,elt C.tt t,dst with
  | true,some (.int,bytes),some d => .get (.box i) fun v => match v with
   | .rw zs => .get (.obj d) fun v => match v with
    | .ob none => .get (.mp d) fun vm => match vm with
     | .mp none => .ask (n = zs.length ∧ 0 < n ∧ n * (bytes + 1) ≤ 140737488355328) (.put (.obj d) (.ob (some ⟨.int,zs⟩)) (setTmp C dst (.own d zs.length)))
     | _ => .fail
    | _ => .fail
   | _ => .fail
  | _,_,_ => .fail
 | b => match rowMark dst orc with
  | false => match bigMark dst orc with
   | false => appD C dst t (typed C.tt t a) (typed C.tt t b)
   | true => appB C dst t (typed C.tt t a) (typed C.tt t b)
  | true => match isNilSl a,elt C.tt t,dst with
   | true,some (.int,bytes),some d => elems b fun e ys => match E.same e .int with
    | some h => .get (.box d) fun v => match v with
     | .bx none => .ask (0 < (h.down ▸ ys : List E.int.α).length ∧ (h.down ▸ ys : List E.int.α).length * (bytes + 1) ≤ 140737488355328)
      (.put (.box d) (.rw (h.down ▸ ys : List E.int.α)) (setTmp C dst (.row d (h.down ▸ ys : List E.int.α).length)))
     | _ => .fail
    | none => .fail
   | _,_,_ => .fail

def bound (n : Int) : Option D → Option Int
 | none => some n
 | some (.int .i64 z) => some z
 | _ => none

def sliceD (e0 : E) (x : D) (lo hi mx : Option D) (k : D → M) : M := elems x fun e xs => match E.same e e0 with
 | none => .fail
 | some _ => match bound 0 lo,bound xs.length hi with
  | some l,some h => match mx with
   | none => .ask (0 ≤ l ∧ l ≤ h ∧ h ≤ xs.length) (k (.sl false e ((xs.take h.toNat).drop l.toNat)))
   | some (.int .i64 m) => match hi with
    | some _ => .ask (0 ≤ l ∧ l ≤ h ∧ h ≤ xs.length ∧ m = h) (k (.sl true e ((xs.take h.toNat).drop l.toNat)))
    | none => .fail
   | _ => .fail
  | _,_ => .fail

def optOpd (C : Cfg) (x : Option Operand) (k : Option D → M) : M := match x with
 | none => k none
 | some x => opd C x fun d => k (some d)

/-- An argument as it is told: of its slices no more than what they hold. -/
def weakC : D → D
 | .sl _ e xs => .sl false e xs
 | d => d
def weak : D → D
 | .agg cs => .agg (cs.map weakC)
 | d => weakC d

def rowTo (t : Nat) : D → D
 | .row _ n => .row t n
 | d => d
def callD (C : Cfg) (dst : Option Tmp) (orc : List (Nat × D)) (f : FuncId) (args : List D) : M := match dst with
 | some t => match lookN orc t with
  | some (.tup [.undef,.agg cs,.agg cells]) => match okT C t with
   | true => .get (.box t) fun v => match v with
    | .bx none => .ask (C.conL f args cs cells) (.put (.box t) (.bx (some ⟨false,cells⟩)) (.put (.tmp t) (.d (.agg (cs.map (rowTo t)))) .done))
    | _ => .fail
   | false => .fail
  | some r => .ask (C.con f args r) (setTmp C dst r)
  | none => .fail
 | none => .fail

/-! ### Maps of the call's own -/
abbrev K2 := Int × Int
def lookK {α : Type} : List (K2 × α) → K2 → Option α
 | [],_ => none
 | (k',v) :: l,k => if k = k' then some v else lookK l k
def updK {α : Type} : List (K2 × α) → K2 → α → List (K2 × α)
 | [],k,v => [(k,v)]
 | (k',u) :: l,k,v => if k = k' then (k,v) :: l else (k',u) :: updK l k v
/-- Of blocks of others nothing is said. -/
def Cfg.plain (C : Cfg) : Prop := (∀ b,¬ C.ke b) ∧ (∀ b,¬ C.no b) ∧ C.w1.heap.size = 0
def intT (C : Cfg) (t : TypeId) : Bool := match C.tt t with
 | some ti => (match ti.k with | .int _ => true | _ => false) && Nat.beq ti.sz 1
 | none => false
/-- A key of two numbers. -/
def keyT (C : Cfg) (kt : TypeId) : Bool := match C.tt kt with
 | some tk => tk.eq && Nat.beq tk.sz 2 && (match tk.k with
  | .struct [(0,x),(1,y)] => intT C x && intT C y
  | _ => false)
 | none => false
def mapTy (C : Cfg) (t : TypeId) : Option (TypeId × TypeId × Bool) := match C.tt t with
 | some ti => match ti.k with
  | .map kt et sp => match keyT C kt,C.tt et with
   | true,some te => match sp with
    | true => match te.zero,Nat.beq te.sz 2,te.agg with
     | [.int .i64 0,.int .i64 0],true,true => some (kt,et,true)
     | _,_,_ => none
    | false => match te.zero,Nat.beq te.sz 1,te.agg with
     | [.bool false],true,false => some (kt,et,false)
     | _,_,_ => none
   | _,_ => none
  | _ => none
 | none => none
def key2 : D → Option K2
 | .agg [.int .i64 a,.int .i64 b] => some (a,b)
 | _ => none
def span2 : D → Option Span
 | .agg [.int .i64 a,.int .i64 b] => some ⟨a,b⟩
 | _ => none
def updD (C : Cfg) (dst : Option Tmp) (t : TypeId) (m k x : D) : M := match m with
 | .mref i => .get (.mp i) fun v => match v with
  | .mp (some m) => match mapTy C t,key2 k with
   | some (_,_,true),some k => match m,span2 x with
    | .spot l,some s => .ask C.plain (.put (.mp i) (.mp (some (.spot (updK l k s)))) (setTmp C dst .undef))
    | _,_ => .fail
   | some (_,_,false),some k => match m,x with
    | .work l,.bool b => .ask C.plain (.put (.mp i) (.mp (some (.work (updK l k b)))) (setTmp C dst .undef))
    | _,_ => .fail
   | _,_ => .fail
  | _ => .fail
 | _ => .fail
def mapOf (m : D) (k : Mp → M) : M := match m with
 | .mref i => .get (.mp i) fun v => match v with
  | .mp (some m) => k m
  | _ => .fail
 | .map m => k m
 | _ => .fail
def lookD (C : Cfg) (dst : Option Tmp) (t : TypeId) (m k : D) (ok : Bool) : M := mapOf m fun m => match mapTy C t,key2 k with
 | some (_,_,true),some k => match m,ok with
  | .spot l,true => setTmp C dst (.tup [.agg [.int .i64 ((lookK l k).getD ⟨0,0⟩).lo,.int .i64 ((lookK l k).getD ⟨0,0⟩).hi],.bool (lookK l k).isSome])
  | _,_ => .fail
 | some (_,_,false),some k => match m,ok with
  | .work l,false => setTmp C dst (.bool ((lookK l k).getD false))
  | _,_ => .fail
 | _,_ => .fail

def emptyMp : Bool → Mp
 | true => .spot []
 | false => .work []
def sem (C : Cfg) (dec : List (Nat × Bool)) (orc : List (Nat × D)) (o : Oper) : M := match o.op with
 | .move x => opd C x fun d => setTmp C o.dst (typed C.tt o.type d)
 | .assign x => opd C x fun d => setTmp C o.dst (typed C.tt o.type d)
 | .pick (.tmp c) a b => match lookN dec c with
  | some t => .get (.tmp c) fun v => match v with
   | .d (.bool u) => .ask (u = t) (opd C (match t with | true => a | false => b) fun d => setTmp C o.dst d)
   | _ => .fail
  | none => .get (.tmp c) fun v => match v with
   | .d (.bool true) => opd C a fun d => setTmp C o.dst d
   | .d (.bool false) => opd C b fun d => setTmp C o.dst d
   | _ => .fail
 | .alloc t => match C.tt t with
  | some ti => newBox C o.dst ti.zero
  | none => .fail
 | .box t x => opd C x fun d => chk (cellsOf (typed C.tt t d)) (newBox C o.dst (cellsOf (typed C.tt t d)))
 | .build t parts => opds C (parts.toList.map (·.2)) fun ds => chk (ds.flatMap cellsOf) (match C.tt t with
  | some ti => match ti.k with
   | .struct fs => match fillS C.tt fs ti.zero ((parts.toList.map (·.1)).zip ds) with
    | some cs => setTmp C o.dst (.agg cs)
    | none => .fail
   | .array _ el => match C.tt el with
    | some te => match fillA el C.tt te.sz ti.zero ((parts.toList.map (·.1)).zip ds) with
     | some cs => setTmp C o.dst (.agg cs)
     | none => .fail
    | none => .fail
   | _ => .fail
  | none => .fail)
 | .buildSlice t n parts => match rowMark o.dst orc with
  | true => match elt C.tt t,eqNs (parts.toList.map (·.1)) n && Nat.ble (n * 12) 16777216,o.dst with
   | some (e,_),true,some d => opds C (parts.toList.map (·.2)) fun ds => chkVals ds (match ds.all (fun x => Nat.beq (cellsOf x).length e.sz),okT C d,Nat.blt 0 n with
    | true,true,true => .get (.box d) fun v => match v with
     | .bx none => .put (.box d) (.bx (some ⟨false,ds.flatMap cellsOf⟩)) (.put (.tmp d) (.d (.row d n)) .done)
     | _ => .fail
    | _,_,_ => .fail)
   | _,_,_ => .fail
  | false => match elt C.tt t,eqNs (parts.toList.map (·.1)) n && Nat.ble (n * 12) 16777216 with
   | some (e,_),true => opds C (parts.toList.map (·.2)) fun ds => resRows (ds.map cellsOf) fun css => match decAll e css with
    | some xs => setTmp C o.dst (.sl true e xs)
    | none => .fail
   | _,_ => .fail
 | .makeSlice t l c => match l,c,C.tt t with
  | .const (.int .i64 n),.const (.int .i64 m),some ti => match ti.k with
   | .slice el => match C.tt el with
    | some te => match te.e with
     | some e => match e.dec te.zero,n == m && decide (0 ≤ n) && decide (n ≤ 1000) && Nat.ble te.bytes 1000 && Nat.beq e.sz te.sz with
      | some x,true => setTmp C o.dst (.sl true e (List.replicate n.toNat x))
      | _,_ => .fail
     | none => .fail
    | none => .fail
   | _ => .fail
  | _,_,_ => .fail
 | .load t a => match C.tt t with
  | some ti => opd C a fun d => match d with
   | .ptr b off => .get (.box b) fun v => match v with
    | .bx (some bx) => loadAtD ti bx.cells off fun d => setTmp C o.dst d
    | .rw zs => loadAtI ti zs off fun d => setTmp C o.dst d
    | _ => .fail
   | .ref cs off => loadAtD ti cs off fun d => setTmp C o.dst d
   | _ => .fail
  | none => .fail
 | .store t a x => match C.tt t with
  | some ti => opd C a fun d => opd C x fun y => match d with
   | .ptr b off => .get (.box b) fun v => match v with
    | .bx (some bx) => match bx.frozen,Nat.beq (cellsOf (typed C.tt t y)).length ti.sz,Nat.ble (off + ti.sz) bx.cells.length with
     | false,true,true => chk (cellsOf (typed C.tt t y)) (.put (.box b) (.bx (some ⟨false,replAt bx.cells off (cellsOf (typed C.tt t y))⟩)) (setTmp C o.dst .undef))
     | _,_,_ => .fail
    | .rw zs => match y,Nat.beq ti.sz 1 with
     | .int .i64 v,true => .ask (off < zs.length) (.put (.box b) (.rw (zs.set off v)) (setTmp C o.dst .undef))
     | _,_ => .fail
    | _ => .fail
   | _ => .fail
  | none => .fail
 | .binOp op t x y _ => opd C x fun a => opd C y fun b => binW C o.dst orc op t a b fun d => setTmp C o.dst d
 | .unOp .not _ x => opd C x fun a => match a with
  | .bool b => setTmp C o.dst (.bool (!b))
  | _ => .fail
 | .unOp .neg _ x => opd C x fun a => match a with
  | .int .i64 z => .ask (inI64 (0 - z)) (setTmp C o.dst (.int .i64 (0 - z)))
  | _ => .fail
 | .makeFunc (.func f) first caps => opds C first.toList fun ds => resArgs ds fun fs => match fs.all is0A with
  | true => opds C caps.toList fun cs => freezeAll [] cs [] fun caps => setTmp C o.dst (.fn f fs caps)
  | false => .fail
 | .slice t x lo hi mx => match elt C.tt t with
  | some (e0,_) => opd C x fun d => optOpd C lo fun l => optOpd C hi fun h => optOpd C mx fun m => sliceD e0 (typed C.tt t d) l h m fun r => setTmp C o.dst r
  | none => .fail
 | .fieldAddr t x f => match C.tt t with
  | some ti => match ti.k with
   | .struct fs => match fs[f]? with
    | some (off,ft) => match C.tt ft with
     | some tf => match Nat.beq tf.sz 0 with
      | false => opd C x fun d => match d with
       | .ptr b o' => setTmp C o.dst (.ptr b (o' + off))
       | .ref cs o' => setTmp C o.dst (.ref cs (o' + off))
       | _ => .fail
      | true => .fail
     | none => .fail
    | none => .fail
   | _ => .fail
  | none => .fail
 | .field t x f => match C.tt t with
  | some ti => match ti.k with
   | .struct fs => match fs[f]? with
    | some (off,ft) => match C.tt ft with
     | some tf => opd C x fun d => match d with
      | .agg cs => loadAtD tf cs off fun d => setTmp C o.dst d
      | _ => .fail
     | none => .fail
    | none => .fail
   | _ => .fail
  | none => .fail
 | .indexAddr t x ix => match C.tt t with
  | some ti => match ti.k with
   | .array n el => match C.tt el with
    | some te => opd C x fun d => opd C ix fun i => match d,i with
     | .ptr b off,.int .i64 z => .ask (0 ≤ z ∧ z < n) (setTmp C o.dst (.ptr b (off + z.toNat * te.sz)))
     | .ref cs off,.int .i64 z => .ask (0 ≤ z ∧ z < n) (setTmp C o.dst (.ref cs (off + z.toNat * te.sz)))
     | _,_ => .fail
    | none => .fail
   | .slice el => match elt C.tt t with
    | some (e0,_) => opd C x fun d => opd C ix fun i => match i with
     | .int .i64 z => match d with
      | .row b n => .ask (0 ≤ z ∧ z < n) (setTmp C o.dst (.ptr b (z.toNat * e0.sz)))
      | d => elems (typed C.tt t d) fun e xs => match E.same e e0 with
      | some _ => .ask (0 ≤ z ∧ z < xs.length) (setTmp C o.dst (.ref (e.enc (xs.getD z.toNat e.z)) 0))
      | none => .fail
     | _ => .fail
    | none => .fail
   | _ => .fail
  | none => .fail
 | .index t x ix => match C.tt t with
  | some ti => match ti.k with
   | .array n el => match C.tt el with
    | some te => opd C x fun d => opd C ix fun i => match d,i with
     | .agg cs,.int .i64 z => .ask (0 ≤ z ∧ z < n) (loadAtD te cs (z.toNat * te.sz) fun d => setTmp C o.dst d)
     | _,_ => .fail
    | none => .fail
   | _ => .fail
  | none => .fail
 | .makeMap t none => match mapTy C t,o.dst with
  | some (_,_,sp),some d => match okT C d with
   | true => .get (.mp d) fun v => match v with
    | .mp none => .get (.obj d) fun v => match v with
     | .ob none => .ask C.plain (.put (.mp d) (.mp (some (emptyMp sp))) (.put (.tmp d) (.d (.mref d)) .done))
     | _ => .fail
    | _ => .fail
   | false => .fail
  | _,_ => .fail
 | .insert t m k x => opd C m fun m => opd C k fun k => opd C x fun x => updD C o.dst t m k x
 | .mapUpdate t m k x => opd C m fun m => opd C k fun k => opd C x fun x => updD C o.dst t m k x
 | .lookup t m k ok => opd C m fun m => opd C k fun k => lookD C o.dst t m k ok
 | .extract x ix => opd C x fun d => match d with
  | .tup vs => match vs[ix]? with
   | some d => setTmp C o.dst d
   | none => .fail
  | _ => .fail
 | .call c => match c.callee with
  | .builtin .len => match c.args.toList,c.argTypes.toList with
   | [x],[t] => match C.tt t with
    | some ti => match ti.k with
     | .slice _ => opd C x fun d => match d with
      | .row _ n => setTmp C o.dst (.int .i64 n)
      | d => elems (typed C.tt t d) fun _ xs => setTmp C o.dst (.int .i64 xs.length)
     | .array n _ => opd C x fun _ => setTmp C o.dst (.int .i64 n)
     | _ => .fail
    | none => .fail
   | _,_ => .fail
  | .builtin .max => opds C c.args.toList fun ds => match allI ds with
   | some (z :: zs) => setTmp C o.dst (.int .i64 (zs.foldl mx z))
   | _ => .fail
  | .builtin .min => opds C c.args.toList fun ds => match allI ds with
   | some (z :: zs) => setTmp C o.dst (.int .i64 (zs.foldl mn z))
   | _ => .fail
  | .builtin .append => match c.args.toList,c.argTypes.toList with
   | [x,y],[t,u] => match Nat.beq t u with
    | true => opd C x fun a => opd C y fun b => appX C o.dst orc t a b
    | false => .fail
   | _,_ => .fail
  | .value f => opd C f fun g => match g with
   | .fn f first caps => match Nat.beq c.args.toList.length c.argTypes.toList.length with
    | true => opds C c.args.toList fun ds => resArgs ((c.argTypes.toList.zip ds).map fun p => typed C.tt p.1 p.2) fun args =>
     callD C o.dst orc f (first ++ args.map weak ++ caps.map fun cs => .ref cs 0)
    | false => .fail
   | .self f (n + 1) cells => match Nat.beq c.args.toList.length c.argTypes.toList.length with
    | true => opds C c.args.toList fun ds => resArgs ((c.argTypes.toList.zip ds).map fun p => typed C.tt p.1 p.2) fun args =>
     callD C o.dst orc f (args.map weak ++ [.ref cells 0,.ref [.self f n cells] 0])
    | false => .fail
   | _ => .fail
  | _ => .fail
 | _ => .fail
where
 eqNs (l : List Nat) (n : Nat) : Bool := match l with
  | [] => Nat.beq n 0
  | _ => Nat.beq l.length n && upFrom 0 l
 upFrom (k : Nat) : List Nat → Bool
  | [] => true
  | a :: l => Nat.beq a k && upFrom (k + 1) l
 resRows : List (List D) → (List (List D) → M) → M
  | [],k => k []
  | cs :: l,k => resCells cs fun cs' => match cs'.all is0 with
   | true => resRows l fun l' => k (cs' :: l')
   | false => .fail

/-! ### Regions -/
/-- An operation,with its guard. -/
def semG (C : Cfg) (dec : List (Nat × Bool)) (orc : List (Nat × D)) (ops : Array Oper) (o : Oper) : M := match o.guard with
 | none => sem C dec orc o
 | some (j,b) => match (ops[j]?).bind (·.dst) with
  | some t => .get (.tmp t) fun v => match v with
   | .d (.bool c) => match lookN dec t with
    | some u => .ask (c = u) (match Bool.xor u b with
     | false => sem C dec orc o
     | true => setTmp C o.dst (.tup []))
    | none => match Bool.xor c b with
     | false => sem C dec orc o
     | true => setTmp C o.dst (.tup [])
   | .d (.tup []) => setTmp C o.dst (.tup [])
   | _ => .fail
  | none => .fail

/-- One after the other,in the order of the text. -/
def runL (C : Cfg) (dec : List (Nat × Bool)) (orc : List (Nat × D)) (ops : Array Oper) : List Oper → St → Option (List Eff × St)
 | [],s => some ([],s)
 | o :: l,s => match (semG C dec orc ops o).exec s with
  | some e => match runL C dec orc ops l (s.apply e.wr) with
   | some (es,s') => some (e :: es,s')
   | none => none
  | none => none

def memK (k : Key) : List (Key × Val) → Bool
 | [] => false
 | (k',_) :: l => k.eqb k' || memK k l
def meetK : List (Key × Val) → List (Key × Val) → Bool
 | [],_ => false
 | (k,_) :: l,m => memK k m || meetK l m
/-- Two effects that don't touch each other. -/
def Eff.apart (a b : Eff) : Bool := !(meetK a.wr b.rd) && !(meetK a.wr b.wr) && !(meetK b.wr a.rd)

/-- For each operation the set (bits) of those that come before it for sure. -/
def ancs : List Oper → List Nat → List Nat
 | [],acc => acc
 | o :: l,acc => ancs l (acc ++ [o.after.toList.foldl (fun s e => match Region.binds .any e with | true => s ||| (2 ^ e.on ||| acc.getD e.on 0) | false => s) 0])
def edgesOk : List Oper → Nat → Bool
 | [],_ => true
 | o :: l,n => (o.after.toList.all fun e => !(Region.binds .any e) || Nat.blt e.on n) && edgesOk l (n + 1)
def pairOk (anc : Nat) (e : Eff) : Nat → List Eff → Bool
 | _,[] => true
 | i,a :: l => (anc.testBit i || a.apart e) && pairOk anc e (i + 1) l
def commOk (as : List Nat) : List Eff → List Eff → Bool
 | _,[] => true
 | before,e :: l => pairOk (as.getD before.length 0) e 0 before && commOk as (before ++ [e]) l
def drawOk (ops : List Oper) (es : List Eff) : Bool := edgesOk ops 0 && commOk (ancs ops []) [] es

def psOf : List Eff → List Prop
 | [] => []
 | e :: l => e.ps ++ psOf l

def noDefer (l : List Oper) : Bool := l.all fun o => match o.op with
 | .defer _ => false
 | _ => true
def runR (C : Cfg) (dec : List (Nat × Bool)) (orc : List (Nat × D)) (ops : Array Oper) (draw : Bool) (s : St) : Option (List Prop × St) :=
 match noDefer ops.toList,runL C dec orc ops ops.toList s with
 | true,some (es,s') => match draw with
  | false => some (psOf es,s')
  | true => match drawOk ops.toList es with
   | true => some (psOf es,s')
   | false => none
 | _,_ => none


/-! ### States as lists of what is known -/
def dflt : Key → Val
 | .tmp _ => .d .undef
 | .box _ => .bx none
 | .obj _ => .ob none
 | .mp _ => .mp none
def ofL : List (Key × Val) → St
 | [] => dflt
 | (k,v) :: l => (ofL l).set k v
def pickK (s : St) : List Key → List (Key × Val)
 | [] => []
 | k :: l => (k,s k) :: pickK s l
def idsD : D → List Key
 | .own i _ => [.obj i]
 | .mref i => [.mp i]
 | .ptr i _ => [.box i]
 | .row i _ => [.box i]
 | .agg cs => cs.flatMap fun d => match d with
  | .own i _ => [.obj i]
  | .mref i => [.mp i]
  | .row i _ => [.box i]
  | _ => []
 | _ => []
def hasK (k : Key) : List Key → Bool
 | [] => false
 | k' :: l => k.eqb k' || hasK k l
def idsV : Val → List Key
 | .d d => idsD d
 | .bx (some b) => b.cells.flatMap idsD
 | _ => []
def closedK (ks : List Key) : List (Key × Val) → Bool
 | [] => true
 | (_,v) :: l => (idsV v).all (fun k => hasK k ks) && closedK ks l
/-- Of each loop (by its block's number) or region (by 1000 and its number) that is met: which places are looked at,how it is left,and what is known then. -/
abbrev Lorc := List (Nat × (List Key × (Ex × List (Key × Val))))

def run (C : Cfg) (dec : List (Nat × Bool)) (orc : List (Nat × D)) (lorc : Lorc) : Code → St → Option (List Prop × Ex × St)
 | .skip,s => some ([],.normal,s)
 | .label _,s => some ([],.normal,s)
 | .region id ops draw,s => match lookN lorc (1000 + id) with
  | some (ks,e,L') => match closedK ks (pickK s ks) with
   | true => some ([C.lk (.region id ops draw) (pickK s ks) e L'],e,ofL L')
   | false => none
  | none => match runR C dec orc ops draw s with
   | some (ps,s') => some (ps,.normal,s')
   | none => none
 | .seq a b,s => match run C dec orc lorc a s with
  | some (ps,.normal,s') => match run C dec orc lorc b s' with
   | some (qs,e,s'') => some (ps ++ qs,e,s'')
   | none => none
  | some (ps,.exit id,s') => some (ps,.exit id,s')
  | some (ps,.ret,s') => some (ps,.ret,s')
  | none => none
 | .cond (.tmp c) a b,s => match lookN dec c,s (.tmp c) with
  | some true,.d (.bool t) => match run C dec orc lorc a s with
   | some (ps,e,s') => some ((t = true) :: ps,e,s')
   | none => none
  | some false,.d (.bool t) => match run C dec orc lorc b s with
   | some (ps,e,s') => some ((t = false) :: ps,e,s')
   | none => none
  | none,.d (.bool true) => run C dec orc lorc a s
  | none,.d (.bool false) => run C dec orc lorc b s
  | _,_ => none
 | .block id c,s => match lookN lorc id with
  | some (ks,e,L') => match closedK ks (pickK s ks) with
   | true => some ([C.lk (.block id c) (pickK s ks) e L'],e,ofL L')
   | false => none
  | none => match run C dec orc lorc c s with
   | some (ps,.normal,s') => some (ps,.normal,s')
   | some (ps,.exit id',s') => match Nat.beq id' id with
    | true => some (ps,.normal,s')
    | false => some (ps,.exit id',s')
   | some (ps,.ret,s') => some (ps,.ret,s')
   | none => none
 | .scope c,s => match C.inr with
  | false => run C dec orc lorc c s
  | true => none
 | .exit id,s => some ([],.exit id,s)
 | .ret,s => some ([],.ret,s)
 | _,_ => none

/-- The run of a piece of code from what is known at first to what is kept behind it. -/
def runK (C : Cfg) (dec : List (Nat × Bool)) (orc : List (Nat × D)) (lorc : Lorc) (c : Code) (L : List (Key × Val)) (ks : List Key) : Option (List Prop × Ex × List (Key × Val)) :=
 match run C dec orc lorc c (ofL L) with
 | some (ps,e,s) => match closedK ks (pickK s ks) with
  | true => some (ps,e,pickK s ks)
  | false => none
 | none => none

/-! ### A function's answer -/
def told : D → Bool
 | .ref _ _ => false
 | .tup _ => false
 | _ => true
def resVars (C : Cfg) : List ResultVar → (List D → M) → M
 | [],k => k []
 | .tmp t :: l,k => .get (.tmp t) fun v => match v with
  | .d d => resArg d fun d' => match told d' with
   | true => resVars C l fun ds => k (d' :: ds)
   | false => .fail
  | _ => .fail
 | .cell a t :: l,k => match C.tt t with
  | some ti => .get (.tmp a) fun v => match v with
   | .d (.ptr b off) => .get (.box b) fun v => match v with
    | .bx (some bx) => loadAtD ti bx.cells off fun d => resArg d fun d' => match told d' with
     | true => resVars C l fun ds => k (d' :: ds)
     | false => .fail
    | _ => .fail
   | _ => .fail
  | none => .fail
def one : List D → D
 | [d] => d
 | ds => .tup ds
def fin (C : Cfg) (rs : List ResultVar) (s : St) : Option (List Prop × D) :=
 match (resVars C rs fun ds => .put (.tmp 0) (.d (one ds)) .done).exec s with
 | some ⟨ps,_,[(_,.d r)]⟩ => some (ps,r)
 | _ => none

/-- A result of which one row is told as new memory: its cells (the row of box b stays a row),and what that box holds. -/
def liveCells (b : Nat) : List D → (List D → M) → M
 | [],k => k []
 | d :: l,k => match d with
  | .row i n => match Nat.beq i b with
   | true => liveCells b l fun l' => k (.row 0 n :: l')
   | false => .fail
  | d => resCell d fun d' => liveCells b l fun l' => k (d' :: l')
def finL (C : Cfg) (c t b : Nat) : M := match C.tt t with
 | some ti => .get (.tmp c) fun v => match v with
  | .d (.ptr p off) => .get (.box p) fun v => match v with
   | .bx (some bx) => loadAtD ti bx.cells off fun d => match d with
    | .agg cs => liveCells b cs fun cs' => .get (.box b) fun v => match v with
     | .bx (some bb) => match bb.frozen with
      | false => resCells bb.cells fun cells' => .put (.tmp 0) (.d (.tup [.agg cs',.agg cells'])) .done
      | true => .fail
     | _ => .fail
    | _ => .fail
   | _ => .fail
  | _ => .fail
 | none => .fail

def entry : Nat → List D → List (Key × Val)
 | _,[] => []
 | i,d :: l => (.tmp i,.d d) :: entry (i + 1) l

/-- A whole call along one road. -/
def callF (C : Cfg) (dec : List (Nat × Bool)) (orc : List (Nat × D)) (lorc : Lorc) (c : Code) (rs : List ResultVar) (args : List D) : Option (List Prop × D) :=
 match run C dec orc lorc c (ofL (entry 0 args)) with
 | some (_,.exit _,_) => none
 | some (ps,_,s) => match fin C rs s with
  | some (qs,r) => some (ps ++ qs,r)
  | none => none
 | none => none

/-- The same of a function with such a result. -/
def callL (C : Cfg) (dec : List (Nat × Bool)) (orc : List (Nat × D)) (lorc : Lorc) (code : Code) (c t b : Nat) (args : List D) : Option (List Prop × List D × List D) :=
 match run C dec orc lorc code (ofL (entry 0 args)) with
 | some (_,.exit _,_) => none
 | some (ps,_,s) => match (finL C c t b).exec s with
  | some ⟨qs,_,[(_,.d (.tup [.agg cs,.agg cells]))]⟩ => some (ps ++ qs,cs,cells)
  | _ => none
 | none => none

/-- A part of a code,by the road to it. -/
def Code.at : List Nat → Code → Code
 | [],c => c
 | 0 :: p,.seq a _ => Code.at p a
 | 1 :: p,.seq _ b => Code.at p b
 | 0 :: p,.cond _ a _ => Code.at p a
 | 1 :: p,.cond _ _ b => Code.at p b
 | 0 :: p,.block _ c => Code.at p c
 | 0 :: p,.loop c => Code.at p c
 | 0 :: p,.scope c => Code.at p c
 | 0 :: p,.rangeFunc _ _ a _ => Code.at p a
 | 1 :: p,.rangeFunc _ _ _ b => Code.at p b
 | _,c => c
end Go.Di

