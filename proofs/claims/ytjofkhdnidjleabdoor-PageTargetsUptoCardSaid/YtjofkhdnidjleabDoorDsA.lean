/- The data-level semantics: plain data, abstract states, and an interpreter of the program's own code over them. -/
import Derived.Calls
import GoSem.ClaimWide
set_option linter.unusedVariables false
set_option linter.unusedSimpArgs false
namespace Go.Proofs.YtjofkhdnidjleabDoor.DS

/-- Plain data: what Go values hold, without memory. A struct is its cells, flat. -/
inductive D where
  | no
  | bool (b : Bool)
  | int (n : Int)
  | str (s : List UInt8)
  | list (xs : List D)
  | agg (cs : List D)
  deriving Inhabited

def D.toBool : D → Bool | .bool b => b | _ => false
def D.toInt : D → Int | .int n => n | _ => 0
def D.toStr : D → List UInt8 | .str s => s | _ => []
def D.toList : D → List D | .list xs => xs | _ => []
def D.cells : D → List D | .agg cs => cs | d => [d]
def D.cell (d : D) (i : Nat) : D := d.cells.getD i .no

/-- Kinds of values. -/
inductive KT where
  | bool
  | int (k : IntKind)
  | str
  | slice (e : TypeId)
  | agg (t : TypeId)
  | ptr
  deriving Inhabited

def ikCode : IntKind → Nat
  | .i8 => 0 | .i16 => 1 | .i32 => 2 | .i64 => 3 | .u8 => 4 | .u16 => 5 | .u32 => 6 | .u64 => 7
def ikEq (a b : IntKind) : Bool := Nat.beq (ikCode a) (ikCode b)
def KT.eq : KT → KT → Bool
  | .bool, .bool => true
  | .int a, .int b => ikEq a b
  | .str, .str => true
  | .slice a, .slice b => Nat.beq a b
  | .agg a, .agg b => Nat.beq a b
  | .ptr, .ptr => true
  | _, _ => false

/-- What the interpreter knows of a type: its kind, its cells' kinds, its fields (offset, type). -/
structure TI where
  kt : KT
  cells : List KT
  fields : List (Nat × TypeId)
  bytes : Nat
  deriving Inhabited

def lk {α : Type} (t : Nat) : List (Nat × α) → Option α
  | [] => none
  | (u, x) :: r => cond (Nat.beq t u) (some x) (lk t r)
def memN (t : Nat) : List Nat → Bool
  | [] => false
  | u :: r => cond (Nat.beq t u) true (memN t r)

abbrev TT := List (Nat × TI)

/-- Data in the form that its kind tells. -/
def canon : KT → D → D
  | .bool, d => .bool d.toBool
  | .int _, d => .int d.toInt
  | .str, d => .str d.toStr
  | .slice _, d => .list d.toList
  | .agg _, d => d
  | .ptr, d => d

/-- A part of a value: cells from an offset on, of a kind. -/
def partD (tt : TT) (d : D) (off : Nat) : KT → D
  | .agg t => match lk t tt with
    | some ti => .agg ((d.cells.drop off).take ti.cells.length)
    | none => .no
  | k => canon k (d.cell off)
def setCells : List D → Nat → List D → List D
  | cs, _, [] => cs
  | cs, off, x :: r => setCells (cs.set off x) (off + 1) r
/-- A value, a part of it replaced. -/
def setPart (d : D) (off : Nat) (k : KT) (x : D) : D :=
  match k with
  | .agg _ => .agg (setCells d.cells off x.cells)
  | _ => .agg (d.cells.set off x)

/-- What a slot holds. -/
inductive SV where
  | val (k : KT) (d : D)
  | nil
  | eptr (k : KT) (d : D)
  | bptr (id : Nat) (u : TypeId) (off : Nat) (k : KT)
  | optr (id : Nat) (e : TypeId) (i : Int) (off : Nat) (k : KT)
  | own (id : Nat)
  | tup (l : List SV)
  | gone
  | selfn (id : Nat)
  | clo (f : Nat) (id : Nat)
  | sag (t : TypeId) (ks : List KT) (l : List SV)
  deriving Inhabited

/-- What a box holds: a struct whole, or its cells. -/
inductive BC where
  | whole (d : D)
  | cells (l : List SV)
inductive Obj where
  | arr (e : TypeId) (es : List D)
  | box (t : TypeId) (c : BC)

structure St where
  n : Nat
  slots : Nat → Option SV
  objs : Nat → Option Obj

/-- A table, one place of it replaced. -/
def put {α : Type} (f : Nat → α) (t : Nat) (x : α) : Nat → α := fun u => cond (Nat.beq u t) x (f u)

/-- How parameters and results are handed over. -/
inductive CK where
  | val (k : KT)
  | row (e : TypeId)
  | self
inductive PM where
  | val (k : KT)
  | own (e : TypeId)
  | box (t : TypeId) (cells : List CK)
  | ref (k : KT)
inductive RM where
  | val (k : KT)
  | own (e : TypeId)
  | any
structure Sig where
  params : List PM
  results : List RM
  gone : Bool := false
/-- What is given back of what was handed over. -/
def Sig.outs (sg : Sig) : List PM := cond sg.gone [] sg.params

/-- What is done to a state ahead of a region: rows are frozen, nil slices become own rows, all else than what is kept is forgotten. -/
inductive NA where
  | asis
  | own (e : TypeId)
  | dat (e : TypeId)
structure Norm where
  freeze : List Nat := []
  keep : Option (List (Nat × NA)) := none
  objs : List Nat := []
  frz : List Nat := []
  cut : Bool := false
  rows : List (Nat × Nat × TypeId) := []

structure Env where
  tt : TT
  fns : List (Nat × Func)
  sigs : List (Nat × Sig)
  ext : List (Nat × (List D → Option (List D)))
  ann : List (Nat × List (Nat × Norm))

/-- No row, no string is longer. -/
def lim : Nat := 68719476736

def boolEqB (a b : Bool) : Bool := match a with | true => b | false => !b

/-- The guards under which an operation of a region is carried out: slots and what they must hold. -/
def nthOp : List Oper → Nat → Option Oper
  | [], _ => none
  | o :: _, 0 => some o
  | _ :: r, n + 1 => nthOp r n
/-- The operation of a region that writes a slot. -/
def dstIx (t : Nat) : List Oper → Nat → Option Nat
  | [], _ => none
  | o :: r, i => match o.dst with
    | some u => cond (Nat.beq t u) (some i) (dstIx t r (i + 1))
    | none => dstIx t r (i + 1)
def chainF (ops : List Oper) : Nat → Nat → List (Nat × Bool)
  | 0, _ => []
  | n + 1, i => match nthOp ops i with
    | none => []
    | some o => match o.guard with
      | none => []
      | some (j, w) => cond (Nat.ble (j + 1) i) (match nthOp ops j with
        | some oj => match oj.dst with
          | some t => (t, w) :: chainF ops n j
          | none => []
        | none => []) []
def chainOf (ops : List Oper) (i : Nat) : List (Nat × Bool) := chainF ops (i + 1) i
def grdOf (ops : List Oper) (t : Nat) : List (Nat × Bool) := match dstIx t ops 0 with
  | some i => chainOf ops i
  | none => []
def inGrd (p : Nat × Bool) : List (Nat × Bool) → Bool
  | [] => false
  | q :: r => cond (Nat.beq p.1 q.1 && boolEqB p.2 q.2) true (inGrd p r)
def subGrd : List (Nat × Bool) → List (Nat × Bool) → Bool
  | [], _ => true
  | p :: r, L => cond (inGrd p L) (subGrd r L) false

/-- A constant. -/
def constSV : Value → Option SV
  | .bool b => some (.val .bool (.bool b))
  | .int k n => cond (Lit.int k n).wf (some (.val (.int k) (.int n))) none
  | .string s => cond (Nat.ble s.data.toList.length maxLen) (some (.val .str (.str s.data.toList))) none
  | .slice none 0 0 => some .nil
  | .nilIface => some .gone
  | _ => none

/-- An operand, read under the guards L. -/
def ev (st : St) (ops : List Oper) (L : List (Nat × Bool)) : Operand → Option SV
  | .tmp t => cond (subGrd (grdOf ops t) L) (st.slots t) none
  | .const v => constSV v
  | _ => none

/-- Plain data of a kind. -/
def svD1 (k : KT) : SV → Option D
  | .val k' d => cond (KT.eq k k') (some d) none
  | .nil => match k with | .slice _ => some (.list []) | _ => none
  | _ => none

def zeroD : KT → D
  | .bool => .bool false
  | .int _ => .int 0
  | .str => .str []
  | .slice _ => .list []
  | .agg _ => .no
  | .ptr => .no
def zeroSV (id : Nat) : KT → SV
  | .slice _ => .nil
  | .ptr => .selfn id
  | k => .val k (zeroD k)

/-- The cells of a box. -/
def expand (ks : List KT) (d : D) (i : Nat) : List SV :=
  match ks with
  | [] => []
  | k :: r => .val k (canon k (d.cell i)) :: expand r d (i + 1)
def BC.toCells (ti : TI) : BC → List SV
  | .whole d => expand ti.cells d 0
  | .cells l => l
def cellsD : List KT → List SV → Option (List D)
  | [], [] => some []
  | k :: ks, s :: ss => match svD1 k s, cellsD ks ss with
    | some d, some r => some (d :: r)
    | _, _ => none
  | _, _ => none
def svD (k : KT) : SV → Option D
  | .sag t ks l => match k with
    | .agg u => cond (Nat.beq t u) (match cellsD ks l with | some ds => some (.agg ds) | none => none) none
    | _ => none
  | s => svD1 k s

def boxLoad (tt : TT) (t : TypeId) (ti : TI) (c : BC) (off : Nat) (k : KT) : Option SV :=
  match c with
  | .whole d => cond (Nat.beq off 0 && KT.eq k (.agg t)) (some (.val k d)) (some (.val k (partD tt d off k)))
  | .cells l => match k with
    | .agg u => match lk u tt with
      | some tu => (cellsD tu.cells ((l.drop off).take tu.cells.length)).map fun ds => .val k (.agg ds)
      | none => none
    | _ => match l[off]? with
      | some (.val k' d) => cond (KT.eq k k') (some (.val k d)) none
      | some (.tup _) => none
      | some (.sag _ _ _) => none
      | some s => some s
      | none => none

def setSVs : List SV → Nat → List SV → List SV
  | cs, _, [] => cs
  | cs, off, x :: r => setSVs (cs.set off x) (off + 1) r

def singleK : KT → Bool
  | .agg _ => false
  | _ => true
def knownC : SV → Bool
  | .val k _ => singleK k
  | .nil => true
  | .own _ => true
  | .selfn _ => true
  | _ => false
def allKnown : List SV → Bool
  | [] => true
  | s :: r => cond (knownC s) (allKnown r) false
def boxStore (tt : TT) (t : TypeId) (ti : TI) (c : BC) (off : Nat) (k : KT) (s : SV) : Option BC :=
  match k with
  | .agg u => match s with
    | .sag u' _ l => cond (Nat.beq u u' && allKnown l) (some (.cells (setSVs (c.toCells ti) off l))) none
    | s => match svD k s with
      | some d => cond (Nat.beq off 0 && Nat.beq u t) (some (.whole d)) (match lk u tt with
        | some tu => some (.cells (setSVs (c.toCells ti) off (expand tu.cells d 0)))
        | none => none)
      | none => none
  | _ => match s with
    | .val k' d => cond (KT.eq k k') (some (.cells ((c.toCells ti).set off (.val k d)))) none
    | .nil => match k with | .slice _ => some (.cells ((c.toCells ti).set off .nil)) | _ => none
    | .own id => match k with | .slice _ => some (.cells ((c.toCells ti).set off (.own id))) | _ => none
    | _ => none

def putSlot (st : St) (dst : Option Nat) (s : SV) : Option St :=
  match dst with
  | none => some st
  | some t => cond (Nat.ble (t + 1) st.n) (some { st with slots := put st.slots t (some s) }) none

/-- The slots and cells that name a row: they are forgotten. -/
def refs0 : SV → List Nat
  | .own i => [i]
  | .optr i _ _ _ _ => [i]
  | .bptr i _ _ _ => [i]
  | .selfn i => [i]
  | .clo _ i => [i]
  | _ => []
def refsL : List SV → List Nat
  | [] => []
  | s :: r => refs0 s ++ refsL r
def refsOf : SV → List Nat
  | .tup l => refsL l
  | .sag _ _ l => refsL l
  | s => refs0 s
def SV.names (id : Nat) (s : SV) : Bool := memN id (refsOf s)
def scrubCells (id : Nat) : List SV → List SV
  | [] => []
  | s :: r => cond (s.names id) .gone s :: scrubCells id r
def scrubObj (id : Nat) : Obj → Obj
  | .box u (.cells l) => .box u (.cells (scrubCells id l))
  | x => x
def omap {α β : Type} (f : α → β) : Option α → Option β | some x => some (f x) | none => none
def scrubS (id : Nat) (s : SV) : SV := cond (s.names id) .gone s
def St.scrub (st : St) (id : Nat) : St := { st with slots := fun t => omap (scrubS id) (st.slots t), objs := fun i => omap (scrubObj id) (st.objs i) }

/-- A row becomes plain data. -/
def frzSV0 (id : Nat) (e : TypeId) (es : List D) (s : SV) : SV :=
  match s with
  | .own i => cond (Nat.beq i id) (.val (.slice e) (.list es)) s
  | .val _ _ => s
  | _ => cond (s.names id) .gone s
def frzCells (id : Nat) (e : TypeId) (es : List D) : List SV → List SV
  | [] => []
  | s :: r => frzSV0 id e es s :: frzCells id e es r
def frzSV (id : Nat) (e : TypeId) (es : List D) (s : SV) : SV :=
  match s with
  | .sag t ks l => .sag t ks (frzCells id e es l)
  | _ => frzSV0 id e es s
def frzObj (id : Nat) (e : TypeId) (es : List D) : Obj → Obj
  | .box u (.cells l) => .box u (.cells (frzCells id e es l))
  | x => x
def St.freeze (st : St) (id : Nat) : Option St :=
  match st.objs id with
  | some (.arr e es) => some { st with slots := fun t => omap (frzSV id e es) (st.slots t), objs := put (fun i => omap (frzObj id e es) (st.objs i)) id none }
  | _ => none

/-- A row under another name. -/
def renSV0 (id rid : Nat) (s : SV) : SV :=
  match s with
  | .own i => cond (Nat.beq i id) (.own rid) s
  | .val _ _ => s
  | _ => cond (s.names id) .gone s
def renCells (id rid : Nat) : List SV → List SV
  | [] => []
  | s :: r => renSV0 id rid s :: renCells id rid r
def renSV (id rid : Nat) (s : SV) : SV :=
  match s with
  | .sag t ks l => .sag t ks (renCells id rid l)
  | _ => renSV0 id rid s
def renObj (id rid : Nat) : Obj → Obj
  | .box u (.cells l) => .box u (.cells (renCells id rid l))
  | x => x
def St.ren (st : St) (id rid : Nat) (e : TypeId) (es : List D) : St :=
  { st with slots := fun t => omap (renSV id rid) (st.slots t), objs := put (put (fun i => omap (renObj id rid) (st.objs i)) id none) rid (some (.arr e es)) }
def cellRow (id c : Nat) : Nat := 700000 + 64 * id + c

end Go.Proofs.YtjofkhdnidjleabDoor.DS
