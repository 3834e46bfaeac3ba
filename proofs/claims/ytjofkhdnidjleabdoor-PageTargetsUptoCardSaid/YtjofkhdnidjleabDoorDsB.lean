/- The data-level semantics: operations, regions, code, runs. -/
import Derived.Test.YtjofkhdnidjleabDoorDsA
set_option linter.unusedVariables false
set_option linter.unusedSimpArgs false
namespace Go.Proofs.YtjofkhdnidjleabDoor.DS

/-- What an operation gives: a value; an object laid, or laid anew (what named it is forgotten where scr says so), and a value; a call to be made. -/
inductive Out where
  | sv (c : Bool) (v : SV)
  | ob (c : Bool) (id : Nat) (o : Obj) (scr : Bool) (v : SV)
  | call (f : Nat) (args : List D) (rs : List RM)
  | hcall (f : Nat) (args : List D) (sg : Sig) (rows : List Nat) (boxes : List (Nat × TypeId × List CK))
def obSt (st : St) (id : Nat) (o : Obj) (scr : Bool) : St :=
  cond scr ({ st with objs := put st.objs id (some o) }.scrub id) { st with objs := put st.objs id (some o) }

def opt {α β : Type} (x : Option α) (f : α → Option β) : Option β := match x with | some a => f a | none => none

def intOp (op : BinOp) (k : IntKind) (a b : Int) : Option Out :=
  match op with
  | .add => some (.sv true (.val (.int k) (.int (k.wrap (a + b)))))
  | .sub => some (.sv true (.val (.int k) (.int (k.wrap (a - b)))))
  | .mul => some (.sv true (.val (.int k) (.int (k.wrap (a * b)))))
  | .quo => some (.sv (!decide (b = 0)) (.val (.int k) (.int (k.wrap (a.tdiv b)))))
  | .rem => some (.sv (!decide (b = 0)) (.val (.int k) (.int (a.tmod b))))
  | .and => some (.sv true (.val (.int k) (.int (k.wrap (BitVec.ofInt k.bits a &&& BitVec.ofInt k.bits b).toNat))))
  | .or => some (.sv true (.val (.int k) (.int (k.wrap (BitVec.ofInt k.bits a ||| BitVec.ofInt k.bits b).toNat))))
  | .xor => some (.sv true (.val (.int k) (.int (k.wrap (BitVec.ofInt k.bits a ^^^ BitVec.ofInt k.bits b).toNat))))
  | .andNot => some (.sv true (.val (.int k) (.int (k.wrap (BitVec.ofInt k.bits a &&& ~~~BitVec.ofInt k.bits b).toNat))))
  | .eql => some (.sv true (.val .bool (.bool (decide (a = b)))))
  | .neq => some (.sv true (.val .bool (.bool (!decide (a = b)))))
  | .lss => some (.sv true (.val .bool (.bool (decide (a < b)))))
  | .leq => some (.sv true (.val .bool (.bool (decide (a ≤ b)))))
  | .gtr => some (.sv true (.val .bool (.bool (decide (b < a)))))
  | .geq => some (.sv true (.val .bool (.bool (decide (b ≤ a)))))
  | _ => none
def shiftOp (op : BinOp) (k : IntKind) (a b : Int) : Option Out :=
  match op with
  | .shl => some (.sv (decide (0 ≤ b)) (.val (.int k) (.int (k.wrap (a * 2 ^ min b.toNat k.bits)))))
  | .shr => some (.sv (decide (0 ≤ b)) (.val (.int k) (.int (a.fdiv (2 ^ min b.toNat k.bits)))))
  | _ => none
def strOp (op : BinOp) (a b : List UInt8) : Option Out :=
  match op with
  | .add => some (.sv (decide (a.length + b.length ≤ lim)) (.val .str (.str (a ++ b))))
  | .eql => some (.sv true (.val .bool (.bool (decide (a = b)))))
  | .neq => some (.sv true (.val .bool (.bool (!decide (a = b)))))
  | .lss => some (.sv true (.val .bool (.bool (Op.bytesLess a b))))
  | .leq => some (.sv true (.val .bool (.bool (Op.bytesLess a b || decide (a = b)))))
  | .gtr => some (.sv true (.val .bool (.bool (!(Op.bytesLess a b || decide (a = b))))))
  | .geq => some (.sv true (.val .bool (.bool (!Op.bytesLess a b))))
  | _ => none
def boolOp (op : BinOp) (a b : Bool) : Option Out :=
  match op with
  | .eql => some (.sv true (.val .bool (.bool (a == b))))
  | .neq => some (.sv true (.val .bool (.bool (!(a == b)))))
  | _ => none
def isShift : BinOp → Bool | .shl | .shr => true | _ => false
def binO (tt : TT) (op : BinOp) (t : TypeId) (x y : SV) : Option Out :=
  match x, y with
  | .val (.int k) a, .val (.int k') b => cond (isShift op) (shiftOp op k a.toInt b.toInt) (cond (ikEq k k') (intOp op k a.toInt b.toInt) none)
  | .val .str a, .val .str b => strOp op a.toStr b.toStr
  | .val .bool a, .val .bool b => match lk t tt with
    | some ti => cond (KT.eq ti.kt .bool) (boolOp op a.toBool b.toBool) none
    | none => none
  | _, _ => none
def unO (op : UnOp) (x : SV) : Option Out :=
  match op, x with
  | .not, .val .bool a => some (.sv true (.val .bool (.bool (!a.toBool))))
  | .neg, .val (.int k) a => some (.sv true (.val (.int k) (.int (k.wrap (0 - a.toInt)))))
  | _, _ => none

/-- pick c a b: a where c, else b; each need hold only there. -/
def dropGrd (p : Nat × Bool) : List (Nat × Bool) → List (Nat × Bool)
  | [] => []
  | q :: r => cond (Nat.beq p.1 q.1 && boolEqB p.2 q.2) (dropGrd p r) (q :: dropGrd p r)
def evPick (st : St) (ops : List Oper) (L : List (Nat × Bool)) (c : Nat) (b : Bool) : Operand → Option SV
  | .tmp t => cond (subGrd (dropGrd (c, b) (grdOf ops t)) L) (st.slots t) none
  | .const v => constSV v
  | _ => none
def opdTmp : Operand → Option Nat | .tmp t => some t | _ => none
def sameTmp (c : Nat) : Operand → Bool | .tmp t => Nat.beq t c | _ => false
def pickD (k : KT) (c : Bool) (a b : D) : D :=
  match k with
  | .bool => .bool (cond c a.toBool b.toBool)
  | .int _ => .int (cond c a.toInt b.toInt)
  | .str => .str (cond c a.toStr b.toStr)
  | .slice _ => .list (cond c a.toList b.toList)
  | .agg _ => cond c a b
  | .ptr => cond c a b
def pickO (st : St) (ops : List Oper) (L : List (Nat × Bool)) (c a b : Operand) : Option Out :=
  opt (opdTmp c) fun tc => opt (ev st ops L c) fun sc => match sc with
    | .val .bool dc => match evPick st ops L tc true a, evPick st ops L tc false b with
      | some (.val ka da), some (.val kb db) => cond (KT.eq ka kb)
          (match ka with
            | .bool => cond (sameTmp tc a) (some (.sv true (.val .bool (.bool (dc.toBool || db.toBool)))))
                (cond (sameTmp tc b) (some (.sv true (.val .bool (.bool (dc.toBool && da.toBool)))))
                  (some (.sv true (.val ka (pickD ka dc.toBool da db)))))
            | _ => some (.sv true (.val ka (pickD ka dc.toBool da db)))) none
      | _, _ => none
    | _ => none

def constAgg : List KT → List Value → Option (List D)
  | [], [] => some []
  | k :: ks, v :: vs => opt (constSV v) fun s => opt (svD k s) fun d => opt (constAgg ks vs) fun r => some (d :: r)
  | _, _ => none
def moveO (E : Env) (st : St) (ops : List Oper) (L : List (Nat × Bool)) (x : Operand) (t : TypeId) : Option Out :=
  match x with
  | .const (.agg cs) => opt (lk t E.tt) fun ti => match ti.kt with
    | .agg _ => opt (constAgg ti.cells cs.toList) fun ds => some (.sv true (.val ti.kt (.agg ds)))
    | _ => none
  | _ => opt (ev st ops L x) fun s => some (.sv true s)

def fresh (st : St) (id : Nat) : Bool := match st.objs id with | some _ => false | none => true
def isNilL {α : Type} : List α → Bool | [] => true | _ => false
def withObj (st : St) (dst : Option Nat) (o : Obj) (v : Nat → SV) (c : Bool) : Option Out :=
  match dst with
  | some id => cond (fresh st id) (some (.ob c id o false (v id))) none
  | none => none

def allocO (E : Env) (st : St) (dst : Option Nat) (t : TypeId) : Option Out :=
  opt (lk t E.tt) fun ti => withObj st dst (.box t (.cells (ti.cells.map (zeroSV (dst.getD 0))))) (fun id => .bptr id t 0 ti.kt) true
/-- What a box holds at first. -/
def boxC (t : TypeId) (ti : TI) (s : SV) : Option BC :=
  match ti.kt with
  | .agg _ => match s with
    | .sag u _ l => cond (Nat.beq u t) (some (.cells l)) none
    | _ => opt (svD ti.kt s) fun d => some (.whole d)
  | .slice _ => match s with
    | .nil => some (.cells [.nil])
    | .own i => some (.cells [.own i])
    | _ => opt (svD ti.kt s) fun d => some (.cells [.val ti.kt d])
  | _ => opt (svD ti.kt s) fun d => some (.cells [.val ti.kt d])
def boxO (E : Env) (st : St) (ops : List Oper) (L : List (Nat × Bool)) (dst : Option Nat) (t : TypeId) (x : Operand) : Option Out :=
  opt (lk t E.tt) fun ti => opt (ev st ops L x) fun s => opt (boxC t ti s) fun c => withObj st dst (.box t c) (fun id => .bptr id t 0 ti.kt) true

def expandD (ks : List KT) (d : D) (i : Nat) : List D :=
  match ks with
  | [] => []
  | k :: r => canon k (d.cell i) :: expandD r d (i + 1)
def setField (k : KT) (ks : List KT) (cs : List D) (off : Nat) (d : D) : List D :=
  match k with
  | .agg _ => setCells cs off (expandD ks d 0)
  | _ => cs.set off d
def fillD (E : Env) (st : St) (ops : List Oper) (L : List (Nat × Bool)) (fields : List (Nat × TypeId)) : List (Nat × Operand) → List D → Option (List D)
  | [], cs => some cs
  | (i, x) :: r, cs => opt fields[i]? fun ft => opt (lk ft.2 E.tt) fun fi => opt (ev st ops L x) fun s => opt (svD fi.kt s) fun d =>
    fillD E st ops L fields r (setField fi.kt fi.cells cs ft.1 d)
/-- The cells of a part of a struct. -/
def partS (fi : TI) (s : SV) : Option (List SV) :=
  match fi.kt with
  | .agg u => match s with
    | .sag u' _ l => cond (Nat.beq u u') (some l) none
    | .val k d => cond (KT.eq fi.kt k) (some (expand fi.cells d 0)) none
    | _ => none
  | .slice _ => match s with
    | .nil => some [.nil]
    | .own i => some [.own i]
    | .val k d => cond (KT.eq fi.kt k) (some [.val k d]) none
    | _ => none
  | _ => match s with
    | .val k d => cond (KT.eq fi.kt k) (some [.val k d]) none
    | _ => none
def fillS (E : Env) (st : St) (ops : List Oper) (L : List (Nat × Bool)) (fields : List (Nat × TypeId)) : List (Nat × Operand) → List SV → Option (List SV)
  | [], cs => some cs
  | (i, x) :: r, cs => opt fields[i]? fun ft => opt (lk ft.2 E.tt) fun fi => opt (ev st ops L x) fun s => opt (partS fi s) fun l =>
    fillS E st ops L fields r (setSVs cs ft.1 l)
def zeroSB : KT → SV
  | .slice _ => .nil
  | .ptr => .gone
  | k => .val k (zeroD k)
def anySlice : List KT → Bool
  | [] => false
  | .slice _ :: _ => true
  | .ptr :: _ => true
  | _ :: r => anySlice r
def allVal : List SV → Bool
  | [] => true
  | .val _ _ :: r => allVal r
  | _ => false
def buildO (E : Env) (st : St) (ops : List Oper) (L : List (Nat × Bool)) (t : TypeId) (parts : List (Nat × Operand)) : Option Out :=
  opt (lk t E.tt) fun ti => match ti.kt with
    | .agg _ => cond (anySlice ti.cells)
        (opt (fillS E st ops L ti.fields parts (ti.cells.map zeroSB)) fun l =>
          cond (allVal l) (opt (svD ti.kt (.sag t ti.cells l)) fun d => some (.sv true (.val ti.kt d))) (some (.sv true (.sag t ti.cells l))))
        (opt (fillD E st ops L ti.fields parts (ti.cells.map zeroD)) fun cs => some (.sv true (.val ti.kt (.agg cs))))
    | _ => none
def elemsD (st : St) (ops : List Oper) (L : List (Nat × Bool)) (k : KT) : Nat → List (Nat × Operand) → Option (List D)
  | _, [] => some []
  | n, (i, x) :: r => cond (Nat.beq i n) (opt (ev st ops L x) fun s => opt (svD k s) fun d => opt (elemsD st ops L k (n + 1) r) fun ds => some (d :: ds)) none
def buildSliceO (E : Env) (st : St) (ops : List Oper) (L : List (Nat × Bool)) (dst : Option Nat) (t : TypeId) (len : Nat) (parts : List (Nat × Operand)) : Option Out :=
  opt (lk t E.tt) fun ti => match ti.kt with
    | .slice e => opt (lk e E.tt) fun ei => opt (elemsD st ops L ei.kt 0 parts) fun ds =>
      cond (Nat.beq ds.length len && (Nat.ble (len * ei.cells.length) 4096 && Nat.ble 1 ei.cells.length)) (withObj st dst (.arr e ds) (fun id => .own id) true) none
    | _ => none

def loadO (E : Env) (st : St) (ops : List Oper) (L : List (Nat × Bool)) (t : TypeId) (x : Operand) : Option Out :=
  opt (lk t E.tt) fun ti => opt (ev st ops L x) fun s => match s with
    | .eptr k d => cond (KT.eq k ti.kt) (some (.sv true (.val k (canon k d)))) none
    | .bptr id u' off k => cond (KT.eq k ti.kt) (match st.objs id with
      | some (.box u c) => cond (Nat.beq u u') (opt (lk u E.tt) fun ui => opt (boxLoad E.tt u ui c off k) fun v => some (.sv true v)) none
      | _ => none) none
    | .optr id e' i off k => cond (KT.eq k ti.kt) (match st.objs id with
      | some (.arr e es) => cond (Nat.beq e e') (opt (lk e E.tt) fun ei =>
        cond (Nat.beq off 0 && KT.eq k ei.kt) (some (.sv true (.val k (canon k (es.getD i.toNat .no))))) (some (.sv true (.val k (partD E.tt (es.getD i.toNat .no) off k))))) none
      | _ => none) none
    | _ => none
def isAggK : KT → Bool | .agg _ => true | _ => false
def storeO (E : Env) (st : St) (ops : List Oper) (L : List (Nat × Bool)) (t : TypeId) (a x : Operand) : Option Out :=
  opt (lk t E.tt) fun ti => opt (ev st ops L a) fun s => opt (ev st ops L x) fun v => match s with
    | .bptr id u' off k => cond (KT.eq k ti.kt) (match st.objs id with
      | some (.box u c) => cond (Nat.beq u u') (opt (lk u E.tt) fun ui => opt (boxStore E.tt u ui c off k v) fun c' => some (.ob true id (.box u c') false .gone)) none
      | _ => none) none
    | .optr id e' i off k => cond (KT.eq k ti.kt) (opt (svD k v) fun d => match st.objs id with
      | some (.arr e es) => cond (Nat.beq e e') (opt (lk e E.tt) fun ei =>
        cond (Nat.beq off 0 && KT.eq k ei.kt) (some (.ob true id (.arr e (es.set i.toNat d)) false .gone))
          (cond (isAggK ei.kt) (some (.ob true id (.arr e (es.set i.toNat (setPart (es.getD i.toNat .no) off k d))) false .gone)) none)) none
      | _ => none) none
    | _ => none

def fieldAddrO (E : Env) (st : St) (ops : List Oper) (L : List (Nat × Bool)) (t : TypeId) (x : Operand) (f : Nat) : Option Out :=
  opt (lk t E.tt) fun ti => opt ti.fields[f]? fun ft => opt (lk ft.2 E.tt) fun fi => cond (!isNilL fi.cells && isAggK ti.kt) (opt (ev st ops L x) fun s => match s with
    | .eptr k d => cond (KT.eq k ti.kt) (some (.sv true (.eptr fi.kt (partD E.tt d ft.1 fi.kt)))) none
    | .bptr id u off k => cond (KT.eq k ti.kt) (some (.sv true (.bptr id u (off + ft.1) fi.kt))) none
    | .optr id e i off k => cond (KT.eq k ti.kt) (some (.sv true (.optr id e i (off + ft.1) fi.kt))) none
    | _ => none) none

/-- A field of a struct's value. -/
def fieldO (E : Env) (st : St) (ops : List Oper) (L : List (Nat × Bool)) (t : TypeId) (x : Operand) (f : Nat) : Option Out :=
  opt (lk t E.tt) fun ti => opt ti.fields[f]? fun ft => opt (lk ft.2 E.tt) fun fi => cond (!isNilL fi.cells && isAggK ti.kt) (opt (ev st ops L x) fun s => match s with
    | .val k d => cond (KT.eq k ti.kt) (some (.sv true (.val fi.kt (partD E.tt d ft.1 fi.kt)))) none
    | _ => none) none

def inb (i : Int) (n : Nat) : Bool := decide (0 ≤ i) && decide (i < (n : Int))
def indexAddrO (E : Env) (st : St) (ops : List Oper) (L : List (Nat × Bool)) (t : TypeId) (x i : Operand) : Option Out :=
  opt (lk t E.tt) fun ti => opt (ev st ops L x) fun s => opt (ev st ops L i) fun si => match ti.kt, s, si with
    | .slice e, .val (.slice e') d, .val (.int _) di => cond (Nat.beq e e') (opt (lk e E.tt) fun ei =>
        some (.sv (inb di.toInt d.toList.length) (.eptr ei.kt (d.toList.getD di.toInt.toNat .no)))) none
    | .slice e, .own id, .val (.int _) di => match st.objs id with
      | some (.arr e' es) => cond (Nat.beq e e') (opt (lk e E.tt) fun ei => some (.sv (inb di.toInt es.length) (.optr id e di.toInt 0 ei.kt))) none
      | _ => none
    | _, _, _ => none
def indexO (E : Env) (st : St) (ops : List Oper) (L : List (Nat × Bool)) (t : TypeId) (x i : Operand) : Option Out :=
  opt (lk t E.tt) fun ti => opt (ev st ops L x) fun s => opt (ev st ops L i) fun si => match ti.kt, s, si with
    | .str, .val .str d, .val (.int _) di => some (.sv (inb di.toInt d.toStr.length) (.val (.int .u8) (.int ((d.toStr.getD di.toInt.toNat 0).toNat : Int))))
    | _, _, _ => none

/-- A bound of a slice expression: the number, and whether it fits. -/
def evInt (st : St) (ops : List Oper) (L : List (Nat × Bool)) (x : Operand) : Option Int :=
  opt (ev st ops L x) fun s => match s with | .val (.int _) d => some d.toInt | _ => none
def cutL {α : Type} (s : List α) (lo hi : Option Int) : List α :=
  match lo, hi with
  | none, none => s
  | none, some h => s.take h.toNat
  | some l, none => s.drop l.toNat
  | some l, some h => (s.take h.toNat).drop l.toNat
def cutOk (n : Nat) (lo hi : Option Int) : Bool :=
  match lo, hi with
  | none, none => true
  | none, some h => decide (0 ≤ h) && decide (h ≤ (n : Int))
  | some l, none => decide (0 ≤ l) && decide (l ≤ (n : Int))
  | some l, some h => decide (0 ≤ l) && (decide (l ≤ h) && decide (h ≤ (n : Int)))
def optInt (st : St) (ops : List Oper) (L : List (Nat × Bool)) : Option Operand → Option (Option Int)
  | none => some none
  | some x => opt (evInt st ops L x) fun i => some (some i)
def sliceO (E : Env) (draw : Bool) (st : St) (ops : List Oper) (L : List (Nat × Bool)) (t : TypeId) (x : Operand) (lo hi mx : Option Operand) : Option Out :=
  match mx with
  | some _ => none
  | none => opt (lk t E.tt) fun ti => opt (ev st ops L x) fun s => opt (optInt st ops L lo) fun l => opt (optInt st ops L hi) fun h => match ti.kt, s with
    | .str, .val .str d => some (.sv (cutOk d.toStr.length l h) (.val .str (.str (cutL d.toStr l h))))
    | .slice e, .val (.slice e') d => cond (Nat.beq e e') (some (.sv (cutOk d.toList.length l h) (.val (.slice e) (.list (cutL d.toList l h))))) none
    | .slice e, .own id => cond draw none (match l, st.objs id with
      | none, some (.arr e' es) => cond (Nat.beq e e') (some (.ob (cutOk es.length none h) id (.arr e (cutL es none h)) true (.own id))) none
      | _, _ => none)
    | _, _ => none

def bytesD (s : List UInt8) : List D := s.map fun b => .int (b.toNat : Int)
def dBytes (xs : List D) : List UInt8 := xs.map fun d => UInt8.ofNat d.toInt.toNat
def convertO (E : Env) (st : St) (ops : List Oper) (L : List (Nat × Bool)) (dst : Option Nat) (src t : TypeId) (x : Operand) : Option Out :=
  opt (lk src E.tt) fun si => opt (lk t E.tt) fun ti => opt (ev st ops L x) fun s => match si.kt, ti.kt, s with
    | .int _, .int k, .val (.int _) d => some (.sv true (.val (.int k) (.int (k.wrap d.toInt))))
    | .str, .str, .val .str d => some (.sv true (.val .str d))
    | .slice e, .str, .val (.slice e') d => cond (Nat.beq e e') (opt (lk e E.tt) fun ei => cond (KT.eq ei.kt (.int .u8)) (some (.sv true (.val .str (.str (dBytes d.toList))))) none) none
    | .slice e, .str, .own id => match st.objs id with
      | some (.arr e' es) => cond (Nat.beq e e') (opt (lk e E.tt) fun ei => cond (KT.eq ei.kt (.int .u8)) (some (.sv true (.val .str (.str (dBytes es))))) none) none
      | _ => none
    | .slice e, .str, .nil => opt (lk e E.tt) fun ei => cond (KT.eq ei.kt (.int .u8)) (some (.sv true (.val .str (.str [])))) none
    | .str, .slice e, .val .str d => opt (lk e E.tt) fun ei => cond (KT.eq ei.kt (.int .u8)) (withObj st dst (.arr e (bytesD d.toStr)) (fun id => .own id) true) none
    | _, _, _ => none
def makeSliceO (E : Env) (st : St) (ops : List Oper) (L : List (Nat × Bool)) (dst : Option Nat) (t : TypeId) (len cap : Operand) : Option Out :=
  opt (lk t E.tt) fun ti => opt (evInt st ops L len) fun n => opt (evInt st ops L cap) fun m => match ti.kt with
    | .slice e => opt (lk e E.tt) fun ei => match ei.kt with
      | .agg _ => none
      | .ptr => none
      | k => cond (Nat.ble ei.bytes 2048) (withObj st dst (.arr e (List.replicate n.toNat (zeroD k))) (fun id => .own id) (decide (0 ≤ n) && (decide (n ≤ m) && decide (m ≤ (lim : Int))))) none
    | _ => none

/-- Built-in functions. -/
def lenO (E : Env) (st : St) (ops : List Oper) (L : List (Nat × Bool)) (t : TypeId) (x : Operand) : Option Out :=
  opt (lk t E.tt) fun ti => opt (ev st ops L x) fun s => match ti.kt, s with
    | .str, .val .str d => some (.sv true (.val (.int .i64) (.int (d.toStr.length : Int))))
    | .slice _, .val (.slice _) d => some (.sv true (.val (.int .i64) (.int (d.toList.length : Int))))
    | .slice _, .nil => some (.sv true (.val (.int .i64) (.int 0)))
    | .slice _, .own id => match st.objs id with
      | some (.arr _ es) => some (.sv true (.val (.int .i64) (.int (es.length : Int))))
      | _ => none
    | _, _ => none
/-- What is appended: the data. -/
def srcD (E : Env) (st : St) (e : TypeId) (xk : KT) : SV → Option (List D)
  | .val (.slice e') d => match xk with | .slice e2 => cond (Nat.beq e e' && Nat.beq e e2) (some d.toList) none | _ => none
  | .val .str d => match xk with | .str => opt (lk e E.tt) fun ei => cond (KT.eq ei.kt (.int .u8)) (some (bytesD d.toStr)) none | _ => none
  | .nil => match xk with | .slice _ => some [] | _ => none
  | .own id => match xk, st.objs id with
    | .slice e2, some (.arr e' es) => cond (Nat.beq e e' && Nat.beq e e2) (some es) none
    | _, _ => none
  | _ => none
def fitL (n m : Nat) : Bool := decide (n + m ≤ lim)
def appendO (E : Env) (st : St) (ops : List Oper) (L : List (Nat × Bool)) (dst : Option Nat) (t xt : TypeId) (s x : Operand) : Option Out :=
  opt (lk t E.tt) fun ti => opt (lk xt E.tt) fun xi => opt (ev st ops L s) fun sv => opt (ev st ops L x) fun xv => match ti.kt with
    | .slice e => opt (lk e E.tt) fun ei => cond (Nat.ble ei.bytes 2048 && (Nat.ble 1 ei.bytes && Nat.ble 1 ei.cells.length)) (opt (srcD E st e xi.kt xv) fun ds => match sv with
      | .nil => withObj st dst (.arr e ds) (fun id => .own id) (fitL 0 ds.length)
      | .own id => match xv with
        | .own id' => cond (Nat.beq id id') none (match st.objs id with
          | some (.arr e' es) => cond (Nat.beq e e') (some (.ob (fitL es.length ds.length) id (.arr e (es ++ ds)) true (.own id))) none
          | _ => none)
        | _ => match st.objs id with
          | some (.arr e' es) => cond (Nat.beq e e') (some (.ob (fitL es.length ds.length) id (.arr e (es ++ ds)) true (.own id))) none
          | _ => none
      | _ => none) none
    | _ => none
def mmInt (isMax : Bool) (a b : Int) : Int := cond isMax (cond (decide (a < b)) b a) (cond (decide (b < a)) b a)
def mmFold (st : St) (ops : List Oper) (L : List (Nat × Bool)) (isMax : Bool) (k : IntKind) : List Operand → Int → Option Int
  | [], a => some a
  | x :: r, a => opt (ev st ops L x) fun s => match s with
    | .val (.int k') d => cond (ikEq k k') (mmFold st ops L isMax k r (mmInt isMax a d.toInt)) none
    | _ => none
def mmO (st : St) (ops : List Oper) (L : List (Nat × Bool)) (isMax : Bool) : List Operand → Option Out
  | [] => none
  | x :: r => opt (ev st ops L x) fun s => match s with
    | .val (.int k) d => opt (mmFold st ops L isMax k r d.toInt) fun n => some (.sv true (.val (.int k) (.int n)))
    | _ => none

/-- Calls. -/
def flatK : KT → Bool
  | .bool => true
  | .int _ => true
  | .str => true
  | _ => false
def flatR : List RM → Bool
  | [] => true
  | .val k :: r => flatK k && flatR r
  | _ => false
/-- An argument; a row of the caller's own may be lent where nothing that is handed back can name it. -/
def argD (st : St) (b : Bool) (k : KT) (s : SV) : Option D :=
  match s with
  | .own i => cond b (match k, st.objs i with
    | .slice e, some (.arr e' es) => cond (Nat.beq e e') (some (.list es)) none
    | _, _ => none) none
  | _ => svD k s
def argsO (st : St) (ops : List Oper) (L : List (Nat × Bool)) (b : Bool) : List PM → List Operand → Option (List D)
  | [], [] => some []
  | .val k :: ps, x :: xs => opt (ev st ops L x) fun s => opt (argD st b k s) fun d => opt (argsO st ops L b ps xs) fun r => some (d :: r)
  | _, _ => none
def allValP : List PM → Bool
  | [] => true
  | .val _ :: r => allValP r
  | _ => false
def rowId (id c : Nat) : Nat := 600000 + 64 * id + c
/-- What is handed over of a box: its cells' data; the rows that go with it (the callee's number, the caller's). -/
def cellArgs (E : Env) (st : St) (id p : Nat) : Nat → List CK → List SV → Option (List D × List (Nat × Nat))
  | _, [], [] => some ([], [])
  | c, .val k :: cs, s :: ss => opt (svD1 k s) fun d => opt (cellArgs E st id p (c + 1) cs ss) fun x => some (d :: x.1, x.2)
  | c, .row e :: cs, s :: ss => match s with
    | .nil => match lk e E.tt with
      | some ei => cond (Nat.ble 1 ei.cells.length) (opt (cellArgs E st id p (c + 1) cs ss) fun x => some (.list [] :: x.1, x.2)) none
      | none => none
    | .own i => match st.objs i with
      | some (.arr e' es) => cond (Nat.beq e e') (opt (cellArgs E st id p (c + 1) cs ss) fun x => some (.list es :: x.1, (rowId p c, i) :: x.2)) none
      | _ => none
    | _ => none
  | c, .self :: cs, s :: ss => match s with
    | .selfn i => cond (Nat.beq i id) (opt (cellArgs E st id p (c + 1) cs ss) fun x => some (.no :: x.1, x.2)) none
    | _ => none
  | _, _, _ => none
def hargsO (E : Env) (st : St) (ops : List Oper) (L : List (Nat × Bool)) : Nat → List PM → List Operand → Option (List D × List (Nat × Nat) × List (Nat × TypeId × List CK))
  | _, [], [] => some ([], [], [])
  | p, .val k :: ps, x :: xs => opt (ev st ops L x) fun s => opt (svD k s) fun d => opt (hargsO E st ops L (p + 1) ps xs) fun r => some (d :: r.1, r.2.1, r.2.2)
  | p, .own e :: ps, x :: xs => opt (ev st ops L x) fun s => match s with
    | .nil => match lk e E.tt with
      | some ei => cond (Nat.ble 1 ei.cells.length && Nat.ble p 1000) (opt (hargsO E st ops L (p + 1) ps xs) fun r => some (.list [] :: r.1, r.2.1, r.2.2)) none
      | none => none
    | .own i => match st.objs i with
      | some (.arr e' es) => cond (Nat.beq e e' && Nat.ble p 1000) (opt (hargsO E st ops L (p + 1) ps xs) fun r => some (.list es :: r.1, (p, i) :: r.2.1, r.2.2)) none
      | _ => none
    | _ => none
  | p, .box t cs :: ps, x :: xs => opt (ev st ops L x) fun s => match s with
    | .bptr i u off k => cond (Nat.beq off 0 && (Nat.beq u t && (Nat.ble cs.length 64 && (Nat.ble p 1000 && KT.eq k (.agg t))))) (match st.objs i with
      | some (.box u' c) => cond (Nat.beq u' t) (opt (lk t E.tt) fun ti => opt (cellArgs E st i p 0 cs (c.toCells ti)) fun y => opt (hargsO E st ops L (p + 1) ps xs) fun r => some (.agg y.1 :: r.1, y.2 ++ r.2.1, (i, t, cs) :: r.2.2)) none
      | _ => none) none
    | _ => none
  | _, _, _ => none
def sndL : List (Nat × Nat) → List Nat
  | [] => []
  | (_, i) :: r => i :: sndL r
/-- A box that was handed over, and its rows: what it holds. -/
def mkCells (id : Nat) : List CK → Nat → D → List SV
  | [], _, _ => []
  | .val k :: r, c, d => .val k (canon k (d.cell c)) :: mkCells id r (c + 1) d
  | .row _ :: r, c, d => .own (rowId id c) :: mkCells id r (c + 1) d
  | .self :: r, c, d => .selfn id :: mkCells id r (c + 1) d
def rowObjs (id : Nat) : List CK → Nat → D → List (Nat × Obj)
  | [], _, _ => []
  | .row e :: r, c, d => (rowId id c, .arr e (d.cell c).toList) :: rowObjs id r (c + 1) d
  | _ :: r, c, d => rowObjs id r (c + 1) d
def boxObjs : List (Nat × TypeId × List CK) → Nat → List D → List (Nat × Obj)
  | [], _, _ => []
  | (i, t, cs) :: r, n, ds => (i, .box t (.cells (mkCells i cs 0 (ds.getD n .no)))) :: (rowObjs i cs 0 (ds.getD n .no) ++ boxObjs r (n + 1) ds)
def resSV : List RM → Nat → Nat → List D → Option (List SV × List (Nat × Obj))
  | [], _, _, _ => some ([], [])
  | .val k :: rs, base, j, ds => opt (resSV rs base (j + 1) ds) fun r => some (.val k (canon k (ds.getD j .no)) :: r.1, r.2)
  | .own e :: rs, base, j, ds => opt (resSV rs base (j + 1) ds) fun r => some (.own (base + j) :: r.1, (base + j, .arr e (ds.getD j .no).toList) :: r.2)
  | .any :: rs, base, j, ds => opt (resSV rs base (j + 1) ds) fun r => some (.gone :: r.1, r.2)
def putAll (f : Nat → Option Obj) : List (Nat × Obj) → Nat → Option Obj
  | [] => f
  | (id, o) :: r => put (putAll f r) id (some o)
def freshAll (st : St) : List (Nat × Obj) → Bool
  | [] => true
  | (id, _) :: r => cond (fresh st id) (freshAll st r) false
def allValR : List RM → Bool
  | [] => true
  | .val _ :: r => allValR r
  | .any :: r => allValR r
  | _ => false
/-- A function with what it has caught. -/
def makeFuncO (draw : Bool) (st : St) (ops : List Oper) (L : List (Nat × Bool)) (f : Nat) (fs cs : List Operand) : Option Out :=
  cond draw none (match fs, cs with
    | [], [x] => opt (ev st ops L x) fun s => match s with
      | .bptr id _ off _ => cond (Nat.beq off 0) (some (.sv true (.clo f id))) none
      | _ => none
    | _, _ => none)
/-- What a caught box holds. -/
def refD (E : Env) (st : St) (id : Nat) (k : KT) : Option D := match st.objs id with
  | some (.box u (.whole d)) => opt (lk u E.tt) fun ui => cond (KT.eq ui.kt k) (some d) none
  | some (.box u (.cells [s])) => opt (lk u E.tt) fun ui => cond (KT.eq ui.kt k && singleK k) (svD k s) none
  | _ => none
def argsC (E : Env) (st : St) (ops : List Oper) (L : List (Nat × Bool)) (id : Nat) : List PM → List Operand → Option (List D)
  | [.ref k], [] => opt (refD E st id k) fun d => some [d]
  | .val k :: ps, x :: xs => opt (ev st ops L x) fun s => opt (argD st true k s) fun d => opt (argsC E st ops L id ps xs) fun r => some (d :: r)
  | _, _ => none
/-- A call of a function that has caught a box. -/
def cloO (E : Env) (draw : Bool) (st : St) (ops : List Oper) (L : List (Nat × Bool)) (t : Nat) (xs : List Operand) : Option Out :=
  cond draw none (opt (ev st ops L (.tmp t)) fun s => match s with
    | .clo f id => opt (lk f E.sigs) fun sg => cond (flatR sg.results) (opt (argsC E st ops L id sg.params xs) fun ds => some (.call f ds sg.results)) none
    | _ => none)
def callO (E : Env) (draw : Bool) (st : St) (ops : List Oper) (L : List (Nat × Bool)) (dst : Option Nat) (c : Call) : Option Out :=
  match c.callee with
  | .value (.func f) => opt (lk f E.sigs) fun sg => cond (allValP sg.params)
      (opt (argsO st ops L (flatR sg.results) sg.params c.args.toList) fun ds => some (.call f ds sg.results))
      (cond draw none (opt (hargsO E st ops L 0 sg.params c.args.toList) fun x => some (.hcall f x.1 sg (sndL x.2.1) x.2.2)))
  | .builtin .len => match c.args.toList, c.argTypes.toList with
    | [x], [t] => lenO E st ops L t x
    | _, _ => none
  | .builtin .append => match c.args.toList, c.argTypes.toList with
    | [s, x], [t, xt] => appendO E st ops L dst t xt s x
    | _, _ => none
  | .builtin .max => mmO st ops L true c.args.toList
  | .builtin .min => mmO st ops L false c.args.toList
  | .value (.tmp t) => cloO E draw st ops L t c.args.toList
  | _ => none

def opO (E : Env) (draw : Bool) (st : St) (ops : List Oper) (L : List (Nat × Bool)) (o : Oper) : Option Out :=
  match o.op with
  | .move x => moveO E st ops L x o.type
  | .assign x => moveO E st ops L x o.type
  | .pick c a b => pickO st ops L c a b
  | .alloc t => allocO E st o.dst t
  | .box t x => boxO E st ops L o.dst t x
  | .build t ps => buildO E st ops L t ps.toList
  | .buildSlice t n ps => buildSliceO E st ops L o.dst t n ps.toList
  | .load t x => loadO E st ops L t x
  | .store t a x => storeO E st ops L t a x
  | .binOp op t x y _ => opt (ev st ops L x) fun sx => opt (ev st ops L y) fun sy => binO E.tt op t sx sy
  | .unOp op _ x => opt (ev st ops L x) fun s => unO op s
  | .convert s t x => convertO E st ops L o.dst s t x
  | .makeSlice t l c => makeSliceO E st ops L o.dst t l c
  | .slice t x lo hi mx => sliceO E draw st ops L t x lo hi mx
  | .fieldAddr t x f => fieldAddrO E st ops L t x f
  | .indexAddr t x i => indexAddrO E st ops L t x i
  | .index t x i => indexO E st ops L t x i
  | .nilCheck x => opt (ev st ops L x) fun s => match s with
    | .eptr .. | .bptr .. | .optr .. => some (.sv true s)
    | _ => none
  | .extract x i => opt (ev st ops L x) fun s => match s with
    | .tup l => match l[i]? with
      | some (.tup _) => none
      | some (.sag _ _ _) => none
      | some v => some (.sv true v)
      | none => none
    | _ => none
  | .call c => callO E draw st ops L o.dst c
  | .makeFunc (.func f) fs cs => makeFuncO draw st ops L f fs.toList cs.toList
  | .field t x f => fieldO E st ops L t x f
  | _ => none

/-- Do the guards hold? -/
def guardB (st : St) : List (Nat × Bool) → Bool
  | [] => true
  | [(t, w)] => match st.slots t with | some (.val .bool d) => boolEqB d.toBool w | _ => false
  | (t, w) :: r => (match st.slots t with | some (.val .bool d) => boolEqB d.toBool w | _ => false) && guardB st r
def guardsThere (st : St) : List (Nat × Bool) → Bool
  | [] => true
  | (t, _) :: r => match st.slots t with | some (.val .bool _) => guardsThere st r | _ => false

abbrev R := Option (List D)

/-- What an operation does to a state: a slot's value, perhaps an object. -/
structure Upd where
  v : SV
  ob : Option (Nat × Obj × Bool)
  obs : List (Nat × Obj)

def resUpd (st : St) (rs : List RM) (dst : Option Nat) (ds : List D) : Option Upd :=
  match dst with
  | none => match rs with
    | [] => some ⟨.gone, none, []⟩
    | _ => opt (resSV rs 0 0 ds) fun _ => cond (allValR rs) (some ⟨.gone, none, []⟩) none
  | some t => match rs with
    | [r] => opt (resSV [r] t 0 ds) fun x => cond (freshAll st x.2) (match x.1 with | [s] => some ⟨s, none, x.2⟩ | _ => none) none
    | _ => opt (resSV rs (500000 + 16 * t) 0 ds) fun x => cond (freshAll st x.2) (some ⟨.tup x.1, none, x.2⟩) none

def applyU (st : St) (dst : Option Nat) (u : Upd) : Option St :=
  putSlot (match u.ob with
    | some (id, o, scr) => obSt st id o scr
    | none => match u.obs with
      | [] => st
      | l => { st with objs := putAll st.objs l }) dst u.v

/-- Rows that are handed over: they are forgotten. -/
def St.dropRow (st : St) (id : Nat) : St := { st with slots := fun t => omap (scrubS id) (st.slots t), objs := put (fun i => omap (scrubObj id) (st.objs i)) id none }
def dropRows : List Nat → St → St
  | [], st => st
  | id :: r, st => dropRows r (st.dropRow id)
def boxIds : List (Nat × TypeId × List CK) → List Nat
  | [] => []
  | (i, _, _) :: r => i :: boxIds r
def keysN {α : Type} : List (Nat × α) → List Nat
  | [] => []
  | (t, _) :: r => t :: keysN r
def nodupL : List Nat → Bool | [] => true | x :: r => cond (memN x r) false (nodupL r)
def freshOr (st : St) (l : List Nat) : List (Nat × Obj) → Bool
  | [] => true
  | (id, _) :: r => cond (memN id l || fresh st id) (freshOr st l r) false
def oneV : List SV → SV | [s] => s | l => .tup l
/-- Behind a call to which boxes and rows were handed over. -/
def hUpd0 (st : St) (sg : Sig) (dst : Option Nat) (rows : List Nat) (boxes : List (Nat × TypeId × List CK)) (r : List D) : Option St :=
  opt (resSV sg.results (match dst with | none => 0 | some t => match sg.results with | [_] => t | _ => 500000 + 16 * t) 0 r) fun x =>
    cond (nodupL (rows ++ boxIds boxes) && (nodupL (keysN (x.2 ++ boxObjs boxes sg.results.length r)) && (freshOr (dropRows rows st) (boxIds boxes) (x.2 ++ boxObjs boxes sg.results.length r) && (allValR sg.results || dst.isSome))))
      (putSlot { dropRows rows st with objs := putAll (dropRows rows st).objs (x.2 ++ boxObjs boxes sg.results.length r) } dst (oneV x.1)) none

/-- .. where what was handed over may be gone. -/
def hUpd (st : St) (sg : Sig) (dst : Option Nat) (rows : List Nat) (boxes : List (Nat × TypeId × List CK)) (r : List D) : Option St :=
  cond sg.gone (hUpd0 st sg dst (rows ++ boxIds boxes) [] r) (hUpd0 st sg dst rows boxes r)

/-- Operation i of a region. -/
def opK {α : Type} (E : Env) (callk : Nat → List D → R) (ops : List Oper) (draw : Bool) (i : Nat) (st : St) (K : St → Option α) : Option α :=
  match nthOp ops i with
  | none => none
  | some o => match chainOf ops i with
    | [] => match opO E draw st ops [] o with
      | some (.sv c v) => cond c (opt (applyU st o.dst ⟨v, none, []⟩) K) none
      | some (.ob c id ob scr v) => cond c (opt (applyU st o.dst ⟨v, some (id, ob, scr), []⟩) K) none
      | some (.call f ds rs) => cond (!draw || allValR rs) (opt (callk f ds) fun r => opt (resUpd st rs o.dst r) fun u => opt (applyU st o.dst u) K) none
      | some (.hcall f ds sg rows boxes) => cond draw none (opt (callk f ds) fun r => opt (hUpd st sg o.dst rows boxes r) K)
      | none => none
    | p :: L => cond (guardsThere st (p :: L)) (match opO E draw st ops (p :: L) o with
      | some (.sv c v) => cond (c || !guardB st (p :: L)) (opt (applyU st o.dst ⟨v, none, []⟩) K) none
      | some (.call f ds rs) => cond (allValR rs) (opt (cond (guardB st (p :: L)) (callk f ds) (some [])) fun r => opt (resUpd st rs o.dst r) fun u => opt (applyU st o.dst u) K) none
      | _ => none) none

def opsK {α : Type} (E : Env) (callk : Nat → List D → R) (ops : List Oper) (draw : Bool) : List Nat → St → (St → Option α) → Option α
  | [], st, K => K st
  | i :: r, st, K => opK E callk ops draw i st fun st' => opsK E callk ops draw r st' K
def upFrom : Nat → Nat → List Nat
  | _, 0 => []
  | i, n + 1 => i :: upFrom (i + 1) n

/-- Behind a region: what stood under guards is forgotten. -/
def dropGuarded : List Oper → (Nat → Option SV) → Nat → Option SV
  | [], f => f
  | o :: r, f => match o.guard, o.dst with
    | some _, some t => put (dropGuarded r f) t none
    | _, _ => dropGuarded r f
def endRegion (ops : List Oper) (st : St) : St := { st with slots := dropGuarded ops st.slots }

/-- What is done ahead of a region. -/
def frzAll : List Nat → St → Option St
  | [], st => some st
  | id :: r, st => opt (st.freeze id) fun st' => frzAll r st'
/-- A slot's row becomes plain data. -/
def ownsL : List SV → List Nat
  | [] => []
  | .own i :: r => i :: ownsL r
  | _ :: r => ownsL r
def ownsIn : SV → List Nat
  | .own i => [i]
  | .sag _ _ l => ownsL l
  | _ => []
def frzSlots : List Nat → St → Option St
  | [], st => some st
  | t :: r, st => match st.slots t with
    | some s => opt (frzAll (ownsIn s) st) fun st' => frzSlots r st'
    | none => frzSlots r st
def datSlots : List (Nat × NA) → List Nat
  | [] => []
  | (t, .dat _) :: r => t :: datSlots r
  | _ :: r => datSlots r
def datsOf : Option (List (Nat × NA)) → List Nat
  | some ks => datSlots ks
  | none => []
def keepSlots (tt : TT) (st : St) : List (Nat × NA) → Option (List (Nat × SV) × List (Nat × Obj))
  | [] => some ([], [])
  | (t, .asis) :: r => opt (st.slots t) fun s => opt (keepSlots tt st r) fun x => some ((t, s) :: x.1, x.2)
  | (t, .dat e) :: r => opt (st.slots t) fun s => opt (keepSlots tt st r) fun x => match s with
    | .nil => some ((t, .val (.slice e) (.list [])) :: x.1, x.2)
    | .val k d => some ((t, .val k d) :: x.1, x.2)
    | _ => none
  | (t, .own e) :: r => opt (st.slots t) fun s => opt (keepSlots tt st r) fun x => match s with
    | .nil => match lk e tt with
      | some ei => cond (Nat.ble 1 ei.cells.length) (some ((t, .own t) :: x.1, (t, .arr e []) :: x.2)) none
      | none => none
    | .own id => match st.objs id with
      | some (.arr e' es) => cond (Nat.beq e e') (some ((t, .own t) :: x.1, (t, .arr e' es) :: x.2)) none
      | _ => none
    | _ => none
def keepObjs (st : St) : List Nat → Option (List (Nat × Obj))
  | [] => some []
  | id :: r => opt (st.objs id) fun o => opt (keepObjs st r) fun x => some ((id, o) :: x)
end Go.Proofs.YtjofkhdnidjleabDoor.DS
