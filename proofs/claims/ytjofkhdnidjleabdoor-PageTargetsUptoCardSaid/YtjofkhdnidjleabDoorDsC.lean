/- The data-level semantics: code, runs. -/
import Derived.Test.YtjofkhdnidjleabDoorDsB
set_option linter.unusedVariables false
set_option linter.unusedSimpArgs false
namespace Go.Proofs.YtjofkhdnidjleabDoor.DS

def allIn (l m : List Nat) : Bool := match l with | [] => true | x :: r => cond (memN x m) (allIn r m) false
def nodupN : List Nat → Bool | [] => true | x :: r => cond (memN x r) false (nodupN r)
def keysOf {α : Type} : List (Nat × α) → List Nat | [] => [] | (t, _) :: r => t :: keysOf r
def cellRefs : List SV → List Nat | [] => [] | s :: r => refsOf s ++ cellRefs r
def objRefs : List (Nat × Obj) → List Nat
  | [] => []
  | (_, .box _ (.cells l)) :: r => cellRefs l ++ objRefs r
  | _ :: r => objRefs r
/-- Where a kept slot's row came from. -/
def keepIds (st : St) : List (Nat × NA) → List Nat
  | [] => []
  | (t, .own _) :: r => match st.slots t with | some (.own id) => id :: keepIds st r | _ => keepIds st r
  | _ :: r => keepIds st r
def asisRefs (st : St) : List (Nat × NA) → List Nat
  | [] => []
  | (t, .asis) :: r => (match st.slots t with | some s => refsOf s | none => []) ++ asisRefs st r
  | _ :: r => asisRefs st r
def dedupA (acc : List Nat) : List Nat → List Nat
  | [] => []
  | x :: r => cond (memN x acc) (dedupA acc r) (x :: dedupA (x :: acc) r)
def dedupN (l : List Nat) : List Nat := dedupA [] l
def refsIn (st : St) : List Nat → List Nat
  | [] => []
  | i :: r => (match st.objs i with | some (.box _ (.cells l)) => cellRefs l | _ => []) ++ refsIn st r
/-- What is named by what is kept. -/
def closeR (st : St) : Nat → List Nat → List Nat
  | 0, l => l
  | n + 1, l => closeR st n (dedupN (l ++ refsIn st l))
def idsOf (nm : Norm) (st : St) (ks : List (Nat × NA)) : List Nat := closeR st 2 (dedupN (nm.objs ++ asisRefs st ks))
def frzBoxes : List Nat → St → Option St
  | [], st => some st
  | t :: r, st => match st.slots t with
    | some (.bptr id _ _ _) => match st.objs id with
      | some (.box _ (.cells l)) => opt (frzAll (ownsL l) st) fun st' => frzBoxes r st'
      | _ => frzBoxes r st
    | _ => frzBoxes r st
/-- The row in a cell of a box gets its own name; there is one where none was. -/
def rowCell1 (tt : TT) (st : St) (id c : Nat) (e : TypeId) : Option St := match st.objs id with
    | some (.box t (.cells l)) => match l[c]? with
      | some .nil => match lk e tt with
        | some ei => cond (Nat.ble 1 ei.cells.length && fresh st (cellRow id c)) (some { st with objs := put (put st.objs id (some (.box t (.cells (l.set c (.own (cellRow id c))))))) (cellRow id c) (some (.arr e [])) }) none
        | none => none
      | some (.own i) => cond (Nat.beq i (cellRow id c)) (some st) (match st.objs i with
        | some (.arr e' es) => cond (fresh st (cellRow id c)) (some (st.ren i (cellRow id c) e' es)) none
        | _ => none)
      | _ => none
    | _ => some st
def rowCell (tt : TT) (st : St) (x : Nat × Nat × TypeId) : Option St := rowCell1 tt st x.1 x.2.1 x.2.2
def rowCells (tt : TT) : List (Nat × Nat × TypeId) → St → Option St
  | [], st => some st
  | x :: r, st => opt (rowCell tt st x) fun st' => rowCells tt r st'
def normSt (tt : TT) (nm : Norm) (st : St) : Option St :=
  opt (frzAll nm.freeze st) fun st => opt (frzSlots (nm.frz ++ datsOf nm.keep) st) fun st => opt (frzBoxes nm.frz st) fun st => opt (rowCells tt nm.rows st) fun st => match nm.keep with
    | none => some st
    | some ks => opt (keepSlots tt st ks) fun x => opt (keepObjs st (idsOf nm st ks)) fun os =>
      let objs := x.2 ++ os
      cond (nodupN (keysOf objs) && (nodupN (keepIds st ks ++ idsOf nm st ks) && (allIn (asisRefs st ks) (idsOf nm st ks) && allIn (objRefs os) (idsOf nm st ks))))
        (some { st with slots := fun t => lk t x.1, objs := fun i => lk i objs }) none

inductive Ex where
  | normal
  | exit (id : Nat)
  | ret

def lead : Code → Option Nat
  | .region id _ _ => some id
  | .seq a _ => lead a
  | .block _ c => lead c
  | _ => none
def normAt (tt : TT) (an : List (Nat × Norm)) (c : Code) (st : St) : Option St :=
  match lead c with
  | some id => match lk id an with
    | some nm => normSt tt nm st
    | none => some st
  | none => some st

/-! ### The order of a region that draws: which operations may change places -/
structure Eff where
  reads : Bool
  writes : Bool
  all : Bool
def opEff (o : Oper) : Eff :=
  match o.op with
  | .move _ | .assign _ | .pick .. | .build .. | .binOp .. | .unOp .. | .fieldAddr .. | .index .. | .nilCheck _ | .extract .. | .field .. => ⟨false, false, false⟩
  | .load .. | .indexAddr .. | .slice .. | .convert .. => ⟨true, false, false⟩
  | .store .. => ⟨false, true, false⟩
  | .alloc _ | .box .. | .buildSlice .. | .makeSlice .. => ⟨false, false, false⟩
  | .call c => match c.callee with
    | .builtin .len | .value _ => ⟨true, false, false⟩
    | .builtin .max | .builtin .min => ⟨false, false, false⟩
    | _ => ⟨true, true, true⟩
  | _ => ⟨true, true, true⟩
def opdUses : Operand → List Nat | .tmp t => [t] | _ => []
def opdsUses : List Operand → List Nat | [] => [] | x :: r => opdUses x ++ opdsUses r
def usesOf (ops : List Oper) (i : Nat) : List Nat := match nthOp ops i with
  | some o => opdsUses o.op.operands.toList ++ (chainOf ops i).map (·.1)
  | none => []

def anyEdges (o : Oper) : List Nat := (o.after.toList.filter (Region.binds .any)).map (·.on)
def ancBuild (done : List (List Nat)) : List Oper → List (List Nat)
  | [] => done
  | o :: r => ancBuild (done ++ [anyEdges o ++ (anyEdges o).flatMap fun e => done.getD e []]) r
def ancs (ops : List Oper) : List (List Nat) := ancBuild [] ops
/-- What an operation's operands name; what it writes. -/
def refsAt (st : St) : List Nat → List Nat
  | [] => []
  | t :: r => match st.slots t with
    | some s => refsOf s ++ refsAt st r
    | none => refsAt st r
def wrAt (st : St) (o : Oper) : List Nat := match o.op with
  | .store _ a _ => refsAt st (opdUses a)
  | _ => []
def disjL : List Nat → List Nat → Bool
  | [], _ => true
  | x :: r, m => cond (memN x m) false (disjL r m)
def wrOf (ops : List Oper) (i : Nat) (st : St) : List Nat := match nthOp ops i with | some o => wrAt st o | none => []
def pairOk (ops : List Oper) (i : Nat) (rs ws : List Nat) : List (Nat × List Nat × List Nat) → Bool
  | [] => true
  | (j, rj, wj) :: r => cond (disjL wj rs && disjL ws rj || (memN j ((ancs ops).getD i []) || memN i ((ancs ops).getD j []))) (pairOk ops i rs ws r) false
def opsD {α : Type} (E : Env) (callk : Nat → List D → R) (ops : List Oper) : List Nat → List (Nat × List Nat × List Nat) → St → (St → Option α) → Option α
  | [], _, st, K => K st
  | i :: r, log, st, K => cond (pairOk ops i (refsAt st (usesOf ops i)) (wrOf ops i st) log)
    (opK E callk ops true i st fun st' => opsD E callk ops r ((i, refsAt st (usesOf ops i), wrOf ops i st) :: log) st' K) none

def iterK (nrm : St → Option St) (body : St → (Ex → St → R) → R) : Nat → St → (Ex → St → R) → R
  | 0, _, _ => none
  | n + 1, st, K => body st fun e st' => match e with
    | .normal => opt (nrm st') fun st'' => iterK nrm body n st'' K
    | .exit i => K (.exit i) st'
    | .ret => K .ret st'

def execK (E : Env) (callk : Nat → List D → R) (an : List (Nat × Norm)) (n : Nat) : Code → St → (Ex → St → R) → R
  | .skip, st, K => K .normal st
  | .region _ ops draw, st, K => cond draw (opsD E callk ops.toList (upFrom 0 ops.size) [] st fun st' => K .normal (endRegion ops.toList st')) (opsK E callk ops.toList false (upFrom 0 ops.size) st fun st' => K .normal (endRegion ops.toList st'))
  | .seq a b, st, K => execK E callk an n a st fun e st' => match e with
    | .normal => opt (normAt E.tt an b st') fun st'' => execK E callk an n b st'' K
    | .exit i => K (.exit i) st'
    | .ret => K .ret st'
  | .cond c a b, st, K => match ev st [] [] c with
    | some (.val .bool d) => cond d.toBool (opt (normAt E.tt an a st) fun st' => execK E callk an n a st' K) (opt (normAt E.tt an b st) fun st' => execK E callk an n b st' K)
    | _ => none
  | .block id c, st, K => execK E callk an n c st fun e st' => match e with
    | .normal => K .normal st'
    | .exit i => cond (Nat.beq i id) (K .normal st') (K (.exit i) st')
    | .ret => K .ret st'
  | .loop c, st, K => opt (normAt E.tt an c st) fun st' => iterK (normAt E.tt an c) (execK E callk an n c) n st' K
  | .exit i, st, K => K (.exit i) st
  | .ret, st, K => K .ret st
  | _, _, _ => none

/-- How a function begins: its parameters. -/
def paramSt : List PM → Nat → List D → Option (List (Nat × SV) × List (Nat × Obj))
  | [], _, [] => some ([], [])
  | .val k :: ps, i, d :: ds => opt (paramSt ps (i + 1) ds) fun r => some ((i, .val k (canon k d)) :: r.1, r.2)
  | .ref k :: ps, i, d :: ds => opt (paramSt ps (i + 1) ds) fun r => some ((i, .eptr k (canon k d)) :: r.1, r.2)
  | .own e :: ps, i, d :: ds => opt (paramSt ps (i + 1) ds) fun r => some ((i, .own i) :: r.1, (i, .arr e d.toList) :: r.2)
  | .box t cs :: ps, i, d :: ds => opt (paramSt ps (i + 1) ds) fun r => some ((i, .bptr i t 0 (.agg t)) :: r.1, (i, .box t (.cells (mkCells i cs 0 d))) :: (rowObjs i cs 0 d ++ r.2))
  | _, _, _ => none
/-- A result that lies in a cell. -/
def cellVal (E : Env) (st : St) (t : Nat) (ty : TypeId) : Option SV := match loadO E st [] [] ty (.tmp t) with
  | some (.sv _ v) => some v
  | _ => none
def finRes (E : Env) (st : St) : List ResultVar → List RM → Option (List D × (Nat → Option Obj))
  | [], [] => some ([], st.objs)
  | .tmp t :: vs, .val k :: rs => opt (ev st [] [] (.tmp t)) fun s => opt (svD k s) fun d => opt (finRes E st vs rs) fun r => some (d :: r.1, r.2)
  | .tmp t :: vs, .own e :: rs => opt (ev st [] [] (.tmp t)) fun s => match s with
    | .nil => match lk e E.tt with
      | some ei => cond (Nat.ble 1 ei.cells.length) (opt (finRes E st vs rs) fun r => some (.list [] :: r.1, r.2)) none
      | none => none
    | .own id => match st.objs id with
      | some (.arr e' es) => cond (Nat.beq e e') (opt (finRes E { st with objs := put st.objs id none } vs rs) fun r => some (.list es :: r.1, r.2)) none
      | _ => none
    | _ => none
  | .tmp t :: vs, .any :: rs => opt (finRes E st vs rs) fun r => some (.no :: r.1, r.2)
  | .cell t ty :: vs, .val k :: rs => opt (cellVal E st t ty) fun s => opt (svD k s) fun d => opt (finRes E st vs rs) fun r => some (d :: r.1, r.2)
  | _, _ => none
/-- What a box holds at a function's end. -/
def finCells (E : Env) (id : Nat) : List CK → List SV → (Nat → Option Obj) → Option (List D × (Nat → Option Obj))
  | [], [], objs => some ([], objs)
  | .val k :: cs, s :: ss, objs => opt (svD1 k s) fun d => opt (finCells E id cs ss objs) fun x => some (d :: x.1, x.2)
  | .row e :: cs, s :: ss, objs => match s with
    | .nil => match lk e E.tt with
      | some ei => cond (Nat.ble 1 ei.cells.length) (opt (finCells E id cs ss objs) fun x => some (.list [] :: x.1, x.2)) none
      | none => none
    | .own i => match objs i with
      | some (.arr e' es) => cond (Nat.beq e e') (opt (finCells E id cs ss (put objs i none)) fun x => some (.list es :: x.1, x.2)) none
      | _ => none
    | _ => none
  | .self :: cs, s :: ss, objs => match s with
    | .selfn i => cond (Nat.beq i id) (opt (finCells E id cs ss objs) fun x => some (.no :: x.1, x.2)) none
    | _ => none
  | _, _, _ => none
def isPar (i : Nat) : Option SV → Bool
  | some (.bptr j _ off _) => Nat.beq j i && Nat.beq off 0
  | _ => false
def finBoxes (E : Env) (slots : Nat → Option SV) : List PM → Nat → (Nat → Option Obj) → Option (List D)
  | [], _, _ => some []
  | .box t cs :: ps, i, objs => match objs i with
    | some (.box u c) => cond (Nat.beq u t && isPar i (slots i)) (opt (lk t E.tt) fun ti => opt (finCells E i cs (c.toCells ti) (put objs i none)) fun x => opt (finBoxes E slots ps (i + 1) x.2) fun r => some (.agg x.1 :: r)) none
    | _ => none
  | _ :: ps, i, objs => finBoxes E slots ps (i + 1) objs
/-- Rows that are handed back as plain data. -/
def valSlots : List ResultVar → List RM → List Nat
  | .tmp t :: vs, .val (.slice _) :: rs => t :: valSlots vs rs
  | .tmp t :: vs, .val (.agg _) :: rs => t :: valSlots vs rs
  | _ :: vs, _ :: rs => valSlots vs rs
  | _, _ => []
/-- Rows in cells that are handed back as plain data. -/
def valCells : List ResultVar → List RM → List Nat
  | .cell t _ :: vs, .val _ :: rs => t :: valCells vs rs
  | _ :: vs, _ :: rs => valCells vs rs
  | _, _ => []
def finK (E : Env) (fn : Func) (sg : Sig) : Ex → St → R
  | .exit _, _ => none
  | _, st => cond sg.gone none (opt (frzSlots (valSlots fn.results.toList sg.results) st) fun st => opt (frzBoxes (valCells fn.results.toList sg.results) st) fun st => opt (finRes E st fn.results.toList sg.results) fun x => opt (finBoxes E st.slots sg.params 0 x.2) fun r => some (x.1 ++ r))

def annOf (E : Env) (f : Nat) : List (Nat × Norm) := match lk f E.ann with | some a => a | none => []
def run (E : Env) : Nat → Nat → List D → R
  | 0, _, _ => none
  | k + 1, f, args => match lk f E.ext with
    | some g => g args
    | none => opt (lk f E.fns) fun fn => opt (lk f E.sigs) fun sg => opt fn.body fun c => opt (paramSt sg.params 0 args) fun sl =>
      let st : St := { n := fn.ntmps, slots := fun t => lk t sl.1, objs := fun i => lk i sl.2 }
      opt (normAt E.tt (annOf E f) c st) fun st => execK E (run E k) (annOf E f) k c st (finK E fn sg)

end Go.Proofs.YtjofkhdnidjleabDoor.DS
