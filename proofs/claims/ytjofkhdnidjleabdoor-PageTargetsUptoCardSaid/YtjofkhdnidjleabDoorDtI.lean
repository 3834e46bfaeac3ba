/- What follows a part of a function's code: for the equations of its loops. -/
import Derived.Test.YtjofkhdnidjleabDoorDtH
set_option linter.unusedVariables false
set_option linter.unusedSimpArgs false
namespace Go.Proofs.YtjofkhdnidjleabDoor.DS

section
variable (E : Env) (callk : Nat → List D → R) (an : List (Nat × Norm)) (n : Nat)
def stepK (b : Code) (K : Ex → St → R) : Ex → St → R := fun e st' => match e with
  | .normal => opt (normAt E.tt an b st') fun st'' => execK E callk an n b st'' K
  | .exit i => K (.exit i) st'
  | .ret => K .ret st'
def blkK (id : Nat) (K : Ex → St → R) : Ex → St → R := fun e st' => match e with
  | .normal => K .normal st'
  | .exit i => cond (Nat.beq i id) (K .normal st') (K (.exit i) st')
  | .ret => K .ret st'
def lopK (c : Code) (m : Nat) (K : Ex → St → R) : Ex → St → R := fun e st' => match e with
  | .normal => opt (normAt E.tt an c st') fun st'' => iterK (normAt E.tt an c) (execK E callk an n c) m st'' K
  | .exit i => K (.exit i) st'
  | .ret => K .ret st'
/-- The continuation of the part at a path; fs: the rounds left to the loops that the path goes into. -/
def conAt : Code → List Nat → List Nat → (Ex → St → R) → Ex → St → R
  | _, [], _, K => K
  | .seq a b, 0 :: p, fs, K => conAt a p fs (stepK E callk an n b K)
  | .seq _ b, _ :: p, fs, K => conAt b p fs K
  | .cond _ a _, 0 :: p, fs, K => conAt a p fs K
  | .cond _ _ b, _ :: p, fs, K => conAt b p fs K
  | .block id c, _ :: p, fs, K => conAt c p fs (blkK id K)
  | .loop c, _ :: p, m :: fs, K => conAt c p fs (lopK E callk an n c m K)
  | _, _, _, K => K
def subAt : Code → List Nat → Code
  | c, [] => c
  | .seq a _, 0 :: p => subAt a p
  | .seq _ b, _ :: p => subAt b p
  | .cond _ a _, 0 :: p => subAt a p
  | .cond _ _ b, _ :: p => subAt b p
  | .block _ c, _ :: p => subAt c p
  | .loop c, _ :: p => subAt c p
  | c, _ => c
/-- One round of the loop at a path, and all that follows: m more rounds. -/
def loopAt (c : Code) (p fs : List Nat) (K : Ex → St → R) (m : Nat) (st : St) : R := match subAt c p with
  | .loop b => iterK (normAt E.tt an b) (execK E callk an n b) m st (conAt E callk an n c p fs K)
  | _ => none
end
/-- The round of a function's loop. -/
def loopOf (E : Env) (f : Nat) (fn : Func) (k : Nat) (p fs : List Nat) (m : Nat) (st : St) : R := match fn.body, lk f E.sigs with
  | some c, some sg => loopAt E (run E k) (annOf E f) k c p fs (finK E fn sg) m st
  | _, _ => none
/-- A state, written out. -/
def mkSt (n : Nat) (sl : List (Nat × SV)) (os : List (Nat × Obj)) : St := ⟨n, fun t => lk t sl, fun i => lk i os⟩

/-- The loops of a code and the paths to them. -/
def pathsOf : Code → List Nat → List (List Nat × Option Nat)
  | .seq a b, p => pathsOf a (p ++ [0]) ++ pathsOf b (p ++ [1])
  | .cond _ a b, p => pathsOf a (p ++ [0]) ++ pathsOf b (p ++ [1])
  | .block _ c, p => pathsOf c (p ++ [0])
  | .loop c, p => (p, lead c) :: pathsOf c (p ++ [0])
  | _, _ => []

end Go.Proofs.YtjofkhdnidjleabDoor.DS
