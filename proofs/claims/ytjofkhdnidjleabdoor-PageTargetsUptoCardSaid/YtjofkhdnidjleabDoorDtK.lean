/- Loops without counting: what a round is, and what follows. -/
import Derived.Test.YtjofkhdnidjleabDoorDtJ
set_option linter.unusedVariables false
set_option linter.unusedSimpArgs false
namespace Go.Proofs.YtjofkhdnidjleabDoor.DS

section
variable (lf : (St → Option St) → (St → (Ex → St → R) → R) → St → (Ex → St → R) → R) (cf : Code → St → R → R)
variable (E : Env) (callk : Nat → List D → R) (an : List (Nat × Norm))
def stepG (b : Code) (K : Ex → St → R) : Ex → St → R := fun e st' => match e with
  | .normal => opt (normAt E.tt an b st') fun st'' => cond (isCut an b) (cf b st'' (execG lf cf E callk an b st'' K)) (execG lf cf E callk an b st'' K)
  | .exit i => K (.exit i) st'
  | .ret => K .ret st'
def lopG (c : Code) (K : Ex → St → R) : Ex → St → R := fun e st' => match e with
  | .normal => opt (normAt E.tt an c st') fun st'' => lf (normAt E.tt an c) (execG lf cf E callk an c) st'' K
  | .exit i => K (.exit i) st'
  | .ret => K .ret st'
/-- The continuation of the part at a path. -/
def conG : Code → List Nat → (Ex → St → R) → Ex → St → R
  | _, [], K => K
  | .seq a b, 0 :: p, K => conG a p (stepG lf cf E callk an b K)
  | .seq _ b, _ :: p, K => conG b p K
  | .cond _ a _, 0 :: p, K => conG a p K
  | .cond _ _ b, _ :: p, K => conG b p K
  | .block id c, _ :: p, K => conG c p (blkK id K)
  | .loop c, _ :: p, K => conG c p (lopG lf cf E callk an c K)
  | _, _, K => K
/-- The loop at a path, and all that follows. -/
def loopG (c : Code) (p : List Nat) (K : Ex → St → R) (st : St) : R := match subAt c p with
  | .loop b => lf (normAt E.tt an b) (execG lf cf E callk an b) st (conG lf cf E callk an c p K)
  | _ => none
/-- One round of it, and all that follows. -/
def roundG (c : Code) (p : List Nat) (K : Ex → St → R) (st : St) : R := match subAt c p with
  | .loop b => execG lf cf E callk an b st (lopG lf cf E callk an b (conG lf cf E callk an c p K))
  | _ => none
/-- The part at a path, and all that follows. -/
def partG (c : Code) (p : List Nat) (K : Ex → St → R) (st : St) : R := execG lf cf E callk an (subAt c p) st (conG lf cf E callk an c p K)
end
section
variable (lf : (St → Option St) → (St → (Ex → St → R) → R) → St → (Ex → St → R) → R) (cf : Code → St → R → R)
variable (E : Env) (callk : Nat → List D → R) (f : Nat) (fn : Func) (p : List Nat) (st : St)
def ROUNDG : R := match fn.body, lk f E.sigs with
  | some c, some sg => roundG lf cf E callk (annOf E f) c p (finK E fn sg) st
  | _, _ => none
def PARTG : R := match fn.body, lk f E.sigs with
  | some c, some sg => partG lf cf E callk (annOf E f) c p (finK E fn sg) st
  | _, _ => none
end
noncomputable def LOOP (E : Env) (callk : Nat → List D → R) (f : Nat) (fn : Func) (p : List Nat) (st : St) : R := match fn.body, lk f E.sigs with
  | some c, some sg => loopG iterI cutI E callk (annOf E f) c p (finK E fn sg) st
  | _, _ => none
noncomputable abbrev ROUND := ROUNDG iterI cutI
noncomputable def PART (E : Env) (callk : Nat → List D → R) (f : Nat) (fn : Func) (p : List Nat) (st : St) : R := cutI (match fn.body with | some c => subAt c p | none => .skip) st (PARTG iterI cutI E callk f fn p st)
theorem PART_eq (E : Env) (callk : Nat → List D → R) (f : Nat) (fn : Func) (p : List Nat) (st : St) : PART E callk f fn p st = PARTG iterI cutI E callk f fn p st := cutI_eq _ _ _
theorem LOOP_eq (E : Env) (callk : Nat → List D → R) (f : Nat) (fn : Func) (p : List Nat) (st : St) : LOOP E callk f fn p st = ROUND E callk f fn p st := by
  unfold LOOP ROUND ROUNDG
  split
  · unfold loopG roundG
    split
    · rw [iterI_eq]; rfl
    · rfl
  · rfl

/-- Functions, checked. -/
def FnsOK (P : Program) (E : Env) : List (Nat × Func) → Prop
  | [] => True
  | (f, fn) :: r => (P.funcs[f]? = some fn ∧ fnB E f fn = true) ∧ FnsOK P E r
theorem fns_of {P : Program} {E : Env} : ∀ {l : List (Nat × Func)}, FnsOK P E l → ∀ f fn, lk f l = some fn → FnOK P E f fn := by
  intro l
  induction l with
  | nil => intro _ f fn h; cases h
  | cons p r ih =>
    obtain ⟨g, gn⟩ := p
    intro h f fn hf
    simp only [lk] at hf
    cases hb : Nat.beq f g with
    | true => rw [hb] at hf; injection hf with hf; subst hf; rw [beq_iff.1 hb]; exact fnB_spec h.1.1 h.1.2
    | false => rw [hb] at hf; exact ih h.2 f fn hf

/-- The loops of a code, and the marked parts: paths and leading regions. -/
def placesOf (an : List (Nat × Norm)) : Code → List Nat → List (List Nat × Bool × Option Nat)
  | .seq a b, p => placesOf an a (p ++ [0]) ++ (cond (isCut an b) [(p ++ [1], false, lead b)] []) ++ placesOf an b (p ++ [1])
  | .cond _ a b, p => placesOf an a (p ++ [0]) ++ placesOf an b (p ++ [1])
  | .block _ c, p => placesOf an c (p ++ [0])
  | .loop c, p => (p, true, lead c) :: placesOf an c (p ++ [0])
  | _, _ => []

end Go.Proofs.YtjofkhdnidjleabDoor.DS
