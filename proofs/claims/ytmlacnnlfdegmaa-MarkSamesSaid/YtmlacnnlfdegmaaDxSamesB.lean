import Derived.Test.YtmlacnnlfdegmaaDxSamesA
set_option linter.unusedVariables false
set_option linter.unusedSimpArgs false
namespace Go.Proofs.Ytmlacnnlfdegmaa.markSames
open Go.Proofs.Ytmlacnnlfdegmaa.DS

noncomputable def firstLoop : Code → Option Code
  | .loop c => some c
  | .seq a b => match firstLoop a with | some c => some c | none => firstLoop b
  | .block _ c => firstLoop c
  | .cond _ a b => match firstLoop a with | some c => some c | none => firstLoop b
  | _ => none
noncomputable def loopCode (fn : Func) : Code := match fn.body with
  | some c => match firstLoop c with | some d => d | none => .skip
  | none => .skip
noncomputable def restCode (fn : Func) : Code := match fn.body with
  | some (.seq _ (.seq _ (.seq _ r))) => r
  | _ => .skip
def hd (xs ys : List D) (n i : Int) : St := ⟨68, fun t => lk t [(0, .val (.slice 60) (.list xs)), (1, .val (.slice 60) (.list ys)), (14, .val (.int .i64) (.int n)), (15, .val (.int .i64) (.int i))], fun i => lk i []⟩

/-- What follows the loop. -/
def after (st : St) : R := some [.bool true]

section
variable (f : Nat) (fn : Func) (callk : Nat → List D → R) (n : Nat)
noncomputable def body (st : St) (K : Ex → St → R) : R := execK E callk (annOf E f) n (loopCode fn) st K
noncomputable def K1 (e : Ex) (st : St) : R := match e with
  | .normal => opt (normAt E.tt (annOf E f) (restCode fn) st) fun st' => execK E callk (annOf E f) n (restCode fn) st' (finK E fn sig2)
  | .exit i => finK E fn sig2 (.exit i) st
  | .ret => finK E fn sig2 .ret st
noncomputable def K0 (e : Ex) (st : St) : R := match e with
  | .normal => K1 f fn callk n .normal st
  | .exit i => cond (Nat.beq i 0) (K1 f fn callk n .normal st) (K1 f fn callk n (.exit i) st)
  | .ret => K1 f fn callk n .ret st
noncomputable def G (m : Nat) (st : St) : R := body f fn callk n st fun e st' => match e with
  | .normal => iterK (normAt tt (annOf E f) (loopCode fn)) (body f fn callk n) m st' (K0 f fn callk n)
  | .exit i => K0 f fn callk n (.exit i) st'
  | .ret => K0 f fn callk n .ret st'
end

def ne1 (x y : D) (j : Nat) : Bool := !decide ((x.cell j).toInt = (y.cell j).toInt)
def neS (x y : D) (j : Nat) : Bool := !decide ((x.cell j).toStr = (y.cell j).toStr)
def p5 (x y : D) : Bool := cond (cond (cond (cond (ne1 x y 0) true (ne1 x y 1)) true (neS x y 2)) true (neS x y 3)) true (neS x y 4)
noncomputable def rnd (f : Nat) (callk : Nat → List D → R) (xs ys : List D) (i : Int) (next : R) : R :=
  cond (inb i xs.length) (cond (inb i ys.length)
    (opt (cond (boolEqB (p5 (xs.getD i.toNat .no) (ys.getD i.toNat .no)) false) (callk f [.list ((xs.getD i.toNat .no).cell 5).toList, .list ((ys.getD i.toNat .no).cell 5).toList]) (some [])) fun r =>
      cond (cond (p5 (xs.getD i.toNat .no) (ys.getD i.toNat .no)) true (!(r.getD 0 .no).toBool)) (some [.bool false]) next) none) none

theorem round11 (callk : Nat → List D → R) (n m : Nat) (xs ys : List D) (l i : Int) : G 11 Try.f11 callk n (m + 1) (hd xs ys l i) =
    cond (decide (i < l)) (rnd 11 callk xs ys i (G 11 Try.f11 callk n m (hd xs ys l (IntKind.i64.wrap (i + 1))))) (some [.bool true]) := by kernel_rfl
theorem round12 (callk : Nat → List D → R) (n m : Nat) (xs ys : List D) (l i : Int) : G 12 Try.f12 callk n (m + 1) (hd xs ys l i) =
    cond (decide (i < l)) (rnd 12 callk xs ys i (G 12 Try.f12 callk n m (hd xs ys l (IntKind.i64.wrap (i + 1))))) (some [.bool true]) := by kernel_rfl
theorem enter11 (m : Nat) (xs ys : List D) : run E (m + 2) 11 [.list xs, .list ys] =
    cond (!decide ((xs.length : Int) = (ys.length : Int))) (some [.bool false]) (G 11 Try.f11 (run E (m + 1)) (m + 1) m (hd xs ys xs.length 0)) := by kernel_rfl
theorem enter12 (m : Nat) (xs ys : List D) : run E (m + 2) 12 [.list xs, .list ys] =
    cond (!decide ((xs.length : Int) = (ys.length : Int))) (some [.bool false]) (G 12 Try.f12 (run E (m + 1)) (m + 1) m (hd xs ys xs.length 0)) := by kernel_rfl
theorem enter3 (k : Nat) (xs ys : List D) : run E (k + 1) 3 [.list xs, .list ys] =
    opt (run E k 11 [.list xs, .list ys]) fun r1 => opt (run E k 12 [.list xs, .list ys]) fun r2 =>
      opt (cond (boolEqB ((r1.getD 0 .no).toBool == (r2.getD 0 .no).toBool) true) (run E k 11 [.list xs, .list xs]) (some [])) fun r3 =>
        some [.bool (cond ((r1.getD 0 .no).toBool == (r2.getD 0 .no).toBool) (r3.getD 0 .no).toBool false)] := by kernel_rfl

end Go.Proofs.Ytmlacnnlfdegmaa.markSames
