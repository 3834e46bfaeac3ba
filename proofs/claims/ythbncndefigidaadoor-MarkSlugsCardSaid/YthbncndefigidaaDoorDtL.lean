/- Small laws for the equations. -/
import Derived.Test.YthbncndefigidaaDoorDtK
set_option linter.unusedVariables false
set_option linter.unusedSimpArgs false
namespace Go.Proofs.YthbncndefigidaaDoor.DS

theorem inb_nat {i n : Nat} (h : i < n) : inb (i : Int) n = true := by unfold inb; simp; omega
theorem inb_iff {i : Int} {n : Nat} : inb i n = true ↔ 0 ≤ i ∧ i < (n : Int) := by unfold inb; simp
theorem wrap_id {i : Int} (h0 : -9223372036854775808 ≤ i) (h1 : i ≤ 9223372036854775807) : IntKind.i64.wrap i = i := wrap64 h0 h1
theorem fitL_le {n m : Nat} (h : n + m ≤ lim) : fitL n m = true := by unfold fitL; simpa using h
theorem dec_t {p : Prop} [Decidable p] (h : p) : decide p = true := by simp [h]
theorem dec_f {p : Prop} [Decidable p] (h : ¬ p) : decide p = false := by simp [h]
theorem bif_id (b : Bool) : (bif b then true else false) = b := by cases b <;> rfl
theorem bif_not (b : Bool) : (bif b then false else true) = !b := by cases b <;> rfl
theorem getD_eq {α : Type} (l : List α) (i : Nat) (d : α) (h : i < l.length) : l.getD i d = l[i] := by
  simp [List.getD_eq_getElem?_getD, List.getElem?_eq_getElem h]
theorem lim_val : lim = 68719476736 := rfl

end Go.Proofs.YthbncndefigidaaDoor.DS
