/- Data that come from memory: how long they may be. Runs from some depth on. -/
import Derived.Test.YtjofkhdnidjleabDoorDtG
set_option linter.unusedVariables false
set_option linter.unusedSimpArgs false
namespace Go.Proofs.YtjofkhdnidjleabDoor.DS

inductive LB : D → Prop
  | no : LB .no
  | bool (b : Bool) : LB (.bool b)
  | int (n : Int) : LB (.int n)
  | str (s : List UInt8) (h : s.length ≤ maxLen) : LB (.str s)
  | list (xs : List D) (h : xs.length ≤ maxLen) (hx : ∀ x ∈ xs, LB x) : LB (.list xs)
  | agg (cs : List D) (hx : ∀ x ∈ cs, LB x) : LB (.agg cs)
theorem LB.of_rep {tt : TT} {M : Mem} {k : KT} {v : Value} {d : D} (h : Rep tt M k v d) : LB d := by
  induction h with
  | bool b => exact .bool b
  | int k n h => exact .int n
  | str s h => exact .str _ (by rw [Array.length_toList]; exact h)
  | nil e a cap h => exact .list [] (Nat.zero_le _) (fun x hx => by cases hx)
  | slice e ei ad cap xs vs h0 hc hm he hs hz hMM hr ih =>
    refine .list xs (Nat.le_trans hc hm) (fun x hx => ?_)
    obtain ⟨i, hi, rfl⟩ := List.mem_iff_getElem.1 hx
    exact ih i hi
  | agg t ti cs ds ht hk hl hd hr ih =>
    refine .agg ds (fun x hx => ?_)
    obtain ⟨i, hi, rfl⟩ := List.mem_iff_getElem.1 hx
    exact ih i (by omega) (by omega) hi
theorem LB.list_inv {xs : List D} (h : LB (.list xs)) : xs.length ≤ maxLen ∧ ∀ x ∈ xs, LB x := by cases h with | list _ h1 h2 => exact ⟨h1, h2⟩
theorem LB.cell {d : D} (h : LB d) (i : Nat) : LB (d.cell i) := by
  have key : ∀ cs : List D, (∀ x ∈ cs, LB x) → LB (cs.getD i .no) := by
    intro cs hcs
    rw [List.getD_eq_getElem?_getD]
    cases hi : cs[i]? with
    | none => exact .no
    | some x => exact hcs x (List.mem_of_getElem? hi)
  cases h with
  | agg cs hx => exact key cs hx
  | no => exact key [.no] (fun x hx => by simp at hx; subst hx; exact .no)
  | bool b => exact key [.bool b] (fun x hx => by simp at hx; subst hx; exact .bool b)
  | int n => exact key [.int n] (fun x hx => by simp at hx; subst hx; exact .int n)
  | str s h => exact key [.str s] (fun x hx => by simp at hx; subst hx; exact .str s h)
  | list xs h hx => exact key [.list xs] (fun x hx' => by simp at hx'; subst hx'; exact .list xs h hx)
theorem LB.toList {d : D} (h : LB d) : LB (.list d.toList) := by
  cases h with
  | list xs h hx => exact .list xs h hx
  | _ => exact .list [] (Nat.zero_le _) (fun x hx => by cases hx)

theorem size_cell (d : D) (i : Nat) : SizeOf.sizeOf (d.cell i) ≤ SizeOf.sizeOf d := by
  have key : ∀ cs : List D, SizeOf.sizeOf (cs.getD i .no) ≤ 1 + SizeOf.sizeOf cs := by
    intro cs
    rw [List.getD_eq_getElem?_getD]
    cases hi : cs[i]? with
    | none => simp
    | some x => have := List.sizeOf_lt_of_mem (List.mem_of_getElem? hi); simp; omega
  cases d with
  | agg cs =>
    have h1 := key cs
    have h2 : SizeOf.sizeOf (D.agg cs) = 1 + SizeOf.sizeOf cs := by simp
    show SizeOf.sizeOf (cs.getD i .no) ≤ SizeOf.sizeOf (D.agg cs)
    omega
  | _ => cases i <;> simp [D.cell, D.cells] <;> omega
theorem size_toList (d : D) : SizeOf.sizeOf d.toList ≤ SizeOf.sizeOf d := by
  cases d <;> simp [D.toList] <;> omega
theorem size_kids {xs : List D} {i : Nat} (hi : i < xs.length) (j : Nat) : SizeOf.sizeOf ((xs.getD i .no).cell j).toList < SizeOf.sizeOf xs := by
  have h1 : xs.getD i .no ∈ xs := by rw [List.getD_eq_getElem?_getD, List.getElem?_eq_getElem hi]; exact List.getElem_mem hi
  have := List.sizeOf_lt_of_mem h1
  have := size_cell (xs.getD i .no) j
  have := size_toList ((xs.getD i .no).cell j)
  omega

theorem args_nil {tt : TT} {M : Mem} {vs : List Value} {xs : List D} (h : ArgsRep tt M [] vs xs) : vs = [] ∧ xs = [] := by
  cases vs <;> cases xs <;> first | exact ⟨rfl, rfl⟩ | exact False.elim h
theorem args_cons {tt : TT} {M : Mem} {k : KT} {ps : List PM} {vs : List Value} {xs : List D} (h : ArgsRep tt M (.val k :: ps) vs xs) : ∃ v vs' x xs', vs = v :: vs' ∧ xs = x :: xs' ∧ Rep tt M k v x ∧ ArgsRep tt M ps vs' xs' := by
  cases vs with
  | nil => cases xs <;> exact False.elim h
  | cons v vs =>
    cases xs with
    | nil => exact False.elim h
    | cons x xs => exact ⟨v, vs, x, xs, rfl, rfl, h.1, h.2⟩

def Ev (E : Env) (f : Nat) (args r : List D) : Prop := ∃ k0, ∀ k, k0 ≤ k → run E k f args = some r
theorem choose_all {β : Type} {P : Nat → β → Nat → Prop} [Inhabited β] (hmono : ∀ i b k k', k ≤ k' → P i b k → P i b k') : ∀ n, (∀ i, i < n → ∃ b k, P i b k) → ∃ B : Nat → β, ∃ K, ∀ i, i < n → P i (B i) K := by
  intro n
  induction n with
  | zero => intro _; exact ⟨fun _ => default, 0, fun i h => absurd h (Nat.not_lt_zero _)⟩
  | succ n ih =>
    intro h
    obtain ⟨B, K, hB⟩ := ih (fun i hi => h i (by omega))
    obtain ⟨b, k, hb⟩ := h n (by omega)
    refine ⟨put B n b, max K k, fun i hi => ?_⟩
    by_cases e : i = n
    · subst e; rw [put_same]; exact hmono _ _ _ _ (Nat.le_max_right _ _) hb
    · rw [put_other _ _ _ e]; exact hmono _ _ _ _ (Nat.le_max_left _ _) (hB i (by omega))

theorem wrap64 {i : Int} (h0 : -9223372036854775808 ≤ i) (h1 : i ≤ 9223372036854775807) : IntKind.i64.wrap i = i := by
  simp only [IntKind.wrap, IntKind.signed, IntKind.bits]
  simp
  omega

end Go.Proofs.YtjofkhdnidjleabDoor.DS
