/- Small laws for plain proofs over the equations: data, indices, bytes, cuts. -/
import Derived.Test.YthbncndefigidaaDoorDtL
set_option linter.unusedVariables false
set_option linter.unusedSimpArgs false
namespace Go.Proofs.YthbncndefigidaaDoor.DS

theorem opt_s {α β : Type} (a : α) (f : α → Option β) : opt (some a) f = f a := rfl
theorem tI (n : Int) : D.toInt (.int n) = n := rfl
theorem tS (s : List UInt8) : D.toStr (.str s) = s := rfl
theorem tL (l : List D) : D.toList (.list l) = l := rfl
theorem tB (b : Bool) : D.toBool (.bool b) = b := rfl
theorem bt (a b : Bool) : (bif true then a else b) = a := rfl
theorem bf (a b : Bool) : (bif false then a else b) = b := rfl
theorem b_and (a b : Bool) : (bif a then b else false) = (a && b) := by cases a <;> rfl
theorem b_or (a b : Bool) : (bif a then true else b) = (a || b) := by cases a <;> rfl
theorem nxt {i : Nat} (h : i ≤ 4611686018427387904) : IntKind.wrap .i64 ((i : Int) + 1) = ((i + 1 : Nat) : Int) := by rw [wrap_id (by omega) (by omega)]; omega
theorem fit_t {n m : Nat} (h : n + m ≤ 68719476736) : fitL n m = true := fitL_le (by rw [lim_val]; exact h)
theorem lim_t {n m : Nat} (h : n + m ≤ 68719476736) : decide (n + m ≤ lim) = true := dec_t (by rw [lim_val]; exact h)
theorem wrap_u8 {i : Int} (h0 : 0 ≤ i) (h1 : i ≤ 255) : IntKind.wrap .u8 i = i := by
  rw [show IntKind.wrap .u8 i = i % 256 from by simp [IntKind.wrap, IntKind.signed, IntKind.bits]]
  exact Int.emod_eq_of_lt h0 (by omega)
theorem u8_lt (c : UInt8) : c.toNat < 256 := c.toNat_lt
theorem u8_ofInt (c : UInt8) : UInt8.ofNat (Int.toNat (c.toNat : Int)) = c := by simp
theorem getD_drop {α : Type} (l : List α) (i j : Nat) (d : α) : (l.drop i).getD j d = l.getD (i + j) d := by simp [List.getD_eq_getElem?_getD]
theorem drop_cons {α : Type} {l : List α} {i : Nat} (d : α) (h : i < l.length) : l.drop i = l.getD i d :: l.drop (i + 1) := by
  rw [getD_eq l i d h]; exact List.drop_eq_getElem_cons h
theorem take_snoc {α : Type} {l : List α} {i : Nat} (d : α) (h : i < l.length) : l.take (i + 1) = l.take i ++ [l.getD i d] := by
  rw [getD_eq l i d h]; exact List.take_succ_eq_append_getElem h
/-- A part of a row or string. -/
def sub {α : Type} (l : List α) (i k : Nat) : List α := (l.take k).drop i
theorem sub_len {α : Type} {l : List α} {i k : Nat} (hk : k ≤ l.length) : (sub l i k).length = k - i := by simp [sub]; omega
theorem sub_snoc {α : Type} {l : List α} {i k : Nat} (d : α) (hi : i ≤ k) (hk : k < l.length) : sub l i (k + 1) = sub l i k ++ [l.getD k d] := by
  unfold sub
  rw [take_snoc d hk, List.drop_append_of_le_length (by simp; omega)]
theorem sub_self {α : Type} (l : List α) (i : Nat) : sub l i i = [] := by simp [sub]
theorem sub_one {α : Type} {l : List α} {i : Nat} (d : α) (h : i < l.length) : sub l i (i + 1) = [l.getD i d] := by rw [sub_snoc d (Nat.le_refl _) h, sub_self]; rfl
theorem cut_both {α : Type} (l : List α) (i k : Nat) : cutL l (some (i : Int)) (some (k : Int)) = sub l i k := rfl
theorem cut_lo {α : Type} (l : List α) (i : Nat) : cutL l (some (i : Int)) none = l.drop i := rfl
theorem cut_hi {α : Type} (l : List α) (k : Nat) : cutL l none (some (k : Int)) = l.take k := rfl
theorem cutOk_both {n i k : Nat} (h1 : i ≤ k) (h2 : k ≤ n) : cutOk n (some (i : Int)) (some (k : Int)) = true := by simp only [cutOk, Bool.and_eq_true, decide_eq_true_eq]; omega
theorem cutOk_lo {n i : Nat} (h : i ≤ n) : cutOk n (some (i : Int)) none = true := by simp only [cutOk, Bool.and_eq_true, decide_eq_true_eq]; omega
theorem cutOk_hi {n k : Nat} (h : k ≤ n) : cutOk n none (some (k : Int)) = true := by simp only [cutOk, Bool.and_eq_true, decide_eq_true_eq]; omega
theorem inb_f {i : Int} {n : Nat} (h : i < 0 ∨ (n : Int) ≤ i) : inb i n = false := by
  rw [← Bool.not_eq_true, inb_iff]; omega

/-- How great a string or row is, in the measure of the bound. -/
theorem mass_str (s : List UInt8) (r : List D) : dmass.dmAll (.str s :: r) = s.length + 1 + dmass.dmAll r := rfl
theorem mass_list (l : List D) (r : List D) : dmass.dmAll (.list l :: r) = dmass.dmAll l + 1 + dmass.dmAll r := rfl
theorem mass_nil : dmass.dmAll [] = 0 := rfl
end Go.Proofs.YthbncndefigidaaDoor.DS
