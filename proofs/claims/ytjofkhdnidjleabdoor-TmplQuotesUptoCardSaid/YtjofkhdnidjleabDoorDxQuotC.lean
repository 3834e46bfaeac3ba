/- Days and dates, in plain words: a check over every day from 1970 to 2199, by the kernel, in ten parts. -/
import Derived.Test.YtjofkhdnidjleabDoorDtL
set_option linter.unusedVariables false
set_option linter.unusedSimpArgs false
namespace Go.Proofs.YtjofkhdnidjleabDoor.qt
open Go.Proofs.YtjofkhdnidjleabDoor.DS
namespace dates

def leap (y : Nat) : Bool := Nat.beq (y % 4) 0 && (!(Nat.beq (y % 100) 0) || Nat.beq (y % 400) 0)
def yd (y : Nat) : Nat := bif leap y then 366 else 365
def md (y m : Nat) : Nat := bif Nat.beq m 2 then (bif leap y then 29 else 28) else bif Nat.beq m 4 || Nat.beq m 6 || Nat.beq m 9 || Nat.beq m 11 then 30 else 31
def okN (n y m d : Nat) : Bool :=
  let era := (n + 719468) / 146097
  let doe := (n + 719468) % 146097
  let yoe := (doe + doe / 36524 - doe / 1460 - doe / 146096) / 365
  let q := 365 * yoe + yoe / 4 - yoe / 100
  let doy := doe - q
  let mp := (5 * doy + 2) / 153
  Nat.ble q doe && Nat.beq (doy + 1) (d + (153 * mp + 2) / 5) && Nat.beq (bif Nat.ble (mp + 3) 12 then mp + 3 else mp - 9) m && Nat.beq (bif Nat.ble m 2 then yoe + era * 400 + 1 else yoe + era * 400) y
def chkD (y m : Nat) : Nat → Nat → Bool
  | _, 0 => true
  | s, k + 1 => okN (s + k) y m (k + 1) && chkD y m s k
def chkM (y : Nat) : Nat → Nat → Nat → Bool
  | 0, _, _ => true
  | k + 1, m, s => chkD y m s (md y m) && chkM y k (m + 1) (s + md y m)
def chkY : Nat → Nat → Nat → Bool
  | 0, _, _ => true
  | k + 1, y, s => chkM y 12 1 s && chkY k (y + 1) (s + yd y)
def tm (y : Nat) : Nat → Nat → Nat
  | 0, _ => 0
  | k + 1, m => md y m + tm y k (m + 1)
def ty : Nat → Nat → Nat
  | 0, _ => 0
  | k + 1, y => yd y + ty k (y + 1)
theorem tm_year (y : Nat) : tm y 12 1 = yd y := by
  unfold yd
  simp only [tm, md]
  cases leap y <;> rfl
theorem chk_add : ∀ (a b y s : Nat), chkY a y s = true → chkY b (y + a) (s + ty a y) = true → chkY (a + b) y s = true := by
  intro a
  induction a with
  | zero => intro b y s _ h; rw [Nat.zero_add]; exact h
  | succ a ih =>
    intro b y s h1 h2
    rw [show a + 1 + b = (a + b) + 1 by omega]
    simp only [chkY, Bool.and_eq_true] at h1 ⊢
    refine ⟨h1.1, ih b (y + 1) (s + yd y) h1.2 ?_⟩
    rw [show y + 1 + a = y + (a + 1) by omega, show s + yd y + ty a (y + 1) = s + ty (a + 1) y by simp only [ty]; omega]
    exact h2
set_option maxRecDepth 100000
theorem k0 : chkY 23 1970 0 = true := by decide +kernel
theorem k1 : chkY 23 1993 8401 = true := by decide +kernel
theorem k2 : chkY 23 2016 16801 = true := by decide +kernel
theorem k3 : chkY 23 2039 25202 = true := by decide +kernel
theorem k4 : chkY 23 2062 33603 = true := by decide +kernel
theorem k5 : chkY 23 2085 42004 = true := by decide +kernel
theorem k6 : chkY 23 2108 50403 = true := by decide +kernel
theorem k7 : chkY 23 2131 58804 = true := by decide +kernel
theorem k8 : chkY 23 2154 67205 = true := by decide +kernel
theorem k9 : chkY 23 2177 75606 = true := by decide +kernel
theorem step {b y s y' s' t : Nat} (h1 : chkY 23 y s = true) (hy : y + 23 = y') (h : s + ty 23 y = s') (ht : 23 + b = t) (h2 : chkY b y' s' = true) : chkY t y s = true := by
  subst hy h ht; exact chk_add 23 b y s h1 h2
theorem c8 : chkY 46 2154 67205 = true := step (b := 23) k8 (by decide +kernel : 2154 + 23 = 2177) (by decide +kernel : 67205 + ty 23 2154 = 75606) (by decide +kernel : 23 + 23 = 46) k9
theorem c7 : chkY 69 2131 58804 = true := step (b := 46) k7 (by decide +kernel : 2131 + 23 = 2154) (by decide +kernel : 58804 + ty 23 2131 = 67205) (by decide +kernel : 23 + 46 = 69) c8
theorem c6 : chkY 92 2108 50403 = true := step (b := 69) k6 (by decide +kernel : 2108 + 23 = 2131) (by decide +kernel : 50403 + ty 23 2108 = 58804) (by decide +kernel : 23 + 69 = 92) c7
theorem c5 : chkY 115 2085 42004 = true := step (b := 92) k5 (by decide +kernel : 2085 + 23 = 2108) (by decide +kernel : 42004 + ty 23 2085 = 50403) (by decide +kernel : 23 + 92 = 115) c6
theorem c4 : chkY 138 2062 33603 = true := step (b := 115) k4 (by decide +kernel : 2062 + 23 = 2085) (by decide +kernel : 33603 + ty 23 2062 = 42004) (by decide +kernel : 23 + 115 = 138) c5
theorem c3 : chkY 161 2039 25202 = true := step (b := 138) k3 (by decide +kernel : 2039 + 23 = 2062) (by decide +kernel : 25202 + ty 23 2039 = 33603) (by decide +kernel : 23 + 138 = 161) c4
theorem c2 : chkY 184 2016 16801 = true := step (b := 161) k2 (by decide +kernel : 2016 + 23 = 2039) (by decide +kernel : 16801 + ty 23 2016 = 25202) (by decide +kernel : 23 + 161 = 184) c3
theorem c1 : chkY 207 1993 8401 = true := step (b := 184) k1 (by decide +kernel : 1993 + 23 = 2016) (by decide +kernel : 8401 + ty 23 1993 = 16801) (by decide +kernel : 23 + 184 = 207) c2
theorem c0 : chkY 230 1970 0 = true := step (b := 207) k0 (by decide +kernel : 1970 + 23 = 1993) (by decide +kernel : 0 + ty 23 1970 = 8401) (by decide +kernel : 23 + 207 = 230) c1
theorem chk : chkY 230 1970 0 = true := c0
theorem total : ty 230 1970 = 84006 := by decide +kernel
theorem chkD_at {y m s : Nat} : ∀ k, chkD y m s k = true → ∀ j, j < k → okN (s + j) y m (j + 1) = true := by
  intro k
  induction k with
  | zero => intro _ j h; omega
  | succ k ih =>
    intro h j hj
    simp only [chkD, Bool.and_eq_true] at h
    by_cases e : j = k
    · subst e; exact h.1
    · exact ih h.2 j (by omega)
theorem md_le (y m : Nat) : md y m ≤ 31 := by
  unfold md
  cases Nat.beq m 2 <;> cases leap y <;> cases Nat.beq m 4 <;> cases Nat.beq m 6 <;> cases Nat.beq m 9 <;> cases Nat.beq m 11 <;> decide
end dates
end Go.Proofs.YtjofkhdnidjleabDoor.qt
