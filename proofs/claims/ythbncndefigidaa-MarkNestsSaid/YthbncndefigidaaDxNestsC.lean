import Derived.Test.YthbncndefigidaaDxNestsB
import Derived.Test.YthbncndefigidaaDtL
set_option linter.unusedVariables false
set_option linter.unusedSimpArgs false
namespace Go.Proofs.Ythbncndefigidaa.mk
open Go.Proofs.Ythbncndefigidaa.DS
namespace nests

/-- 1 + the place of the last one ahead of j that is lower than x; 0: there is none. -/
def sr (lv : Nat → Int) (x : Int) : Nat → Nat
  | 0 => 0
  | k + 1 => if x ≤ lv k then sr lv x k else k + 1
theorem sr_le (lv : Nat → Int) (x : Int) : ∀ j, sr lv x j ≤ j := by
  intro j
  induction j with
  | zero => exact Nat.le_refl _
  | succ j ih => unfold sr; split <;> omega
theorem sr_jump (lv : Nat → Int) {x y : Int} (h : x ≤ y) : ∀ j, sr lv x (sr lv y j) = sr lv x j := by
  intro j
  induction j with
  | zero => rfl
  | succ j ih =>
    rw [sr.eq_2 lv y j]
    split
    · rename_i hy
      rw [ih, sr.eq_2 lv x j, if_pos (by omega)]
    · rfl
/-- What is open ahead of j, the last one first. -/
def Ch (lv : Nat → Int) : Nat → Nat → List Nat
  | 0, _ => []
  | _ + 1, 0 => []
  | n + 1, j + 1 => j :: Ch lv n (sr lv (lv j) j)
theorem Ch_fuel (lv : Nat → Int) : ∀ n m j, j ≤ n → j ≤ m → Ch lv n j = Ch lv m j := by
  intro n
  induction n with
  | zero =>
    intro m j h1 h2
    have : j = 0 := by omega
    subst this
    cases m <;> rfl
  | succ n ih =>
    intro m j h1 h2
    cases j with
    | zero => cases m <;> rfl
    | succ j =>
      cases m with
      | zero => omega
      | succ m =>
        have := sr_le lv (lv j) j
        simp only [Ch]
        rw [ih m _ (by omega) (by omega)]
def C (lv : Nat → Int) (j : Nat) : List Nat := Ch lv j j
theorem C_succ (lv : Nat → Int) (j : Nat) : C lv (j + 1) = j :: C lv (sr lv (lv j) j) := by
  have := sr_le lv (lv j) j
  unfold C
  simp only [Ch]
  rw [Ch_fuel lv j _ _ this (Nat.le_refl _)]
theorem C_zero (lv : Nat → Int) : C lv 0 = [] := rfl
def dN (n : Nat) : D := .int (n : Int)
def op (lv : Nat → Int) (j : Nat) : List D := (C lv j).reverse.map dN
theorem C_len (lv : Nat → Int) : ∀ n j, j ≤ n → (C lv j).length ≤ j := by
  intro n
  induction n with
  | zero => intro j h; have : j = 0 := by omega
            subst this; simp [C_zero]
  | succ n ih =>
    intro j h
    cases j with
    | zero => simp [C_zero]
    | succ j =>
      rw [C_succ]
      have := sr_le lv (lv j) j
      have := ih (sr lv (lv j) j) (by omega)
      simp; omega
theorem op_succ (lv : Nat → Int) (j : Nat) : op lv (j + 1) = op lv (sr lv (lv j) j) ++ [dN j] := by
  unfold op; rw [C_succ]; simp
theorem op_len (lv : Nat → Int) (j : Nat) : (op lv j).length ≤ j := by
  unfold op; simp; exact C_len lv j j (Nat.le_refl _)
def res (lv : Nat → Int) (i : Nat) : List D := (List.range i).map fun k => .int ((sr lv (lv k) k : Int) - 1)
theorem res_succ (lv : Nat → Int) (i : Nat) : res lv (i + 1) = res lv i ++ [.int ((sr lv (lv i) i : Int) - 1)] := by
  unfold res; rw [List.range_succ]; simp
theorem res_len (lv : Nat → Int) (i : Nat) : (res lv i).length = i := by simp [res]

section
variable (l : List D) (hl : l.length ≤ 4000)
def lev (i : Nat) : Int := ((l.getD i .no).cell 0).toInt
def bad (v : Int) : Bool := bif decide (v < 1) then true else decide (6 < v)

include hl in
/-- The program's popping. -/
theorem pop {i : Nat} (hi : i < l.length) (os : List D) (ho : os.length ≤ 4000) : ∀ n j, j ≤ n → j ≤ i → sr (lev l) (lev l i) i = sr (lev l) (lev l i) j →
    L13c l i l l.length i os (op (lev l) j) (l.getD i .no) = L13b l l l.length ((i + 1 : Nat) : Int) (os ++ [.int ((sr (lev l) (lev l i) i : Int) - 1)]) (op (lev l) (i + 1)) := by
  have hw : IntKind.i64.wrap ((i : Int) + 1) = ((i + 1 : Nat) : Int) := by rw [wrap_id (by omega) (by omega)]; simp
  have h0 : ∀ n, n = 0 → sr (lev l) (lev l i) i = 0 → op (lev l) n = [] → L13c l i l l.length i os (op (lev l) n) (l.getD i .no) = L13b l l l.length ((i + 1 : Nat) : Int) (os ++ [.int ((sr (lev l) (lev l i) i : Int) - 1)]) (op (lev l) (i + 1)) := by
    intro n _ hs hop
    rw [round13c, hop, op_succ, hs, hw]
    have f1 : fitL os.length 1 = true := fitL_le (by rw [lim_val]; omega)
    have f2 : fitL 0 1 = true := fitL_le (by decide)
    have hop0 : op (lev l) 0 = [] := rfl
    simp [f1, f2, hop0, dN]
  intro n
  induction n with
  | zero =>
    intro j hjn hji hs
    have : j = 0 := by omega
    subst this
    exact h0 0 rfl hs rfl
  | succ n ih =>
    intro j hjn hji hs
    cases j with
    | zero => exact h0 0 rfl hs rfl
    | succ j =>
      have hsr := sr_le (lev l) (lev l j) j
      have hm := op_len (lev l) (sr (lev l) (lev l j) j)
      rw [round13c, op_succ]
      generalize hq : op (lev l) (sr (lev l) (lev l j) j) = q at *
      have hlen : (q ++ [dN j]).length = q.length + 1 := by simp
      have hww : IntKind.i64.wrap (((q.length + 1 : Nat) : Int) - 1) = (q.length : Int) := by rw [wrap_id (by omega) (by omega)]; omega
      have hget : (q ++ [dN j]).getD q.length .no = dN j := by simp [List.getD_eq_getElem?_getD]
      have hd : (dN j).toInt = (j : Int) := rfl
      have hz : ¬ (((q.length + 1 : Nat) : Int) = 0) := by omega
      have hp : (0 : Int) < ((q.length + 1 : Nat) : Int) := by omega
      have hlevj : ((l.getD j .no).cell 0).toInt = lev l j := rfl
      have hlevi : ((l.getD i .no).cell 0).toInt = lev l i := rfl
      have hcut : cutOk (q.length + 1) none (some (q.length : Int)) = true := by simp [cutOk]; omega
      have hcl : cutL (q ++ [dN j]) none (some (q.length : Int)) = q := by simp [cutL]
      simp only [hlen, hww, Int.toNat_natCast, hget, hd, inb_nat (show q.length < q.length + 1 by omega), inb_nat (show j < l.length by omega), cond_true, dec_t hp, dec_f hz, cond_false, hlevj, hlevi, hcut, hcl]
      by_cases hle : lev l i ≤ lev l j
      · rw [dec_t hle, cond_true, ← hq]
        refine ih _ (by omega) (by omega) ?_
        rw [hs, sr.eq_2, if_pos hle, sr_jump _ hle]
      · have hsj : sr (lev l) (lev l i) (j + 1) = j + 1 := by rw [sr.eq_2, if_neg hle]
        have f1 : fitL os.length [D.int (j : Int)].length = true := fitL_le (by rw [lim_val]; simp; omega)
        have f2 : fitL (q.length + 1) [D.int (i : Int)].length = true := fitL_le (by rw [lim_val]; simp; omega)
        rw [dec_f hle, cond_false, f1, f2, cond_true, cond_true, hw, op_succ (lev l) i, hs, hsj, op_succ, hq]
        have : ((j + 1 : Nat) : Int) - 1 = (j : Int) := by omega
        rw [this]; rfl

include hl in
theorem loop13b : ∀ n i, i + n = l.length → L13b l l l.length i (res (lev l) i) (op (lev l) i) = some [.list (res (lev l) l.length), .int 0] := by
  intro n
  induction n with
  | zero =>
    intro i hi
    have : i = l.length := by omega
    subst this
    rw [round13b, dec_f (by omega)]; rfl
  | succ n ih =>
    intro i hi
    rw [round13b, dec_t (by omega), inb_nat (by omega), cond_true, cond_true, Int.toNat_natCast, pop l hl (by omega) _ (by rw [res_len]; omega) i i (Nat.le_refl _) (Nat.le_refl _) rfl, ← res_succ]
    exact ih (i + 1) (by omega)

/-- The program's look at the levels. -/
def allOk : Nat → Nat → Bool
  | 0, _ => true
  | n + 1, i => if bad (lev l i) then false else allOk n (i + 1)
include hl in
theorem loop13a : ∀ n i, i + n = l.length → L13a l l l.length i = if allOk l n i then some [.list (res (lev l) l.length), .int 0] else some [.list [], .int 2] := by
  intro n
  induction n with
  | zero =>
    intro i hi
    have : i = l.length := by omega
    subst this
    rw [round13a, dec_f (by omega), cond_false]
    exact loop13b l hl l.length 0 (by omega)
  | succ n ih =>
    intro i hi
    have hw : IntKind.i64.wrap ((i : Int) + 1) = ((i + 1 : Nat) : Int) := by rw [wrap_id (by omega) (by omega)]; simp
    rw [round13a, dec_t (by omega), inb_nat (by omega), cond_true, cond_true, Int.toNat_natCast, hw, ih (i + 1) (by omega)]
    show (cond (bad (lev l i)) _ _) = _
    simp only [allOk]
    rcases Bool.eq_false_or_eq_true (bad (lev l i)) with hb | hb <;> simp [hb]
include hl in
theorem nested : RUN E 13 [.list l] = if allOk l l.length 0 then some [.list (res (lev l) l.length), .int 0] else some [.list [], .int 2] := by
  rw [enter13]; exact loop13a l hl l.length 0 (by omega)

include hl in
/-- The law's own search. -/
theorem down {i : Nat} (hi : i < l.length) (g : List D) (e : Int) (ws : List D) (ho : ws.length ≤ 4000) : ∀ j, j ≤ i → sr (lev l) (lev l i) i = sr (lev l) (lev l i) j →
    L4b l g e ((j : Int) - 1) l l.length i ws (l.getD i .no) = L4a l g e l l.length ((i + 1 : Nat) : Int) (ws ++ [.int ((sr (lev l) (lev l i) i : Int) - 1)]) := by
  have hw : IntKind.i64.wrap ((i : Int) + 1) = ((i + 1 : Nat) : Int) := by rw [wrap_id (by omega) (by omega)]; simp
  have f1 : ∀ x, fitL ws.length [D.int x].length = true := fun x => fitL_le (by rw [lim_val]; simp; omega)
  intro j
  induction j with
  | zero =>
    intro _ hs
    have f2 : fitL ws.length 1 = true := f1 0
    rw [round4b, hs, hw]
    simp [f2, sr]
  | succ j ih =>
    intro hji hs
    have e1 : ((j + 1 : Nat) : Int) - 1 = (j : Int) := by omega
    have e2 : IntKind.i64.wrap ((j : Int) - 1) = (j : Int) - 1 := wrap_id (by omega) (by omega)
    have hlevj : ((l.getD j .no).cell 0).toInt = lev l j := rfl
    have hlevi : ((l.getD i .no).cell 0).toInt = lev l i := rfl
    rw [round4b, e1]
    simp only [inb_nat (show j < l.length by omega), cond_true, dec_t (show (0 : Int) ≤ (j : Int) by omega), Int.toNat_natCast, hlevj, hlevi, f1, hw]
    by_cases hle : lev l i ≤ lev l j
    · rw [dec_t hle, cond_true, e2]
      exact ih (by omega) (by rw [hs, sr.eq_2, if_pos hle])
    · rw [dec_f hle, cond_false, hs, sr.eq_2, if_neg hle, e1]

/-- The two rows are equal. -/
theorem eqLoop (xs : List D) (h : xs.length ≤ 4000) : ∀ n i, i + n = xs.length → L14a xs xs xs.length i = some [.bool true] := by
  intro n
  induction n with
  | zero =>
    intro i hi
    rw [round14a, dec_f (by omega)]; rfl
  | succ n ih =>
    intro i hi
    have hw : IntKind.i64.wrap ((i : Int) + 1) = ((i + 1 : Nat) : Int) := by rw [wrap_id (by omega) (by omega)]; simp
    rw [round14a, dec_t (by omega), inb_nat (by omega), hw, ih (i + 1) (by omega), dec_t rfl]; rfl
theorem eqSame (xs : List D) (h : xs.length ≤ 4000) : RUN E 14 [.list xs, .list xs] = some [.bool true] := by
  rw [enter14, dec_t rfl]; exact eqLoop xs h xs.length 0 (by omega)

include hl in
theorem loop4 (g : List D) (e : Int) (hg : (allOk l l.length 0 = true → g = res (lev l) l.length ∧ e = 0) ∧ (allOk l l.length 0 = false → g = [] ∧ e = 2)) : ∀ n i, i + n = l.length → allOk l l.length 0 = allOk l n i →
    L4a l g e l l.length i (res (lev l) i) = some [.bool true] := by
  intro n
  induction n with
  | zero =>
    intro i hi ha
    have : i = l.length := by omega
    subst this
    obtain ⟨rfl, rfl⟩ := hg.1 ha
    rw [round4a, dec_f (by omega), cond_false, eqSame _ (by rw [res_len]; exact hl)]; rfl
  | succ n ih =>
    intro i hi ha
    rw [round4a, dec_t (by omega), inb_nat (by omega), cond_true, cond_true, Int.toNat_natCast]
    show (cond (bad (lev l i)) _ _) = _
    simp only [allOk] at ha
    cases hb : bad (lev l i) with
    | true =>
      rw [hb] at ha
      obtain ⟨rfl, rfl⟩ := hg.2 ha
      rfl
    | false =>
      rw [hb] at ha
      have e2 : IntKind.i64.wrap ((i : Int) - 1) = (i : Int) - 1 := wrap_id (by omega) (by omega)
      rw [cond_false, e2, down l hl (by omega) g e _ (by rw [res_len]; omega) i (Nat.le_refl _) rfl, ← res_succ]
      exact ih (i + 1) (by omega) ha
end

theorem law (l : List D) : RUN E 4 [.list l] = some [.bool true] := by
  rw [enter4]
  by_cases h : (4000 : Int) < (l.length : Int)
  · rw [dec_t h]; rfl
  · have hl : l.length ≤ 4000 := by omega
    rw [dec_f h, cond_false, nested l hl]
    cases ha : allOk l l.length 0 with
    | true => exact loop4 l hl _ _ ⟨fun _ => ⟨rfl, rfl⟩, fun h => by rw [ha] at h; cases h⟩ l.length 0 (by omega) rfl
    | false => exact loop4 l hl _ _ ⟨fun h => (by rw [ha] at h; cases h), fun _ => ⟨rfl, rfl⟩⟩ l.length 0 (by omega) rfl
end nests
end Go.Proofs.Ythbncndefigidaa.mk
