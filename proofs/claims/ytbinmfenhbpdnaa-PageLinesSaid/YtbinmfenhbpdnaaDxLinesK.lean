/- A line of a shortcode: the law's answer. -/
import Derived.Test.YtbinmfenhbpdnaaDxLinesF
set_option linter.unusedVariables false
set_option linter.unusedSimpArgs false
namespace Go.Proofs.Ytbinmfenhbpdnaa.pl
open Go.Proofs.Ytbinmfenhbpdnaa.DS
namespace lines

def eqc (c : UInt8) : Bool := decide ((c.toNat : Int) = 61)
theorem b256 (p : UInt8 → Bool) (h : ∀ n : Fin 256, p (UInt8.ofNat n.val) = true) (c : UInt8) : p c = true := by
  have := h ⟨c.toNat, c.toNat_lt⟩
  rwa [show (⟨c.toNat, c.toNat_lt⟩ : Fin 256).val = c.toNat from rfl, show UInt8.ofNat c.toNat = c by simp] at this
set_option maxRecDepth 100000 in
theorem pl_facts (c : UInt8) : (!plB c || (!qt c && (!sp c && (!bs c && (!eqc c && !lo c))))) = true := b256 (fun c => (!plB c || (!qt c && (!sp c && (!bs c && (!eqc c && !lo c)))))) (by decide +kernel) c
set_option maxRecDepth 100000 in
theorem wb_pl (c : UInt8) : (!wb c || (plB c && !qt c)) = true := b256 (fun c => (!wb c || (plB c && !qt c))) (by decide +kernel) c
set_option maxRecDepth 100000 in
theorem nm_facts (c : UInt8) : (!nmB c || (!qt c && !sp c)) = true := b256 (fun c => (!nmB c || (!qt c && !sp c))) (by decide +kernel) c
set_option maxRecDepth 100000 in
theorem qt_facts (c : UInt8) : (!qt c || (decide (c = 34) && (!bs c && (!sp c && (!lo c && !plB c))))) = true := b256 (fun c => (!qt c || (decide (c = 34) && (!bs c && (!sp c && (!lo c && !plB c)))))) (by decide +kernel) c
set_option maxRecDepth 100000 in
theorem bs_facts (c : UInt8) : (!bs c || (decide (c = 92) && (!qt c && (!sp c && (!lo c && !plB c))))) = true := b256 (fun c => (!bs c || (decide (c = 92) && (!qt c && (!sp c && (!lo c && !plB c)))))) (by decide +kernel) c
set_option maxRecDepth 100000 in
theorem sp_facts (c : UInt8) : (!sp c || (decide (c = 32) && (!qt c && (!bs c && (!eqc c && !plB c))))) = true := b256 (fun c => (!sp c || (decide (c = 32) && (!qt c && (!bs c && (!eqc c && !plB c)))))) (by decide +kernel) c
set_option maxRecDepth 100000 in
theorem eq_facts (c : UInt8) : (!eqc c || (decide (c = 61) && (!qt c && (!bs c && (!sp c && !plB c))))) = true := b256 (fun c => (!eqc c || (decide (c = 61) && (!qt c && (!bs c && (!sp c && !plB c)))))) (by decide +kernel) c
theorem pl_qt {c : UInt8} (h : plB c = true) : qt c = false := by have := pl_facts c; rw [h] at this; simp at this; exact this.1
theorem pl_sp {c : UInt8} (h : plB c = true) : sp c = false := by have := pl_facts c; rw [h] at this; simp at this; exact this.2.1
theorem pl_eq {c : UInt8} (h : plB c = true) : eqc c = false := by have := pl_facts c; rw [h] at this; simp at this; exact this.2.2.2.1
theorem sp_eq {c : UInt8} (h : sp c = true) : c = 32 := by have := sp_facts c; rw [h] at this; simp at this; exact this.1
theorem qt_eq {c : UInt8} (h : qt c = true) : c = 34 := by have := qt_facts c; rw [h] at this; simp at this; exact this.1
theorem eqc_eq {c : UInt8} (h : eqc c = true) : c = 61 := by have := eq_facts c; rw [h] at this; simp at this; exact this.1

/-- The first word, and what lies behind the space that ends it. -/
def fw : Bool → List UInt8 → List UInt8 × Option (List UInt8)
  | _, [] => ([], none)
  | q, [c] => bif q && bs c then ([c], none) else bif qt c then ([c], none) else bif sp c && !q then ([], some []) else ([c], none)
  | q, c :: d :: r => bif q && bs c then (c :: d :: (fw q r).1, (fw q r).2) else bif qt c then (c :: (fw (!q) (d :: r)).1, (fw (!q) (d :: r)).2) else
    bif sp c && !q then ([], some (d :: r)) else (c :: (fw q (d :: r)).1, (fw q (d :: r)).2)
def wsO : Option (List UInt8) → List (List UInt8)
  | none => []
  | some r => wsF [] false r
theorem ws_fw : ∀ n (u : List UInt8), u.length ≤ n → ∀ cur q, wsF cur q u = (cur ++ (fw q u).1) :: wsO (fw q u).2 := by
  intro n
  induction n with
  | zero => intro u hu cur q; have : u = [] := List.length_eq_zero_iff.1 (by omega); subst this; simp [wsF, fw, wsO]
  | succ n ih =>
    intro u hu cur q
    match u, hu with
    | [], _ => simp [wsF, fw, wsO]
    | [c], _ => simp only [wsF, fw]; cases q <;> cases bs c <;> cases qt c <;> cases sp c <;> simp [wsO, wsF]
    | c :: d :: r, hu =>
      simp only [List.length_cons] at hu
      have h1 := fun cur q => ih r (by omega) cur q
      have h2 := fun cur q => ih (d :: r) (by simp; omega) cur q
      simp only [wsF, fw]
      cases q <;> cases bs c <;> cases qt c <;> cases sp c <;> simp [h1, h2, wsO]
theorem ws_eq (u : List UInt8) : wsF [] false u = (fw false u).1 :: wsO (fw false u).2 := by rw [ws_fw u.length u (Nat.le_refl _)]; rfl
theorem fw_sp {c : UInt8} (h : sp c = true) (r : List UInt8) : fw false (c :: r) = ([], some r) := by
  have := sp_eq h; subst this
  have e1 : qt 32 = false := by decide
  cases r <;> simp [fw, h, e1]
theorem fw_qt {c : UInt8} (h : qt c = true) (r : List UInt8) : fw false (c :: r) = (c :: (fw true r).1, (fw true r).2) := by
  cases r <;> simp [fw, h]
theorem fw_no {c : UInt8} (h : qt c = false) (h2 : sp c = false) (r : List UInt8) : fw false (c :: r) = (c :: (fw false r).1, (fw false r).2) := by
  cases r <;> simp [fw, h, h2]
theorem fw_pl : ∀ (v t : List UInt8), v.all plB = true → fw false (v ++ t) = (v ++ (fw false t).1, (fw false t).2) := by
  intro v
  induction v with
  | nil => intro t _; rfl
  | cons c r ih =>
    intro t h
    simp only [List.all_cons, Bool.and_eq_true] at h
    rw [List.cons_append, fw_no (pl_qt h.1) (pl_sp h.1), ih t h.2]; rfl

/-! ### Within quotation marks -/
/-- What lies before the quotation mark that ends, and what behind. -/
def qs : List UInt8 → Option (List UInt8 × List UInt8)
  | [] => none
  | [c] => bif bs c then none else bif qt c then some ([], []) else none
  | c :: d :: r => bif bs c then (qs r).map (fun x => (c :: d :: x.1, x.2)) else bif qt c then some ([], d :: r) else (qs (d :: r)).map (fun x => (c :: x.1, x.2))
theorem qs_none : ∀ n (u : List UInt8), u.length ≤ n → qs u = none → fw true u = (u, none) := by
  intro n
  induction n with
  | zero => intro u hu _; have : u = [] := List.length_eq_zero_iff.1 (by omega); subst this; simp [fw]
  | succ n ih =>
    intro u hu h
    match u, hu with
    | [], _ => simp [fw]
    | [c], _ => simp only [qs] at h; simp only [fw]; cases hb : bs c <;> cases hq : qt c <;> simp_all
    | c :: d :: r, hu =>
      simp only [List.length_cons] at hu
      have h1 := ih r (by omega)
      have h2 := ih (d :: r) (by simp; omega)
      simp only [qs] at h
      simp only [fw]
      cases hb : bs c <;> cases hq : qt c <;> simp_all
theorem qs_some : ∀ n (u : List UInt8), u.length ≤ n → ∀ i r, qs u = some (i, r) → fw true u = (i ++ 34 :: (fw false r).1, (fw false r).2) ∧ u = i ++ 34 :: r := by
  intro n
  induction n with
  | zero => intro u hu i r h; have : u = [] := List.length_eq_zero_iff.1 (by omega); subst this; simp [qs] at h
  | succ n ih =>
    intro u hu i r h
    match u, hu with
    | [], _ => simp [qs] at h
    | [c], _ =>
      simp only [qs] at h; simp only [fw]
      cases hb : bs c <;> cases hq : qt c <;> simp [hb, hq] at h ⊢
      obtain ⟨rfl, rfl⟩ := h
      have := qt_eq hq; subst this; simp [fw]
    | c :: d :: r', hu =>
      simp only [List.length_cons] at hu
      have h1 := ih r' (by omega)
      have h2 := ih (d :: r') (by simp; omega)
      simp only [qs] at h
      simp only [fw]
      cases hb : bs c with
      | true =>
        simp only [hb, cond_true, Bool.and_true, Option.map_eq_some_iff] at h ⊢
        obtain ⟨⟨i', r2⟩, e, ee⟩ := h
        simp only [Prod.mk.injEq] at ee
        obtain ⟨rfl, rfl⟩ := ee
        obtain ⟨e1, e2⟩ := h1 i' r2 e
        rw [e1, e2]; simp
      | false =>
        cases hq : qt c with
        | true =>
          simp [hb, hq] at h ⊢
          obtain ⟨rfl, rfl⟩ := h
          have := qt_eq hq; subst this; simp
        | false =>
          simp only [hb, hq, cond_false, Bool.and_false, Bool.not_true, Option.map_eq_some_iff] at h ⊢
          obtain ⟨⟨i', r2⟩, e, ee⟩ := h
          simp only [Prod.mk.injEq] at ee
          obtain ⟨rfl, rfl⟩ := ee
          obtain ⟨e1, e2⟩ := h2 i' r2 e
          rw [e1]; simp [← e2]
/-- What ends a line. -/
def Z (z : List UInt8) : Prop := z = [32, 62, 125] ∨ z = [32, 47, 62, 125]
theorem Z_head {z : List UInt8} (h : Z z) : ∃ t, z = 32 :: t := by rcases h with rfl | rfl <;> exact ⟨_, rfl⟩
theorem pq_Z {z : List UInt8} (h : Z z) : (pq z).2.2 = true := by rcases h with rfl | rfl <;> decide
theorem pq_two (c : UInt8) (t : List UInt8) : pq (c :: t) = bif lo c then ([], c :: t, true) else bif qt c then ([], t, false) else
    bif bs c then (match t with | [] => ([], [], true) | d :: r => bif qt d || bs d then (d :: (pq r).1, (pq r).2) else ([], d :: r, true)) else (c :: (pq t).1, (pq t).2) := by
  cases t <;> simp [pq]
theorem pq_none {z : List UInt8} (hz : Z z) : ∀ n (u : List UInt8), u.length ≤ n → qs u = none → (pq (u ++ z)).2.2 = true := by
  intro n
  induction n with
  | zero => intro u hu _; have : u = [] := List.length_eq_zero_iff.1 (by omega); subst this; exact pq_Z hz
  | succ n ih =>
    intro u hu h
    match u, hu with
    | [], _ => exact pq_Z hz
    | [c], _ =>
      obtain ⟨t, rfl⟩ := Z_head hz
      have hp := pq_Z hz
      simp only [qs] at h
      rw [List.singleton_append, pq_two]
      have e1 : qt 32 = false := by decide
      have e2 : bs 32 = false := by decide
      have hf := bs_facts c
      cases hl : lo c <;> cases hb : bs c <;> cases hq : qt c <;> simp_all
    | c :: d :: r, hu =>
      simp only [List.length_cons] at hu
      have h1 := ih r (by omega)
      have h2 := ih (d :: r) (by simp; omega)
      simp only [qs] at h
      rw [List.cons_append, pq_two, List.cons_append]
      have hf := bs_facts c
      cases hb : bs c with
      | true =>
        rw [hb] at hf h; simp at hf; replace hf := hf.2
        simp only [hf, cond_false, cond_true, Option.map_eq_none_iff] at h ⊢
        cases qt d || bs d with
        | true => exact h1 h
        | false => rfl
      | false => cases hl : lo c <;> cases hq : qt c <;> simp_all
theorem pq_some (z : List UInt8) : ∀ n (u : List UInt8), u.length ≤ n → ∀ i r, qs u = some (i, r) →
    (∀ v, vi i = some v → pq (u ++ z) = (v, r ++ z, false)) ∧ (vi i = none → (pq (u ++ z)).2.2 = true) := by
  intro n
  induction n with
  | zero => intro u hu i r h; have : u = [] := List.length_eq_zero_iff.1 (by omega); subst this; simp [qs] at h
  | succ n ih =>
    intro u hu i r h
    have base : ∀ (c : UInt8) (t : List UInt8), qt c = true → (∀ v, vi [] = some v → pq (c :: (t ++ z)) = (v, t ++ z, false)) ∧ (vi [] = none → (pq (c :: (t ++ z))).2.2 = true) := by
      intro c t hq
      have := qt_facts c; rw [hq] at this; simp at this
      rw [pq_two, hq, this.2.2.2.1]
      simp [vi]
    match u, hu with
    | [], _ => simp [qs] at h
    | [c], _ =>
      simp only [qs] at h
      cases hb : bs c <;> cases hq : qt c <;> simp [hb, hq] at h
      obtain ⟨rfl, rfl⟩ := h
      exact base c [] hq
    | c :: d :: r', hu =>
      simp only [List.length_cons] at hu
      have h1 := ih r' (by omega)
      have h2 := ih (d :: r') (by simp; omega)
      simp only [qs] at h
      cases hb : bs c with
      | true =>
        have hf := bs_facts c; rw [hb] at hf; simp at hf; replace hf := hf.2
        simp only [hb, cond_true, Option.map_eq_some_iff] at h
        obtain ⟨⟨i', r2⟩, e, ee⟩ := h
        simp only [Prod.mk.injEq] at ee
        obtain ⟨rfl, rfl⟩ := ee
        obtain ⟨e1, e2⟩ := h1 i' r2 e
        rw [List.cons_append, pq_two, List.cons_append]
        simp only [vi, hb, hf]
        cases hd : qt d || bs d with
        | false => simp
        | true =>
          cases hv : vi i' with
          | none => simp [e2 hv]
          | some v => simp [e1 v hv]
      | false =>
        cases hq : qt c with
        | true =>
          simp [hb, hq] at h
          obtain ⟨rfl, rfl⟩ := h
          exact base c (d :: r') hq
        | false =>
          simp only [hb, hq, cond_false, Option.map_eq_some_iff] at h
          obtain ⟨⟨i', r2⟩, e, ee⟩ := h
          simp only [Prod.mk.injEq] at ee
          obtain ⟨rfl, rfl⟩ := ee
          obtain ⟨e1, e2⟩ := h2 i' r2 e
          rw [List.cons_append, pq_two]
          have hvi : vi (c :: i') = bif lo c then none else (vi i').map (c :: ·) := by
            cases i' <;> simp [vi, hb, hq] <;> cases lo c <;> simp
          rw [hvi, hb, hq]
          cases lo c with
          | true => simp
          | false =>
            rw [List.cons_append] at e1 e2
            cases hv : vi i' with
            | none => simp [e2 hv]
            | some v => simp [e1 v hv]
theorem vi_head (c : UInt8) (h : qt c = true) (x : List UInt8) : vi (c :: x) = none := by cases x <;> simp [vi, h]
theorem vi_bad : ∀ n (u : List UInt8), u.length ≤ n → ∀ i r, qs u = some (i, r) → ∀ x, vi (i ++ 34 :: x) = none := by
  intro n
  induction n with
  | zero => intro u hu i r h; have : u = [] := List.length_eq_zero_iff.1 (by omega); subst this; simp [qs] at h
  | succ n ih =>
    intro u hu i r h x
    match u, hu with
    | [], _ => simp [qs] at h
    | [c], _ =>
      simp only [qs] at h
      cases hb : bs c <;> cases hq : qt c <;> simp [hb, hq] at h
      obtain ⟨rfl, rfl⟩ := h
      exact vi_head _ (by decide) _
    | c :: d :: r', hu =>
      simp only [List.length_cons] at hu
      simp only [qs] at h
      cases hb : bs c with
      | true =>
        simp only [hb, cond_true, Option.map_eq_some_iff] at h
        obtain ⟨⟨i', r2⟩, e, ee⟩ := h
        simp only [Prod.mk.injEq] at ee
        obtain ⟨rfl, rfl⟩ := ee
        have := ih r' (by omega) i' r2 e x
        simp only [List.cons_append, vi, hb, this]
        cases lo c || qt c <;> cases qt d || bs d <;> rfl
      | false =>
        cases hq : qt c with
        | true =>
          simp [hb, hq] at h
          obtain ⟨rfl, rfl⟩ := h
          exact vi_head _ (by decide) _
        | false =>
          simp only [hb, hq, cond_false, Option.map_eq_some_iff] at h
          obtain ⟨⟨i', r2⟩, e, ee⟩ := h
          simp only [Prod.mk.injEq] at ee
          obtain ⟨rfl, rfl⟩ := ee
          have := ih (d :: r') (by simp; omega) i' r2 e x
          rw [List.cons_append]
          generalize i' ++ 34 :: x = y at *
          cases y with
          | nil => simp [vi] at this
          | cons e y => simp only [vi, hb, hq, this]; cases lo c <;> rfl
theorem vi_last : ∀ n (u : List UInt8), u.length ≤ n → qs u = none → ∀ c, u.getLast? = some c → qt c = true → vi u.dropLast = none := by
  intro n
  induction n with
  | zero => intro u hu _ c h; have : u = [] := List.length_eq_zero_iff.1 (by omega); subst this; simp at h
  | succ n ih =>
    intro u hu h k hk hqk
    match u, hu with
    | [], _ => simp at hk
    | [c], _ =>
      simp at hk; subst hk
      have hf := qt_facts c; rw [hqk] at hf; simp at hf; replace hf := hf.2
      simp [qs, hqk, hf] at h
    | c :: d :: r, hu =>
      simp only [List.length_cons] at hu
      simp only [qs] at h
      cases hb : bs c with
      | true =>
        have hf := bs_facts c; rw [hb] at hf; simp at hf; replace hf := hf.2
        simp only [hb, cond_true, Option.map_eq_none_iff] at h
        cases r with
        | nil => simp [vi, hb]
        | cons e r =>
          have := ih (e :: r) (by simp at hu ⊢; omega) h k (by simpa using hk) hqk
          simp only [List.dropLast_cons_cons, vi, hb] at this ⊢
          rw [this]
          cases lo c || qt c <;> cases qt d || bs d <;> rfl
      | false =>
        cases hq : qt c with
        | true => simp [hb, hq] at h
        | false =>
          simp only [hb, hq, cond_false, Option.map_eq_none_iff] at h
          have := ih (d :: r) (by simp; omega) h k (by simpa using hk) hqk
          simp only [List.dropLast_cons_cons] at this ⊢
          generalize (d :: r).dropLast = y at *
          cases y with
          | nil => simp [vi] at this
          | cons e y => simp only [vi, hb, hq, this]; cases lo c <;> rfl
end lines
end Go.Proofs.Ytbinmfenhbpdnaa.pl

namespace Go.Proofs.Ytbinmfenhbpdnaa.pl
open Go.Proofs.Ytbinmfenhbpdnaa.DS
namespace lines

theorem val_no {w : List UInt8} (h : bare w = false) (hq : qt (w.getD 0 0) = false) : val w = none := by
  unfold val; rw [h, hq]; cases decide ((w.length : Int) < 2) <;> rfl
theorem val_q {c : UInt8} (hq : qt c = true) (u : List UInt8) : val (c :: u) = match u.getLast? with | none => none | some k => bif qt k then vi u.dropLast else none := by
  have hf := qt_facts c; rw [hq] at hf; simp at hf; replace hf := hf.2
  have hb : bare (c :: u) = false := by unfold bare; simp [hf]
  unfold val
  rw [hb, List.getD_cons_zero, hq]
  cases u with
  | nil => rfl
  | cons d r =>
    have e1 : (c :: d :: r).getD ((c :: d :: r).length - 1) 0 = (d :: r).getLast (by simp) := by
      rw [List.getLast_eq_getElem]; simp [List.getD_eq_getElem?_getD]
    have e2 : ((c :: d :: r).take ((c :: d :: r).length - 1)).drop 1 = (d :: r).dropLast := by simp [List.dropLast_eq_take]
    rw [e1, e2, List.getLast?_eq_some_getLast (by simp), dec_f (by simp; omega)]
    simp only [cond_false, Bool.not_true, Bool.false_or]
    cases qt ((d :: r).getLast (by simp)) <;> rfl
def yo (z : List UInt8) : Option (List UInt8) → List UInt8
  | none => z
  | some r => 32 :: (r ++ z)
def stuck (x : List UInt8 × List UInt8 × Bool) : Prop := x.2.2 = true ∨ ∃ c t, x.2.1 = c :: t ∧ sp c = false
def pv (x : List UInt8) : List UInt8 × List UInt8 × Bool := bif hasPre x [34] then pq (x.drop 1) else (x.takeWhile plB, x.dropWhile plB, nov (x.takeWhile plB))
theorem tw_app (p : UInt8 → Bool) : ∀ {v t : List UInt8}, v.all p = true → (∀ d t', t = d :: t' → p d = false) → (v ++ t).takeWhile p = v ∧ (v ++ t).dropWhile p = t := by
  intro v
  induction v with
  | nil =>
    intro t _ h
    cases t with
    | nil => exact ⟨rfl, rfl⟩
    | cons d t' => have := h d t' rfl; simp [List.takeWhile_cons, List.dropWhile_cons, this]
  | cons c r ih =>
    intro t hv h
    simp only [List.all_cons, Bool.and_eq_true] at hv
    obtain ⟨e1, e2⟩ := ih hv.2 h
    simp [List.takeWhile_cons, List.dropWhile_cons, hv.1, e1, e2]
theorem tw_all (p : UInt8 → Bool) : ∀ u : List UInt8, (u.takeWhile p).all p = true := by
  intro u
  induction u with
  | nil => rfl
  | cons c r ih => rw [List.takeWhile_cons]; cases h : p c <;> simp [h, ih]
theorem dw_head (p : UInt8 → Bool) : ∀ u : List UInt8, ∀ d t, u.dropWhile p = d :: t → p d = false := by
  intro u
  induction u with
  | nil => intro d t h; simp at h
  | cons c r ih =>
    intro d t h
    rw [List.dropWhile_cons] at h
    cases hc : p c with
    | true => simp [hc] at h; exact ih d t h
    | false => simp [hc] at h; rw [← h.1]; exact hc
theorem pl_split (p : UInt8 → Bool) (u : List UInt8) : ∃ v t, u = v ++ t ∧ v.all p = true ∧ ∀ d t', t = d :: t' → p d = false :=
  ⟨u.takeWhile p, u.dropWhile p, (List.takeWhile_append_dropWhile).symm, tw_all p u, fun d t' h => dw_head p u d t' h⟩
theorem nov_bare {v : List UInt8} (h : v.all plB = true) : nov v = !bare v := by
  unfold nov bare; rw [h]; cases decide (v = []) <;> cases decide (((v.getD 0 0).toNat : Int) = 58) <;> rfl
theorem head_qt {v : List UInt8} (h : v.all plB = true) : qt (v.getD 0 0) = false := by
  cases v with
  | nil => decide
  | cons c r => simp only [List.all_cons, Bool.and_eq_true] at h; exact pl_qt h.1
theorem sp32 : sp 32 = true := by decide
theorem Z_pl {z : List UInt8} (hz : Z z) {t : List UInt8} (ht : ∀ d t', t = d :: t' → plB d = false) : ∀ d t', t ++ z = d :: t' → plB d = false := by
  intro d t' h
  cases t with
  | nil =>
    obtain ⟨z', rfl⟩ := Z_head hz
    simp at h; rw [← h.1]; decide
  | cons a b => simp at h; rw [← h.1]; exact ht a b rfl
theorem pre_app34 {u z : List UInt8} (hz : Z z) (h : ∀ c t, u = c :: t → qt c = false) : hasPre (u ++ z) [34] = false := by
  cases u with
  | nil => rcases hz with rfl | rfl <;> decide
  | cons c t => rw [List.cons_append, q34]; exact h c t rfl
/-- A bare value: what is read of v and what follows. -/
theorem pv_bare {z : List UInt8} (hz : Z z) {v t : List UInt8} (hv : v.all plB = true) (ht : ∀ d t', t = d :: t' → plB d = false) (hq : ∀ c t', v ++ t = c :: t' → qt c = false) :
    pv ((v ++ t) ++ z) = (v, t ++ z, !bare v) := by
  unfold pv
  rw [pre_app34 hz hq, List.append_assoc, (tw_app plB hv (Z_pl hz ht)).1, (tw_app plB hv (Z_pl hz ht)).2, nov_bare hv]; rfl
theorem val_pl {v : List UInt8} (hv : v.all plB = true) : val v = bif bare v then some v else none := by
  cases h : bare v with
  | true => unfold val; rw [h]; rfl
  | false => exact val_no h (head_qt hv)
theorem fw_cons {d : UInt8} (h : sp d = false) (r : List UInt8) : ∃ w, (fw false (d :: r)).1 = d :: w := by
  cases hq : qt d with
  | true => rw [fw_qt hq]; exact ⟨_, rfl⟩
  | false => rw [fw_no hq h]; exact ⟨_, rfl⟩
theorem V {z : List UInt8} (hz : Z z) (u : List UInt8) : (∀ v, val (fw false u).1 = some v → pv (u ++ z) = (v, yo z (fw false u).2, false)) ∧ (val (fw false u).1 = none → stuck (pv (u ++ z))) := by
  cases hh : (match u with | [] => false | c :: _ => qt c) with
  | true =>
    cases u with
    | nil => cases hh
    | cons c u1 =>
      have hq : qt c = true := hh
      have hc := qt_eq hq; subst hc
      rw [fw_qt hq]
      have e : pv (34 :: u1 ++ z) = pq (u1 ++ z) := by unfold pv; rw [List.cons_append, q34, hq]; rfl
      rw [e]
      simp only []
      cases hs : qs u1 with
      | none =>
        rw [qs_none u1.length u1 (Nat.le_refl _) hs]
        have hv : val (34 :: u1) = none := by
          rw [val_q hq]
          cases hl : u1.getLast? with
          | none => rfl
          | some k =>
            simp only []
            cases hk : qt k with
            | true => exact vi_last u1.length u1 (Nat.le_refl _) hs k hl hk
            | false => rfl
        exact ⟨fun v h => (by rw [hv] at h; cases h), fun _ => .inl (pq_none hz u1.length u1 (Nat.le_refl _) hs)⟩
      | some p =>
        obtain ⟨i, r⟩ := p
        obtain ⟨e1, e2⟩ := qs_some u1.length u1 (Nat.le_refl _) i r hs
        have hp := pq_some z u1.length u1 (Nat.le_refl _) i r hs
        rw [e1]
        have flat : val (34 :: (i ++ [34])) = vi i := by
          rw [val_q hq]; simp [hq]
        cases r with
        | nil =>
          rw [show fw false [] = ([], none) from rfl]
          simp only [flat]
          exact ⟨fun v h => hp.1 v h, fun h => .inl (hp.2 h)⟩
        | cons d r' =>
          cases hd : sp d with
          | true =>
            have := sp_eq hd; subst this
            rw [fw_sp hd]
            simp only [flat]
            exact ⟨fun v h => hp.1 v h, fun h => .inl (hp.2 h)⟩
          | false =>
            obtain ⟨w3, e3⟩ := fw_cons hd r'
            rw [e3]
            have hv : val (34 :: (i ++ 34 :: d :: w3)) = none := by
              rw [val_q hq]
              have hl : (i ++ 34 :: d :: w3).dropLast = i ++ 34 :: (d :: w3).dropLast := by
                rw [List.dropLast_append_of_ne_nil (by simp)]; rfl
              cases hgl : (i ++ 34 :: d :: w3).getLast? with
              | none => rfl
              | some k =>
                simp only [hl, vi_bad u1.length u1 (Nat.le_refl _) i _ hs]
                cases qt k <;> rfl
            refine ⟨fun v h => (by rw [hv] at h; cases h), fun _ => ?_⟩
            cases hvi : vi i with
            | none => exact .inl (hp.2 hvi)
            | some v => rw [hp.1 v hvi]; exact .inr ⟨d, r' ++ z, rfl, hd⟩
  | false =>
    obtain ⟨v, t, rfl, hv, ht⟩ := pl_split plB u
    have hq : ∀ c t', v ++ t = c :: t' → qt c = false := by
      intro c t' e; rw [e] at hh; exact hh
    rw [pv_bare hz hv ht hq, fw_pl v t hv]
    have flat : ∀ y : List UInt8, (∀ x, val v = some x → (v, y, !bare v) = (x, y, false)) ∧ (val v = none → stuck (v, y, !bare v)) := by
      intro y
      rw [val_pl hv]
      cases hb : bare v with
      | true => simp [stuck]
      | false => simp [stuck]
    cases t with
    | nil =>
      rw [show fw false [] = ([], none) from rfl, List.append_nil]
      exact flat z
    | cons d t1 =>
      cases hd : sp d with
      | true =>
        have := sp_eq hd; subst this
        rw [fw_sp hd, List.append_nil]
        exact flat _
      | false =>
        obtain ⟨w3, e3⟩ := fw_cons hd t1
        have hw : val (v ++ d :: w3) = none := by
          apply val_no
          · unfold bare
            rw [List.all_append, List.all_cons, ht d t1 rfl]; simp
          · cases v with
            | nil => exact hq d t1 rfl
            | cons c r => exact hq c _ rfl
        rw [e3, hw]
        exact ⟨fun x h => (by cases h), fun _ => .inr ⟨d, t1 ++ z, rfl, hd⟩⟩

/-! ### Arguments -/
def ne (c : UInt8) : Bool := !eqc c
/-- A word as an argument. -/
def refArg (t : List UInt8) : Option (List UInt8 × List UInt8) :=
  match t.dropWhile ne with
  | [] => (val t).map fun v => ([], v)
  | _ :: post => bif an (t.takeWhile ne) then (val post).map fun v => (t.takeWhile ne, v) else (val t).map fun v => ([], v)
theorem pArg_pv {x : List UInt8} (h : hasPre x [34] = true ∨ hasPre (x.dropWhile plB) [61] = false) : pArg x = ([], pv x) := by
  unfold pArg pv
  cases h34 : hasPre x [34] with
  | true => rfl
  | false =>
    rcases h with h | h
    · rw [h34] at h; cases h
    · rw [h]; rfl
theorem pArg_an {x : List UInt8} (h : hasPre x [34] = false) (h2 : hasPre (x.dropWhile plB) [61] = true) (ha : an (x.takeWhile plB) = true) : pArg x = (x.takeWhile plB, pv ((x.dropWhile plB).drop 1)) := by
  unfold pArg pv
  rw [h, h2, ha]
  cases hasPre ((x.dropWhile plB).drop 1) [34] <;> rfl
theorem pArg_bad {x : List UInt8} (h : hasPre x [34] = false) (h2 : hasPre (x.dropWhile plB) [61] = true) (ha : an (x.takeWhile plB) = false) : (pArg x).2.2.2 = true := by
  unfold pArg pQuote
  rw [h, h2, ha]
  cases hasPre ((x.dropWhile plB).drop 1) [34] <;> rfl
theorem pre61 (c : UInt8) (r : List UInt8) : hasPre (c :: r) [61] = eqc c := by rw [pre_one]; exact eqB c 61 (by omega)
theorem an_all {v : List UInt8} (h : v.all wb = false) : an v = false := by
  unfold an; rw [h]; cases decide ((v.length : Int) < 1) || decide (20 < (v.length : Int)) <;> simp
theorem an_qt {c : UInt8} (h : qt c = true) (r : List UInt8) : an (c :: r) = false := by
  apply an_all
  have := wb_pl c
  rw [h] at this
  simp at this
  simp [this]
theorem pl_ne {v : List UInt8} (h : v.all plB = true) : v.all ne = true := by
  induction v with
  | nil => rfl
  | cons c r ih =>
    simp only [List.all_cons, Bool.and_eq_true] at h ⊢
    exact ⟨by unfold ne; rw [pl_eq h.1]; rfl, ih h.2⟩
theorem ref_val {t : List UInt8} (h : t.dropWhile ne = [] ∨ an (t.takeWhile ne) = false) : refArg t = (val t).map fun v => ([], v) := by
  unfold refArg
  cases hd : t.dropWhile ne with
  | nil => rfl
  | cons a b =>
    rcases h with h | h
    · rw [hd] at h; cases h
    · simp only [h, cond_false]
theorem arg_of_V {z u : List UInt8} (hz : Z z) (h1 : refArg (fw false u).1 = (val (fw false u).1).map fun v => ([], v)) (h2 : pArg (u ++ z) = ([], pv (u ++ z))) :
    (∀ n v, refArg (fw false u).1 = some (n, v) → pArg (u ++ z) = (n, v, yo z (fw false u).2, false)) ∧ (refArg (fw false u).1 = none → stuck (pArg (u ++ z)).2) := by
  have hV := V hz u
  rw [h1, h2]
  cases hv : val (fw false u).1 with
  | none => exact ⟨fun n v h => by simp at h, fun _ => hV.2 hv⟩
  | some x =>
    refine ⟨fun n v h => ?_, fun h => by simp at h⟩
    simp at h
    obtain ⟨rfl, rfl⟩ := h
    rw [hV.1 _ hv]
theorem A {z : List UInt8} (hz : Z z) (u : List UInt8) : (∀ n v, refArg (fw false u).1 = some (n, v) → pArg (u ++ z) = (n, v, yo z (fw false u).2, false)) ∧ (refArg (fw false u).1 = none → stuck (pArg (u ++ z)).2) := by
  cases hh : (match u with | [] => false | c :: _ => qt c) with
  | true =>
    cases u with
    | nil => cases hh
    | cons c u1 =>
      have hq : qt c = true := hh
      have hf := qt_facts c; rw [hq] at hf; simp at hf
      apply arg_of_V hz
      · apply ref_val
        right
        rw [fw_qt hq, List.takeWhile_cons]
        have : ne c = true := by
          have := hf.1; subst this; decide
        rw [if_pos this]
        exact an_qt hq _
      · exact pArg_pv (.inl (by rw [List.cons_append, q34]; exact hq))
  | false =>
    obtain ⟨v, t, rfl, hv, ht⟩ := pl_split plB u
    have hq : ∀ c t', v ++ t = c :: t' → qt c = false := by
      intro c t' e; rw [e] at hh; exact hh
    have h34 := pre_app34 hz hq
    have tw := (tw_app plB hv (Z_pl hz ht)).1
    have dw := (tw_app plB hv (Z_pl hz ht)).2
    rw [← List.append_assoc] at tw dw
    have hne := pl_ne hv
    cases t with
    | nil =>
      apply arg_of_V hz
      · apply ref_val
        left
        rw [fw_pl v [] hv, show fw false [] = ([], none) from rfl, ← List.append_nil (v ++ _), List.append_assoc]
        exact (tw_app ne hne (fun d t' h => by simp at h)).2
      · refine pArg_pv (.inr ?_)
        rw [dw, List.nil_append]
        rcases hz with rfl | rfl <;> decide
    | cons d t1 =>
      have hpd := ht d t1 rfl
      cases he : eqc d with
      | true =>
        have := eqc_eq he; subst this
        have h61 : hasPre ((v ++ 61 :: t1 ++ z).dropWhile plB) [61] = true := by rw [dw, List.cons_append, pre61]; exact he
        have hfw : fw false (v ++ 61 :: t1) = (v ++ 61 :: (fw false t1).1, (fw false t1).2) := by
          rw [fw_pl v _ hv, fw_no (by decide) (by decide)]
        rw [hfw]
        have d1 : (v ++ 61 :: (fw false t1).1).takeWhile ne = v := (tw_app ne hne (fun d t' h => by simp at h; rw [← h.1]; decide)).1
        have d2 : (v ++ 61 :: (fw false t1).1).dropWhile ne = 61 :: (fw false t1).1 := (tw_app ne hne (fun d t' h => by simp at h; rw [← h.1]; decide)).2
        unfold refArg
        rw [d2, d1]
        simp only []
        cases ha : an v with
        | true =>
          have hV := V hz t1
          rw [pArg_an h34 h61 (by rw [tw]; exact ha), tw, dw]
          simp only [List.cons_append, List.drop_succ_cons, List.drop_zero, cond_true]
          cases hvv : val (fw false t1).1 with
          | none => exact ⟨fun n v h => by simp at h, fun _ => hV.2 hvv⟩
          | some x =>
            refine ⟨fun n v h => ?_, fun h => by simp at h⟩
            simp at h
            obtain ⟨rfl, rfl⟩ := h
            rw [hV.1 _ hvv]
        | false =>
          have hb := pArg_bad h34 h61 (by rw [tw]; exact ha)
          have hn : val (v ++ 61 :: (fw false t1).1) = none := by
            apply val_no
            · unfold bare
              rw [List.all_append, List.all_cons, show plB 61 = false by decide]; simp
            · cases v with
              | nil => show qt 61 = false; decide
              | cons c r => exact hq c _ rfl
          rw [hn]
          exact ⟨fun n v h => by simp at h, fun _ => .inl hb⟩
      | false =>
        apply arg_of_V hz
        · apply ref_val
          rw [fw_pl v _ hv]
          cases hd : sp d with
          | true =>
            left
            rw [fw_sp hd, List.append_nil, ← List.append_nil v]
            exact (tw_app ne hne (fun d t' h => by simp at h)).2
          | false =>
            right
            obtain ⟨w3, e3⟩ := fw_cons hd t1
            rw [e3]
            apply an_all
            have : v ++ d :: w3 = (v ++ [d]) ++ w3 := by simp
            rw [this]
            have hall : (v ++ [d]).all ne = true := by rw [List.all_append, hne]; simp [ne, he]
            obtain ⟨a, b, rfl, ha, hb⟩ := pl_split ne w3
            rw [← List.append_assoc]
            rw [(tw_app ne (by rw [List.all_append, hall, ha]; rfl) hb).1]
            have hw := wb_pl d
            rw [hpd] at hw
            simp at hw
            simp [hw]
        · refine pArg_pv (.inr ?_)
          rw [dw, List.cons_append, pre61]; exact he
end lines
end Go.Proofs.Ytbinmfenhbpdnaa.pl

namespace Go.Proofs.Ytbinmfenhbpdnaa.pl
open Go.Proofs.Ytbinmfenhbpdnaa.DS
namespace lines

def argD (x : List UInt8 × List UInt8) : D := .agg [.str x.1, .str x.2]
def refAll : List (List UInt8) → Option (List D)
  | [] => some []
  | t :: r => match refArg t with
    | some x => (refAll r).map (argD x :: ·)
    | none => none
def noPart : D := D.agg [D.str [], D.str [], D.list [], D.bool false, D.list []]
def BAD : R := some [noPart, D.int 8]
/-- What comes of a name and arguments. -/
noncomputable def fin (nm : List UInt8) (args : List D) (ends : Bool) : R :=
  opt (RUN E 42 [D.list args]) fun ρ => cond (bif decide (D.toInt (List.getD ρ 0 D.no) = 0) then false else true)
    (some [noPart, D.int (D.toInt (List.getD ρ 0 D.no))])
    (some [D.agg [D.str [], D.str nm, D.list args, D.bool ends, D.list []], D.int 0])
def isEnd (z : List UInt8) : Bool := decide (z = ([32, 62, 125] : List UInt8))
theorem c16 (s : List UInt8) (nm : List UInt8) (args : List D) (hl : args.length ≤ 1048576) : C16b [] [] false s false [] nm false [] args = fin nm args (isEnd s) := by
  obtain ⟨e, h1, h2⟩ := lines.args args hl
  rw [round16b]
  unfold fin
  rw [h2, h1]
  simp only [opt_s, List.getD_cons_zero, tI, cond_false]
  cases decide (12 < (args.length : Int)) with
  | true => rfl
  | false => rfl
theorem c16_bad (s nm : List UInt8) (args : List D) : C16b [] [] false s true [] nm false [] args = BAD := by rw [round16b]; rfl
theorem l16_bad (s nm : List UInt8) (args : List D) : L16a [] [] false s true [] nm false [] args = BAD := by rw [round16a, c16_bad]; rfl
theorem l16_end {z : List UInt8} (hz : Z z) (nm : List UInt8) (args : List D) (hl : args.length ≤ 1048576) : L16a [] [] false z false [] nm false [] args = fin nm args (isEnd z) := by
  rw [round16a, c16 z nm args hl]
  rcases hz with rfl | rfl
  · rw [dec_t (p := ([32, 62, 125] : List UInt8) = [32, 62, 125]) rfl]; rfl
  · rw [dec_f (p := ([32, 47, 62, 125] : List UInt8) = [32, 62, 125]) (by decide), dec_t (p := ([32, 47, 62, 125] : List UInt8) = [32, 47, 62, 125]) rfl]; rfl
theorem pre32 (c : UInt8) (r : List UInt8) : hasPre (c :: r) [32] = sp c := by rw [pre_one]; exact eqB c 32 (by omega)
theorem l16_stuck (s nm : List UInt8) (args : List D) (hs : s.length ≤ 1048576) (hz : ¬ Z s) (h : hasPre s [32] = false) : L16a [] [] false s false [] nm false [] args = BAD := by
  have t : RUN E 34 [rd s false, .str [32]] = _ := r34 s hs false [32] (by simp)
  rw [round16a, dec_f (p := s = ([32, 62, 125] : List UInt8)) (fun e => hz (.inl e)), dec_f (p := s = ([32, 47, 62, 125] : List UInt8)) (fun e => hz (.inr e))]
  show opt (RUN E 34 [rd s false, .str [32]]) _ = _
  rw [t, h]
  simp only [opt_s, List.getD_cons_zero, List.getD_cons_succ, tB, cond_false, cond_true]
  exact c16_bad _ _ _
theorem Z_pre {z : List UInt8} (h : Z z) : hasPre z [32] = true := by rcases h with rfl | rfl <;> decide
theorem Z_not {c : UInt8} {t : List UInt8} (h : sp c = false) : ¬ Z (c :: t) := by
  rintro (e | e) <;> · injection e with e1 e2; subst e1; cases h
/-- One more argument. -/
theorem l16_arg (s nm : List UInt8) (args : List D) (hs : s.length + 1 ≤ 1048576) (ha : args.length ≤ 1048576) (hz : ¬ Z (32 :: s)) :
    L16a [] [] false (32 :: s) false [] nm false [] args = L16a [] [] false (pArg s).2.2.1 (pArg s).2.2.2 [] nm false [] (args ++ [argD ((pArg s).1, (pArg s).2.1)]) := by
  have t : RUN E 34 [rd (32 :: s) false, .str [32]] = _ := r34 (32 :: s) (by simp; omega) false [32] (by simp)
  rw [round16a, dec_f (p := 32 :: s = ([32, 62, 125] : List UInt8)) (fun e => hz (.inl e)), dec_f (p := 32 :: s = ([32, 47, 62, 125] : List UInt8)) (fun e => hz (.inr e))]
  show opt (RUN E 34 [rd (32 :: s) false, .str [32]]) _ = _
  rw [t, show hasPre (32 :: s) [32] = true from pre32 32 s]
  simp only [opt_s, List.getD_cons_zero, List.getD_cons_succ, tB, cond_false, cond_true]
  have t2 : RUN E 35 [rd s false] = _ := r35 s (by omega)
  show opt (RUN E 35 [rd s false]) _ = _
  rw [t2]
  unfold res4
  simp only [opt_s, List.getD_cons_zero, List.getD_cons_succ, tB]
  rw [fit_t (by simp; omega)]; rfl
/-- After a stuck argument. -/
theorem l16_after {x : List UInt8 × List UInt8 × Bool} (h : stuck x) (nm : List UInt8) (args : List D) (hl : x.2.1.length ≤ 1048576) : L16a [] [] false x.2.1 x.2.2 [] nm false [] args = BAD := by
  cases hb : x.2.2 with
  | true => exact l16_bad _ _ _
  | false =>
    rcases h with h | ⟨c, t, e, hc⟩
    · rw [h] at hb; cases hb
    · rw [e] at hl ⊢
      exact l16_stuck _ nm args hl (Z_not hc) (by rw [pre32]; exact hc)
theorem Z_two {z z2 : List UInt8} (h : Z z) (h2 : Z z2) (r : List UInt8) : 32 :: (r ++ z) ≠ z2 := by
  intro e
  have hl := congrArg List.length e
  rcases h with rfl | rfl <;> rcases h2 with rfl | rfl
  · simp at hl
  · have : r = [] := by cases r with | nil => rfl | cons a b => simp at hl
    subst this; simp at e
  · simp at hl
  · simp at hl
theorem pq_suf : ∀ n (s : List UInt8), s.length ≤ n → ∃ a, s = a ++ (pq s).2.1 := by
  intro n
  induction n with
  | zero => intro s hs; have : s = [] := List.length_eq_zero_iff.1 (by omega); subst this; exact ⟨[], rfl⟩
  | succ n ih =>
    intro s hs
    cases s with
    | nil => exact ⟨[], rfl⟩
    | cons c t =>
      simp only [List.length_cons] at hs
      rw [pq_two]
      cases lo c with
      | true => exact ⟨[], rfl⟩
      | false =>
        cases qt c with
        | true => exact ⟨[c], rfl⟩
        | false =>
          cases bs c with
          | true =>
            cases t with
            | nil => exact ⟨[c], rfl⟩
            | cons d r =>
              cases hd : qt d || bs d with
              | true =>
                obtain ⟨a, ha⟩ := ih r (by simp at hs; omega)
                refine ⟨c :: d :: a, ?_⟩
                simp only [cond_true, cond_false, hd, List.cons_append]
                rw [← ha]
              | false => exact ⟨[c], by simp [hd]⟩
          | false =>
            obtain ⟨a, ha⟩ := ih t (by omega)
            refine ⟨c :: a, ?_⟩
            simp only [cond_false, List.cons_append]
            rw [← ha]
theorem dw_suf (p : UInt8 → Bool) (s : List UInt8) : ∃ a, s = a ++ s.dropWhile p := ⟨s.takeWhile p, (List.takeWhile_append_dropWhile).symm⟩
theorem drop_suf (s : List UInt8) (n : Nat) : ∃ a, s = a ++ s.drop n := ⟨s.take n, (List.take_append_drop _ _).symm⟩
theorem suf_trans {a b c : List UInt8} (h : ∃ x, a = x ++ b) (h2 : ∃ x, b = x ++ c) : ∃ x, a = x ++ c := by
  obtain ⟨x, rfl⟩ := h
  obtain ⟨y, rfl⟩ := h2
  exact ⟨x ++ y, by simp⟩
theorem pQ_suf (n s : List UInt8) (b : Bool) : ∃ a, s = a ++ (pQuote n s b).2.2.1 := by
  unfold pQuote
  cases b with
  | true => exact ⟨[], rfl⟩
  | false => exact pq_suf s.length s (Nat.le_refl _)
theorem pArg_suf (s : List UInt8) : ∃ a, s = a ++ (pArg s).2.2.1 := by
  unfold pArg
  cases hasPre s [34] with
  | true => simp only [cond_true]; exact suf_trans (drop_suf s 1) (pQ_suf _ _ _)
  | false =>
    cases hasPre (s.dropWhile plB) [61] with
    | false => exact dw_suf plB s
    | true =>
      cases hasPre ((s.dropWhile plB).drop 1) [34] with
      | true => simp only [cond_true, cond_false]; exact suf_trans (dw_suf plB s) (suf_trans (drop_suf _ 1) (suf_trans (drop_suf _ 1) (pQ_suf _ _ _)))
      | false => exact suf_trans (dw_suf plB s) (suf_trans (drop_suf _ 1) (dw_suf plB _))
/-- A rest that ends in neither way is bad. -/
theorem l16_no (nm : List UInt8) : ∀ n (s : List UInt8), s.length ≤ n → s.length ≤ 1000000 → (∀ a z, s = a ++ z → ¬ Z z) → ∀ (b : Bool) (args : List D), args.length + s.length ≤ 1000000 → L16a [] [] false s b [] nm false [] args = BAD := by
  intro n
  induction n with
  | zero =>
    intro s hs hl hz b args ha
    have : s = [] := List.length_eq_zero_iff.1 (by omega)
    subst this
    cases b with
    | true => exact l16_bad _ _ _
    | false => exact l16_stuck _ _ _ (by simp) (hz [] [] rfl) rfl
  | succ n ih =>
    intro s hs hl hz b args ha
    cases b with
    | true => exact l16_bad _ _ _
    | false =>
      have hz0 := hz [] s rfl
      cases hp : hasPre s [32] with
      | false => exact l16_stuck s nm args (by omega) hz0 hp
      | true =>
        cases s with
        | nil => cases hp
        | cons c t =>
          rw [pre32] at hp
          have := sp_eq hp; subst this
          simp only [List.length_cons] at hs hl ha
          rw [l16_arg t nm args (by omega) (by omega) hz0]
          obtain ⟨a, e⟩ := pArg_suf t
          have el : t.length = a.length + (pArg t).2.2.1.length := by rw [← List.length_append, ← e]
          refine ih _ (by omega) (by omega) ?_ _ _ (by simp; omega)
          intro x z ez
          exact hz (32 :: (a ++ x)) z (by rw [List.cons_append, List.append_assoc, ← ez, ← e])
/-- The arguments of a line that ends well. -/
theorem l16_all {z : List UInt8} (hz : Z z) (nm : List UInt8) : ∀ n (o : Option (List UInt8)), (yo z o).length ≤ n → (yo z o).length ≤ 1000000 → ∀ args : List D, args.length + (yo z o).length ≤ 1000000 →
    L16a [] [] false (yo z o) false [] nm false [] args = match refAll (wsO o) with | none => BAD | some l => fin nm (args ++ l) (isEnd z) := by
  intro n
  induction n with
  | zero =>
    intro o h
    obtain ⟨t, rfl⟩ := Z_head hz
    cases o <;> simp [yo] at h
  | succ n ih =>
    intro o h hl args ha
    cases o with
    | none =>
      show L16a [] [] false z false [] nm false [] args = _
      rw [l16_end hz nm args (by omega)]
      simp [wsO, refAll]
    | some r =>
      simp only [yo, List.length_cons] at h hl ha
      show L16a [] [] false (32 :: (r ++ z)) false [] nm false [] args = _
      rw [l16_arg (r ++ z) nm args (by omega) (by omega) (by rintro (e | e); exact Z_two hz (.inl rfl) r e; exact Z_two hz (.inr rfl) r e)]
      rw [show wsO (some r) = (fw false r).1 :: wsO (fw false r).2 from ws_eq r]
      have hA := A hz r
      obtain ⟨a, e⟩ := pArg_suf (r ++ z)
      have el : (r ++ z).length = a.length + (pArg (r ++ z)).2.2.1.length := by rw [← List.length_append, ← e]
      cases hr : refArg (fw false r).1 with
      | none =>
        simp only [refAll, hr]
        exact l16_after (hA.2 hr) nm _ (by omega)
      | some x =>
        obtain ⟨k, v⟩ := x
        have hp := hA.1 k v hr
        rw [hp] at el ⊢
        simp only [refAll, hr]
        simp only at el ⊢
        rw [ih _ (by omega) (by omega) _ (by simp; omega)]
        cases refAll (wsO (fw false r).2) with
        | none => rfl
        | some l => simp
end lines
end Go.Proofs.Ytbinmfenhbpdnaa.pl

namespace Go.Proofs.Ytbinmfenhbpdnaa.pl
open Go.Proofs.Ytbinmfenhbpdnaa.DS
namespace lines

theorem ne_mem {c : UInt8} : ne c = true ↔ c ≠ 61 := by
  unfold ne
  constructor
  · intro h e; subst e; cases h
  · intro h
    cases he : eqc c with
    | true => exact absurd (eqc_eq he) h
    | false => rfl
theorem ne_all {s : List UInt8} (h : (61 : UInt8) ∉ s) : s.all ne = true := by
  rw [List.all_eq_true]
  intro c hc
  exact ne_mem.2 (fun e => h (e ▸ hc))
theorem an_nil : an [] = false := by decide
theorem word (v56 : List D) (v57 : Int) (i : Nat) (nm : List UInt8) (en : Bool) (args : List D) (hi : i < v56.length) (hl : v56.length ≤ 1048576) (hv : v57 = (v56.length : Int)) (t : List UInt8) (ht : D.toStr (v56.getD i .no) = t) (hlt : t.length ≤ 1048576) (ha : args.length ≤ 1048576) :
    L17b v56 v57 (i : Int) [] [] false [] nm en [] args = match refArg t with | none => BAD | some x => L17b v56 v57 ((i + 1 : Nat) : Int) [] [] false [] nm en [] (args ++ [argD x]) := by
  subst hv
  rw [round17b, dec_t (by omega), inb_nat hi, Int.toNat_natCast, nxt (by omega), ht]
  have t39 : RUN E 39 [.str t, .int 61] = some [.int (Lib.indexByte t 61)] := r39 t 61
  rw [t39]
  simp only [opt_s, List.getD_cons_zero, tI, cond_true]
  have f1 : ∀ x : D, fitL args.length [x].length = true := fun x => fit_t (by simp; omega)
  simp only [f1]
  have plain : refArg t = ((val t).map fun v => ([], v)) → opt (RUN E 41 [D.str t]) (fun ρ6 => cond (bif D.toBool (List.getD ρ6 1 D.no) then false else true) BAD
      (cond true (L17b v56 (v56.length : Int) ((i + 1 : Nat) : Int) [] [] false [] nm en [] (args ++ [D.agg [D.str [], D.str (D.toStr (List.getD ρ6 0 D.no))]])) none)) =
      match refArg t with | none => BAD | some x => L17b v56 (v56.length : Int) ((i + 1 : Nat) : Int) [] [] false [] nm en [] (args ++ [argD x]) := by
    intro h
    rw [h, r41 t hlt]
    cases val t <;> rfl
  rcases idx_cases 61 t with ⟨h1, h2⟩ | ⟨pre, post, h1, h2, h3⟩
  · rw [h1, dec_f (p := (0 : Int) < -1) (by omega)]
    simp only [cond_false, cond_true, opt_s]
    have hr : refArg t = ((val t).map fun v => ([], v)) := ref_val (.inl (by
      have := (tw_app ne (v := t) (t := []) (ne_all h2) (fun d t' h => by simp at h)).2
      rwa [List.append_nil] at this))
    cases cutOk t.length none (some (-1)) <;> exact plain hr
  · have d1 : t.takeWhile ne = pre := by rw [h1]; exact (tw_app ne (ne_all h2) (fun d t' h => by simp at h; rw [← h.1]; decide)).1
    have d2 : t.dropWhile ne = 61 :: post := by rw [h1]; exact (tw_app ne (ne_all h2) (fun d t' h => by simp at h; rw [← h.1]; decide)).2
    have hlen : t.length = pre.length + post.length + 1 := by rw [h1]; simp; omega
    rw [h3, cutOk_hi (show pre.length ≤ t.length by omega), nxt (by omega), cutOk_lo (show pre.length + 1 ≤ t.length by omega), cut_hi, cut_lo]
    have c1 : t.take pre.length = pre := by rw [h1]; simp
    have c2 : t.drop (pre.length + 1) = post := by rw [h1, ← List.drop_drop]; simp
    rw [c1, c2, r40 pre (by omega)]
    cases hp : an pre with
    | false =>
      have hr : refArg t = ((val t).map fun v => ([], v)) := ref_val (.inr (by rw [d1]; exact hp))
      cases decide (0 < (pre.length : Int)) <;> exact plain hr
    | true =>
      have hpos : 0 < (pre.length : Int) := by
        cases pre with
        | nil => rw [an_nil] at hp; cases hp
        | cons a b => simp only [List.length_cons]; omega
      rw [dec_t hpos, r41 post (by omega)]
      have hr : refArg t = (val post).map fun v => (pre, v) := by unfold refArg; rw [d2, d1, hp]; rfl
      rw [hr]
      cases val post with
      | none => simp only [cond_true, cond_false, opt_s, List.getD_cons_zero, List.getD_cons_succ, tB, vres, Option.map_none]; rfl
      | some x => simp only [cond_true, cond_false, opt_s, List.getD_cons_zero, List.getD_cons_succ, tB, tS, vres, Option.map_some, List.nil_append]; rfl
theorem words_all (ws : List (List UInt8)) (hw : ∀ t ∈ ws, t.length ≤ 1048576) (nm : List UInt8) (en : Bool) (hl : ws.length ≤ 500000) : ∀ n i : Nat, i + n = ws.length → ∀ args : List D, args.length ≤ i →
    L17b (ws.map .str) ((ws.map D.str).length : Int) (i : Int) [] [] false [] nm en [] args = match refAll (ws.drop i) with | none => BAD | some l => fin nm (args ++ l) en := by
  intro n
  induction n with
  | zero =>
    intro i hi args ha
    have : i = ws.length := by omega
    subst this
    rw [round17b, dec_f (by simp), List.drop_length]
    simp only [refAll, List.append_nil]; rfl
  | succ n ih =>
    intro i hi args ha
    have hil : i < ws.length := by omega
    have hg : (ws.map D.str).getD i .no = .str (ws.getD i []) := by
      rw [List.getD_eq_getElem?_getD, List.getElem?_map, List.getD_eq_getElem?_getD, List.getElem?_eq_getElem hil]; rfl
    rw [word (ws.map .str) _ i nm en args (by simp; exact hil) (by simp; omega) rfl (ws.getD i []) (by rw [hg]; rfl) (hw _ (by rw [getD_eq _ _ _ hil]; exact List.getElem_mem hil)) (by omega)]
    rw [drop_cons [] hil]
    simp only [refAll]
    cases refArg (ws.getD i []) with
    | none => rfl
    | some x =>
      simp only []
      rw [ih (i + 1) (by omega) _ (by simp; omega)]
      cases refAll (ws.drop (i + 1)) with
      | none => rfl
      | some l => simp

/-! ### The name, and the line -/
/-- What both give of a text u that ends in z. -/
noncomputable def lineOf (u z : List UInt8) : R := bif cn (fw false u).1 then (match refAll (wsO (fw false u).2) with | none => BAD | some l => fin (fw false u).1 l (isEnd z)) else BAD
theorem wsF_len : ∀ n (u : List UInt8), u.length ≤ n → ∀ cur q, (wsF cur q u).length ≤ u.length + 1 ∧ ∀ t ∈ wsF cur q u, t.length ≤ cur.length + u.length := by
  intro n
  induction n with
  | zero => intro u hu cur q; have : u = [] := List.length_eq_zero_iff.1 (by omega); subst this; simp [wsF]
  | succ n ih =>
    intro u hu cur q
    match u, hu with
    | [], _ => simp [wsF]
    | [c], _ => simp only [wsF]; cases q <;> cases bs c <;> cases qt c <;> cases sp c <;> simp
    | c :: d :: r, hu =>
      simp only [List.length_cons] at hu
      have h1 := fun cur q => ih r (by omega) cur q
      have h2 := fun cur q => ih (d :: r) (by simp; omega) cur q
      simp only [List.length_cons] at h2
      simp only [wsF, List.length_cons]
      have g1 := h1 (cur ++ [c, d]) q
      have g2 := h2 (cur ++ [c]) (!q)
      have g3 := h2 [] q
      have g4 := h2 (cur ++ [c]) q
      simp only [List.length_append, List.length_cons, List.length_nil] at g1 g2 g3 g4
      cases hx : (q && bs c) with
      | true => simp only [cond_true]; exact ⟨by omega, fun t ht => by have := g1.2 t ht; omega⟩
      | false =>
        simp only [cond_false]
        cases qt c with
        | true => simp only [cond_true]; exact ⟨by omega, fun t ht => by have := g2.2 t ht; omega⟩
        | false =>
          simp only [cond_false]
          cases sp c && !q with
          | true =>
            simp only [cond_true, List.length_cons]
            refine ⟨by omega, fun t ht => ?_⟩
            rcases List.mem_cons.1 ht with e | e
            · subst e; omega
            · have := g3.2 t e; omega
          | false => simp only [cond_false]; exact ⟨by omega, fun t ht => by have := g4.2 t ht; omega⟩
/-- The reference, behind its ends. -/
theorem c17 (p u z : List UInt8) (hp : p.length = 3) (hu : u.length ≤ 20000) : C17a (p ++ u) [] [] false [] [] (isEnd z) [] [] = lineOf u z := by
  have hlen : (p ++ u).length = 3 + u.length := by rw [List.length_append, hp]
  have hd : (p ++ u).drop 3 = u := by rw [← hp]; simp
  have hwl := wsF_len u.length u (Nat.le_refl _) [] false
  have t37 : RUN E 37 [.str u] = _ := r37 u (by omega)
  rw [round17a, dec_f (by omega), show (some (3 : Int)) = some ((3 : Nat) : Int) from rfl, cutOk_lo (by omega), cut_lo, hd, t37]
  simp only [opt_s, List.getD_cons_zero, tL, cond_true, cond_false]
  rw [ws_eq] at hwl ⊢
  unfold lineOf
  generalize (fw false u).1 = nm at *
  generalize wsO (fw false u).2 = ws at *
  have hnm := hwl.2 nm List.mem_cons_self
  simp only [List.length_cons, List.length_nil] at hwl hnm
  simp only [List.map_cons]
  rw [show inb 0 (D.str nm :: ws.map D.str).length = true from inb_nat (i := 0) (by simp)]
  have t38 : RUN E 38 [.str nm] = _ := r38 nm (by omega)
  simp only [List.getD_cons_zero, tS, cond_true]
  rw [t38]
  simp only [opt_s, List.getD_cons_zero, tB]
  cases hc : cn nm with
  | false => rfl
  | true =>
    rw [show (some (1 : Int)) = some ((1 : Nat) : Int) from rfl, cutOk_lo (show 1 ≤ (D.str nm :: ws.map D.str).length by simp), cut_lo]
    simp only [cond_true, cond_false, List.drop_succ_cons, List.drop_zero]
    have := words_all ws (fun t ht => by have := hwl.2 t (List.mem_cons_of_mem _ ht); omega) nm (isEnd z) (by omega) ws.length 0 (by omega) [] (by simp)
    rw [List.drop_zero] at this
    simp only [List.nil_append] at this
    exact this
/-- The program, behind its beginning, where the text ends well. -/
theorem c16_line {z : List UInt8} (hz : Z z) (u : List UInt8) (hu : (u ++ z).length ≤ 20000) :
    opt (RUN E 33 [rd (u ++ z) false]) (fun ρ => L16a [] [] false (D.toStr (D.cell (List.getD ρ 1 D.no) 0)) (D.toBool (D.cell (List.getD ρ 1 D.no) 1)) [] (D.toStr (List.getD ρ 0 D.no)) false [] []) = lineOf u z := by
  obtain ⟨v, t, rfl, hv, ht⟩ := pl_split nmB u
  have hZ : ∀ d t', t ++ z = d :: t' → nmB d = false := by
    intro d t' h
    cases t with
    | nil => obtain ⟨z', rfl⟩ := Z_head hz; simp at h; rw [← h.1]; decide
    | cons a b => simp at h; rw [← h.1]; exact ht a b rfl
  have tw := (tw_app nmB hv hZ).1
  have dw := (tw_app nmB hv hZ).2
  rw [← List.append_assoc] at tw dw
  rw [r33 _ (by omega) false, tw, dw]
  simp only [opt_s, List.getD_cons_zero, List.getD_cons_succ, tS]
  show L16a [] [] false (t ++ z) (bif decide ((v.length : Int) < 1) || decide (20 < (v.length : Int)) then true else false) [] v false [] [] = _
  rw [bif_id]
  simp only [List.length_append] at hu
  have nm_fw : ∀ (v t : List UInt8), v.all nmB = true → fw false (v ++ t) = (v ++ (fw false t).1, (fw false t).2) := by
    intro v
    induction v with
    | nil => intro t _; rfl
    | cons c r ih =>
      intro t h
      simp only [List.all_cons, Bool.and_eq_true] at h
      have hf := nm_facts c; rw [h.1] at hf; simp at hf
      rw [List.cons_append, fw_no hf.1 hf.2, ih t h.2]; rfl
  unfold lineOf
  rw [nm_fw v t hv]
  have whole : ∀ o : Option (List UInt8), t ++ z = yo z o → L16a [] [] false (t ++ z) (decide ((v.length : Int) < 1) || decide (20 < (v.length : Int))) [] v false [] [] =
      bif cn v then (match refAll (wsO o) with | none => BAD | some l => fin v l (isEnd z)) else BAD := by
    intro o ho
    unfold cn
    cases hc : decide ((v.length : Int) < 1) || decide (20 < (v.length : Int)) with
    | true => rw [l16_bad]; rfl
    | false =>
      have hlo := congrArg List.length ho
      rw [List.length_append] at hlo
      rw [ho, l16_all hz v (yo z o).length o (Nat.le_refl _) (by omega) [] (by simp; omega), hv]; rfl
  cases t with
  | nil =>
    rw [show fw false [] = ([], none) from rfl, List.append_nil]
    exact whole none rfl
  | cons d t1 =>
    cases hd : sp d with
    | true =>
      have := sp_eq hd; subst this
      rw [fw_sp hd, List.append_nil]
      exact whole (some t1) rfl
    | false =>
      obtain ⟨w3, e3⟩ := fw_cons hd t1
      have hcn : cn (v ++ (fw false (d :: t1)).1) = false := by
        rw [e3]
        unfold cn
        rw [List.all_append, List.all_cons, ht d t1 rfl]
        cases decide (((v ++ d :: w3).length : Int) < 1) || decide (20 < ((v ++ d :: w3).length : Int)) <;> simp
      simp only [hcn, cond_false]
      simp only [List.length_append, List.length_cons] at hu
      cases decide ((v.length : Int) < 1) || decide (20 < (v.length : Int)) with
      | true => exact l16_bad _ _ _
      | false => exact l16_stuck _ _ _ (by simp; omega) (Z_not hd) (by rw [List.cons_append, pre32]; exact hd)
theorem c16_no (t : List UInt8) (ht : t.length ≤ 20000) (hz : ∀ a z, t = a ++ z → ¬ Z z) :
    opt (RUN E 33 [rd t false]) (fun ρ => L16a [] [] false (D.toStr (D.cell (List.getD ρ 1 D.no) 0)) (D.toBool (D.cell (List.getD ρ 1 D.no) 1)) [] (D.toStr (List.getD ρ 0 D.no)) false [] []) = BAD := by
  rw [r33 _ (by omega) false]
  simp only [opt_s, List.getD_cons_zero, List.getD_cons_succ, tS]
  have hl := dw_le nmB t
  refine l16_no _ (t.dropWhile nmB).length _ (Nat.le_refl _) (by omega) ?_ _ _ (by simp; omega)
  intro a z e
  obtain ⟨x, hx⟩ := dw_suf nmB t
  exact hz (x ++ a) z (by rw [List.append_assoc, ← e, ← hx])
end lines
end Go.Proofs.Ytbinmfenhbpdnaa.pl

namespace Go.Proofs.Ytbinmfenhbpdnaa.pl
open Go.Proofs.Ytbinmfenhbpdnaa.DS
namespace lines

theorem eqD_self (k : KT) (hk : plainK k = true) (d : D) : eqD k d d = true := by cases k with | bool => simp [eqD] | int _ => simp [eqD] | str => simp [eqD] | _ => cases hk
/-- A part without parts within is the same as itself. -/
theorem same_part (tx nm : List UInt8) (l : List D) (b : Bool) (hl : l.length ≤ 1048576) :
    RUN E 18 [.list [.agg [.str tx, .str nm, .list l, .bool b, .list []]], .list [.agg [.str tx, .str nm, .list l, .bool b, .list []]]] = some [.bool true] := by
  have e18 : RUN E 18 [.list [], .list []] = some [.bool true] := by
    rw [enter18]
    show L18a [] [] 0 0 = _
    rw [round18a]; rfl
  have a1 : ∀ p : D, L18a [p] [p] 1 1 = some [.bool true] := by intro p; rw [round18a]; rfl
  have lb : ∀ (p : D), D.toList (D.cell p 2) = l → ∀ n i : Nat, i + n = l.length → L18b [p] [p] 1 0 (l.length : Int) (i : Int) p p = some [.bool true] := by
    intro p hp n
    induction n with
    | zero =>
      intro i hi
      rw [round18b, dec_f (by omega), cond_false]
      exact a1 p
    | succ n ih =>
      intro i hi
      rw [round18b, dec_t (by omega), hp, inb_nat (show i < l.length by omega), nxt (by omega), ih (i + 1) (by omega), eqD_self _ rfl, eqD_self _ rfl]; rfl
  rw [enter18]
  show L18a _ _ 1 0 = _
  rw [round18a]
  simp only [show decide ((0 : Int) < 1) = true from rfl, cond_true]
  rw [show inb 0 ([D.agg [.str tx, .str nm, .list l, .bool b, .list []]] : List D).length = true from rfl]
  simp only [show Int.toNat 0 = 0 from rfl, List.getD_cons_zero, cond_true]
  rw [show D.toList (D.cell (D.agg [.str tx, .str nm, .list l, .bool b, .list []]) 4) = [] from rfl, e18]
  rw [show D.toList (D.cell (D.agg [.str tx, .str nm, .list l, .bool b, .list []]) 2) = l from rfl]
  simp only [decide_true, beq_self_eq_true, cond_true, cond_false, opt_s, List.getD_cons_zero, tB]
  exact lb _ rfl l.length 0 (Nat.zero_add _)
/-- What is answered: a part like this one. -/
def Good (r : List D) : Prop := ∃ tx nm l b e, l.length ≤ 1048576 ∧ r = [.agg [.str tx, .str nm, .list l, .bool b, .list []], .int e]
theorem good_no (e : Int) : Good [noPart, .int e] := ⟨[], [], [], false, e, by simp, rfl⟩
theorem refAll_len : ∀ (ws : List (List UInt8)) (l : List D), refAll ws = some l → l.length = ws.length := by
  intro ws
  induction ws with
  | nil => intro l h; simp [refAll] at h; subst h; rfl
  | cons t r ih =>
    intro l h
    simp only [refAll] at h
    cases ht : refArg t with
    | none => rw [ht] at h; simp at h
    | some x =>
      rw [ht] at h
      simp only [Option.map_eq_some_iff] at h
      obtain ⟨y, hy, rfl⟩ := h
      simp [ih y hy]
theorem line_good (u z : List UInt8) (hu : u.length ≤ 20000) : ∃ r, lineOf u z = some r ∧ Good r := by
  unfold lineOf
  cases cn (fw false u).1 with
  | false => exact ⟨_, rfl, good_no 8⟩
  | true =>
    simp only [cond_true]
    cases h : refAll (wsO (fw false u).2) with
    | none => exact ⟨_, rfl, good_no 8⟩
    | some l =>
      have hl := refAll_len _ _ h
      have hw := (wsF_len u.length u (Nat.le_refl _) [] false).1
      rw [ws_eq] at hw
      simp only [List.length_cons] at hw
      simp only []
      unfold fin
      obtain ⟨e, _, h2⟩ := lines.args l (by omega)
      rw [h2]
      simp only [opt_s, List.getD_cons_zero, tI]
      cases decide ((bif decide (12 < (l.length : Int)) then 4 else e) = 0) with
      | true => exact ⟨_, rfl, [], _, l, isEnd z, 0, by omega, rfl⟩
      | false => exact ⟨_, rfl, good_no _⟩
theorem suf_split {s p : List UInt8} (h : hasSuf s p = true) : ∃ a, s = a ++ p := by
  unfold hasSuf at h
  simp only [Bool.and_eq_true, decide_eq_true_eq] at h
  exact ⟨s.take (s.length - p.length), by conv => lhs; rw [← List.take_append_drop (s.length - p.length) s, h.2]⟩
theorem suf_app (a p : List UInt8) : hasSuf (a ++ p) p = true := by
  unfold hasSuf
  rw [dec_t (by simp), dec_t (by simp)]; rfl
theorem pre_split {s p : List UInt8} (h : hasPre s p = true) : ∃ a, s = p ++ a := by
  unfold hasPre at h
  simp only [Bool.and_eq_true, decide_eq_true_eq] at h
  exact ⟨s.drop p.length, by conv => lhs; rw [← List.take_append_drop p.length s, h.2]⟩
theorem pre_app (a p : List UInt8) : hasPre (p ++ a) p = true := by
  unfold hasPre
  rw [dec_t (by simp), dec_t (by simp)]; rfl
def z3 : List UInt8 := [32, 62, 125]
def z4 : List UInt8 := [32, 47, 62, 125]
theorem z_both (a b : List UInt8) : a ++ z3 ≠ b ++ z4 := by
  intro e
  have := congrArg List.reverse e
  rw [List.reverse_append, List.reverse_append] at this
  simp [z3, z4] at this
/-- Behind the beginning the program and the reference answer alike. -/
theorem both (t : List UInt8) (ht : t.length + 3 ≤ 20000) (hno : hasPre ([123, 60, 32] ++ t) [123, 60, 32, 47] = false) : ∃ r, Good r ∧
    opt (RUN E 33 [rd t false]) (fun ρ => L16a [] [] false (D.toStr (D.cell (List.getD ρ 1 D.no) 0)) (D.toBool (D.cell (List.getD ρ 1 D.no) 1)) [] (D.toStr (List.getD ρ 0 D.no)) false [] []) = some r ∧
    cond (hasSuf ([123, 60, 32] ++ t) z4) (C17a (([123, 60, 32] ++ t).take (([123, 60, 32] ++ t).length - 4)) [] [] false [] [] false [] [])
      (cond (hasSuf ([123, 60, 32] ++ t) z3) (C17a (([123, 60, 32] ++ t).take (([123, 60, 32] ++ t).length - 3)) [] [] false [] [] true [] []) BAD) = some r := by
  have hlen : ([123, 60, 32] ++ t).length = t.length + 3 := by simp
  have bad : (∀ a z, t = a ++ z → ¬ Z z) → opt (RUN E 33 [rd t false]) (fun ρ => L16a [] [] false (D.toStr (D.cell (List.getD ρ 1 D.no) 0)) (D.toBool (D.cell (List.getD ρ 1 D.no) 1)) [] (D.toStr (List.getD ρ 0 D.no)) false [] []) = BAD := fun h => c16_no t (by omega) h
  by_cases hz : ∃ a z, t = a ++ z ∧ Z z
  · obtain ⟨u, z, rfl, hz⟩ := hz
    have hu : u.length ≤ 20000 := by simp at ht; omega
    obtain ⟨r, hr, hg⟩ := line_good u z hu
    refine ⟨r, hg, ?_, ?_⟩
    · rw [c16_line hz u (by omega)]; exact hr
    · rw [← hr]
      rcases hz with rfl | rfl
      · have e4 : hasSuf ([123, 60, 32] ++ (u ++ [32, 62, 125])) z4 = false := by
          rw [← Bool.not_eq_true]
          intro h
          obtain ⟨a, e⟩ := suf_split h
          exact z_both ([123, 60, 32] ++ u) a (by rw [← e]; simp [z3])
        have e3 : hasSuf ([123, 60, 32] ++ (u ++ [32, 62, 125])) z3 = true := by rw [← List.append_assoc]; exact suf_app _ z3
        have tk : ([123, 60, 32] ++ (u ++ [32, 62, 125])).take (([123, 60, 32] ++ (u ++ [32, 62, 125])).length - 3) = [123, 60, 32] ++ u := by
          rw [← List.append_assoc, List.take_append_of_le_length (by simp), List.take_of_length_le (by simp)]
        rw [e4, e3, tk]
        exact c17 [123, 60, 32] u [32, 62, 125] rfl hu
      · have e4 : hasSuf ([123, 60, 32] ++ (u ++ [32, 47, 62, 125])) z4 = true := by rw [← List.append_assoc]; exact suf_app _ z4
        have tk : ([123, 60, 32] ++ (u ++ [32, 47, 62, 125])).take (([123, 60, 32] ++ (u ++ [32, 47, 62, 125])).length - 4) = [123, 60, 32] ++ u := by
          rw [← List.append_assoc, List.take_append_of_le_length (by simp), List.take_of_length_le (by simp)]
        rw [e4, tk]
        exact c17 [123, 60, 32] u [32, 47, 62, 125] rfl hu
  · have hz' : ∀ a z, t = a ++ z → ¬ Z z := fun a z e h => hz ⟨a, z, e, h⟩
    refine ⟨[noPart, .int 8], good_no 8, bad hz', ?_⟩
    have short : ∀ (k : Nat) (b : Bool), (([123, 60, 32] ++ t).take k).length < 3 → C17a (([123, 60, 32] ++ t).take k) [] [] false [] [] b [] [] = BAD := by
      intro k b h
      rw [round17a, dec_t (by omega)]; rfl
    cases h4 : hasSuf ([123, 60, 32] ++ t) z4 with
    | true =>
      obtain ⟨a, e⟩ := suf_split h4
      apply short
      rw [List.length_take, hlen]
      by_cases h : 4 ≤ t.length
      · exfalso
        refine hz' (t.take (t.length - 4)) z4 ?_ (.inr rfl)
        have := congrArg (List.drop (a.length)) e
        rw [List.drop_left] at this
        have la := congrArg List.length e
        rw [hlen, List.length_append] at la
        have hz4 : z4.length = 4 := rfl
        have d : ([123, 60, 32] ++ t).drop a.length = t.drop (t.length - 4) := by
          rw [List.drop_append, show ([123, 60, 32] : List UInt8).drop a.length = [] from List.drop_eq_nil_of_le (by simp; omega), List.nil_append]
          congr 1; simp; omega
        rw [← this, d, List.take_append_drop]
      · omega
    | false =>
      simp only [cond_false]
      cases h3 : hasSuf ([123, 60, 32] ++ t) z3 with
      | true =>
        obtain ⟨a, e⟩ := suf_split h3
        apply short
        rw [List.length_take, hlen]
        by_cases h : 3 ≤ t.length
        · exfalso
          refine hz' (t.take (t.length - 3)) z3 ?_ (.inl rfl)
          have := congrArg (List.drop (a.length)) e
          rw [List.drop_left] at this
          have la := congrArg List.length e
          rw [hlen, List.length_append] at la
          have hz3 : z3.length = 3 := rfl
          have d : ([123, 60, 32] ++ t).drop a.length = t.drop (t.length - 3) := by
            rw [List.drop_append, show ([123, 60, 32] : List UInt8).drop a.length = [] from List.drop_eq_nil_of_le (by simp; omega), List.nil_append]
            congr 1; simp; omega
          rw [← this, d, List.take_append_drop]
        · omega
      | false => rfl
theorem lawS (s : List UInt8) : RUN E 5 [.str s] = some [.bool true] := by
  rw [enter5]
  by_cases hl : 20000 < (s.length : Int)
  · rw [dec_t hl]; rfl
  · rw [dec_f hl]
    have t1 : RUN E 32 [.str s, .str [123, 60, 32]] = _ := r32 s [123, 60, 32] (by omega) (by simp)
    have t2 : RUN E 32 [.str s, .str [123, 60, 32, 47]] = _ := r32 s [123, 60, 32, 47] (by omega) (by simp)
    have goal : ∃ r, Good r ∧ RUN E 16 [.str s] = some r ∧ RUN E 17 [.str s] = some r := by
      rw [enter16, enter17, t1, t2]
      simp only [opt_s, List.getD_cons_zero, tB]
      cases h1 : hasPre s [123, 60, 32] with
      | false => exact ⟨_, good_no 7, rfl, rfl⟩
      | true =>
        cases h2 : hasPre s [123, 60, 32, 47] with
        | true => exact ⟨_, good_no 7, rfl, rfl⟩
        | false =>
          obtain ⟨t, rfl⟩ := pre_split h1
          have hlen : ([123, 60, 32] ++ t).length = t.length + 3 := by simp
          obtain ⟨r, hg, ha, hb⟩ := both t (by omega) h2
          refine ⟨r, hg, ?_, ?_⟩
          · simp only [cond_true, cond_false, opt_s, List.getD_cons_zero, tB]
            rw [show (some (3 : Int)) = some ((3 : Nat) : Int) from rfl, cutOk_lo (by omega), cut_lo, show List.drop 3 ([123, 60, 32] ++ t) = t from rfl]
            exact ha
          · have u4 : RUN E 27 [.str ([123, 60, 32] ++ t), .str [32, 47, 62, 125]] = _ := r27 ([123, 60, 32] ++ t) [32, 47, 62, 125] (by omega) (by simp)
            have u3 : RUN E 27 [.str ([123, 60, 32] ++ t), .str [32, 62, 125]] = _ := r27 ([123, 60, 32] ++ t) [32, 62, 125] (by omega) (by simp)
            rw [u4, u3]
            simp only [cond_true, cond_false, opt_s, List.getD_cons_zero, tB]
            rw [← hb]
            cases h4 : hasSuf ([123, 60, 32] ++ t) [32, 47, 62, 125] with
            | true =>
              have hle : 4 ≤ ([123, 60, 32] ++ t).length := by
                obtain ⟨a, e⟩ := suf_split h4
                rw [e]; simp
              have w : IntKind.wrap IntKind.i64 ((([123, 60, 32] ++ t).length : Int) - 4) = ((([123, 60, 32] ++ t).length - 4 : Nat) : Int) := by rw [wrap_id (by omega) (by omega)]; omega
              rw [w, cutOk_hi (by omega), cut_hi, show hasSuf ([123, 60, 32] ++ t) z4 = true from h4]; rfl
            | false =>
              rw [show hasSuf ([123, 60, 32] ++ t) z4 = false from h4]
              cases h3 : hasSuf ([123, 60, 32] ++ t) [32, 62, 125] with
              | true =>
                have hle : 3 ≤ ([123, 60, 32] ++ t).length := by omega
                have w : IntKind.wrap IntKind.i64 ((([123, 60, 32] ++ t).length : Int) - 3) = ((([123, 60, 32] ++ t).length - 3 : Nat) : Int) := by rw [wrap_id (by omega) (by omega)]; omega
                rw [w, cutOk_hi (by omega), cut_hi, show hasSuf ([123, 60, 32] ++ t) z3 = true from h3]; rfl
              | false => rw [show hasSuf ([123, 60, 32] ++ t) z3 = false from h3]; rfl
    obtain ⟨r, ⟨tx, nm, l, b, e, hll, rfl⟩, h16, h17⟩ := goal
    rw [h16, h17]
    simp only [cond_false, opt_s, List.getD_cons_zero, List.getD_cons_succ, tI, decide_true, cond_true]
    rw [same_part tx nm l b hll]; rfl
theorem law {M : Mem} {v : Value} {t : List UInt8} (_ : Rep E.tt M .str v (.str t)) : RUN E 5 [.str t] = some [.bool true] := lawS t
end lines
end Go.Proofs.Ytbinmfenhbpdnaa.pl
