import Derived.Test.YtjofkhdnidjleabDoorDxQuotE
import Derived.Lib.LaidTab
import Derived.MakeChecks
set_option linter.unusedVariables false
set_option linter.unusedSimpArgs false
namespace Go.Proofs.YtjofkhdnidjleabDoor.qt
open Go.Proofs.YtjofkhdnidjleabDoor.DS
namespace quot

/-! ### Rows of values -/
def ci (i : Nat) : List UInt8 := bif decide (0 < (i : Int)) then [44] else []
def cm (i : Nat) : List (List UInt8) → List UInt8
  | [] => []
  | p :: r => ci i ++ p ++ Lib.joinTail [44] r
theorem cm_zero (ps : List (List UInt8)) : cm 0 ps = Lib.join ps [44] := by
  cases ps with
  | nil => rfl
  | cons p r => rw [Lib.join_cons]; rfl
theorem cm_succ (i : Nat) (ps : List (List UInt8)) : cm (i + 1) ps = Lib.joinTail [44] ps := by
  cases ps with
  | nil => rfl
  | cons p r =>
    unfold cm ci
    rw [dec_t (by omega)]
    simp [Lib.joinTail]
def keyAt (v : D) (i : Nat) : List UInt8 := bif decide ((i : Int) < ((ks v).length : Int)) then D.toStr ((ks v).getD i .no) else []
def pre (v : D) (i : Nat) : List UInt8 := bif decide (D.toInt (D.cell v 0) = 6) then qs (keyAt v i) ++ [58] else []
/-- What a value costs. -/
def cost (v : D) (i : Nat) : Nat := 64 * dmass.dmAll ((it v).drop i) + 8 * dmass.dmAll ((ks v).drop i)
theorem getD_mem {l : List D} {i : Nat} (h : i < l.length) : l.getD i .no ∈ l := by rw [List.getD_eq_getElem?_getD, List.getElem?_eq_getElem h]; exact List.getElem_mem h
theorem pre_len (v : D) (i : Nat) : (pre v i).length ≤ 6 * (keyAt v i).length + 3 := by
  unfold pre
  have := qs_len (keyAt v i)
  cases decide (D.toInt (D.cell v 0) = 6) <;> simp <;> omega
theorem cost_step (v : D) {i : Nat} (hi : i < (it v).length) : 64 * dmass ((it v).getD i .no) + 8 * (keyAt v i).length + cost v (i + 1) ≤ cost v i := by
  unfold cost keyAt
  rw [drop_cons D.no hi]
  simp only [dmass.dmAll]
  by_cases hk : i < (ks v).length
  · rw [drop_cons D.no hk, dec_t (by omega)]
    have := toStr_le ((ks v).getD i .no)
    simp only [dmass.dmAll, cond_true]
    omega
  · rw [dec_f (by omega), List.drop_eq_nil_of_le (show (ks v).length ≤ i by omega), List.drop_eq_nil_of_le (show (ks v).length ≤ i + 1 by omega)]
    simp only [cond_false, List.length_nil]
    omega
theorem key_len (v : D) (i : Nat) : (keyAt v i).length ≤ dmass.dmAll (ks v) := by
  unfold keyAt
  cases decide ((i : Int) < ((ks v).length : Int)) with
  | true => exact Nat.le_trans (toStr_le _) (mass_getD _ _)
  | false => exact Nat.zero_le _

section
variable (v : D) (hmv : dmass v ≤ 1048576) (hks : dmass.dmAll (ks v) ≤ 1048576)
/-- The program: up to the call. -/
theorem step35 (dp : Int) (sg : List UInt8) (hks : dmass.dmAll (ks v) ≤ 1048576) {i : Nat} (hi : i < (it v).length) (hil : (it v).length ≤ 1048576) {o : List D} (ho : o.length ≤ 17179869100) :
    L35c dp sg (it v) ((it v).length : Int) (i : Int) o v = C35e dp sg (it v) ((it v).length : Int) (i : Int) (o ++ bytesD (ci i ++ pre v i)) v ((it v).getD i .no) := by
  have hkl := key_len v i
  have hd : ∀ o : List D, o.length ≤ 17179869101 → C35d dp sg (i : Int) (it v) ((it v).length : Int) (i : Int) o v ((it v).getD i .no) = C35e dp sg (it v) ((it v).length : Int) (i : Int) (o ++ bytesD (pre v i)) v ((it v).getD i .no) := by
    intro o ho
    have hql := qs_len (keyAt v i)
    have q : RUN E 53 [.list o, .str (keyAt v i)] = some [.list (o ++ bytesD (qs (keyAt v i)))] := r53 o (keyAt v i) (by omega) (by omega)
    rw [round35d]
    unfold pre keyAt at *
    cases hb : decide (D.toInt (D.cell v 0) = 6) with
    | false => simp only [cond_false]; rw [show bytesD [] = [] from rfl, List.append_nil]
    | true =>
      simp only [cond_true]
      by_cases hk : i < (ks v).length
      · rw [dec_t (show (i : Int) < ((ks v).length : Int) by omega)] at q hql hkl ⊢
        rw [dec_t (show (i : Int) < ((D.toList (D.cell v 5)).length : Int) from by have : (ks v).length = (D.toList (D.cell v 5)).length := rfl; omega), inb_nat (show i < (D.toList (D.cell v 5)).length from hk), Int.toNat_natCast]
        simp only [cond_true] at q hql hkl ⊢
        rw [show RUN E 53 [.list o, .str (D.toStr ((D.toList (D.cell v 5)).getD i .no))] = _ from q]
        simp only [opt_s, List.getD_cons_zero, tL]
        rw [fit_t (by rw [List.length_append, bytesD_len]; simp only [List.length_singleton]; omega), cond_true, bytesD_append, List.append_assoc]; rfl
      · rw [dec_f (show ¬ (i : Int) < ((ks v).length : Int) by omega)] at q hql hkl ⊢
        rw [dec_f (show ¬ (i : Int) < ((D.toList (D.cell v 5)).length : Int) from by have : (ks v).length = (D.toList (D.cell v 5)).length := rfl; omega)]
        simp only [cond_false] at q hql hkl ⊢
        rw [q]
        simp only [opt_s, List.getD_cons_zero, tL]
        rw [fit_t (by rw [List.length_append, bytesD_len]; simp only [List.length_singleton]; omega), cond_true, bytesD_append, List.append_assoc]; rfl
  rw [round35c, dec_t (by omega), inb_nat hi, Int.toNat_natCast]
  unfold ci
  cases hb : decide (0 < (i : Int)) with
  | true =>
    simp only [cond_true]
    rw [fit_t (by simp; omega), cond_true, hd _ (by simp; omega), bytesD_append, ← List.append_assoc]; rfl
  | false =>
    simp only [cond_true, cond_false]
    rw [hd _ (by omega), List.nil_append]
/-- The reference: the row's next part. -/
theorem step15 (dp : Int) (hks : dmass.dmAll (ks v) ≤ 1048576) {i : Nat} (hi : i < (it v).length) (hil : (it v).length ≤ 1048576) (parts : List D) (hp : parts.length ≤ 1048576) {s : List UInt8} (hs : s.length ≤ 134217728)
    (hr : RUN E 15 [(it v).getD i .no, .int (IntKind.wrap .i64 (dp + 1))] = some [.str s, .int 0]) :
    L15b dp (it v) ((it v).length : Int) (i : Int) parts v = L15b dp (it v) ((it v).length : Int) ((i + 1 : Nat) : Int) (parts ++ [.str (pre v i ++ s)]) v := by
  have hkl := key_len v i
  have hql := qs_len (keyAt v i)
  have q : RUN E 37 [.str (keyAt v i)] = some [.str (qs (keyAt v i))] := r37 (keyAt v i) (by omega)
  rw [round15b, dec_t (by omega), inb_nat hi, Int.toNat_natCast, nxt (by omega), hr]
  simp only [opt_s, List.getD_cons_zero, List.getD_cons_succ, tI, tS, cond_true]
  simp only [decide_true, cond_true, cond_false]
  unfold pre keyAt at *
  cases hb : decide (D.toInt (D.cell v 0) = 6) with
  | false => simp only [cond_false]; rw [fit_t (by simp; omega), cond_true, List.nil_append]
  | true =>
    simp only [cond_true]
    by_cases hk : i < (ks v).length
    · rw [dec_t (show (i : Int) < ((ks v).length : Int) by omega)] at q hql hkl ⊢
      rw [dec_t (show (i : Int) < ((D.toList (D.cell v 5)).length : Int) from by have : (ks v).length = (D.toList (D.cell v 5)).length := rfl; omega), inb_nat (show i < (D.toList (D.cell v 5)).length from hk)]
      simp only [cond_true] at q hql hkl ⊢
      rw [show RUN E 37 [.str (D.toStr ((D.toList (D.cell v 5)).getD i .no))] = _ from q]
      simp only [opt_s, List.getD_cons_zero, tS]
      rw [lim_t (by simp only [List.length_singleton]; omega), cond_true, lim_t (by simp only [List.length_append, List.length_singleton]; omega), cond_true, fit_t (by simp; omega), cond_true]
    · rw [dec_f (show ¬ (i : Int) < ((ks v).length : Int) by omega)] at q hql hkl ⊢
      rw [dec_f (show ¬ (i : Int) < ((D.toList (D.cell v 5)).length : Int) from by have : (ks v).length = (D.toList (D.cell v 5)).length := rfl; omega)]
      simp only [cond_false] at q hql hkl ⊢
      rw [q]
      simp only [opt_s, List.getD_cons_zero, tS]
      rw [lim_t (by simp only [List.length_singleton]; omega), cond_true, lim_t (by simp only [List.length_append, List.length_singleton]; omega), cond_true, fit_t (by simp; omega), cond_true]
end

/-- What is shown of a value, with k levels to go: both write the same. -/
def Good (k : Nat) (v : D) : Prop := ∃ s e, RUN E 15 [v, .int ((13 - k : Nat) : Int)] = some [.str s, .int e] ∧ s.length + 4 ≤ 64 * dmass v ∧ (e ≠ 0 → s = []) ∧
  ∀ o : List D, o.length + 64 * dmass v ≤ 8589934592 → ∃ o', RUN E 35 [.list o, v, .int ((12 - k : Nat) : Int)] = some [.list o', .int e] ∧ (e = 0 → o' = o ++ bytesD s) ∧ o'.length + 4 ≤ o.length + 64 * dmass v

theorem rows {k : Nat} (hk : k + 1 ≤ 12) {v : D} (hm : dmass v ≤ 1048576) (hiv : dmass.dmAll (it v) ≤ 1048576) (hks : dmass.dmAll (ks v) ≤ 1048576) (hil : (it v).length ≤ 1048576) (hG : ∀ x ∈ it v, Good k x) (sg : List UInt8) (hsg : sg.length = 2) :
    ∀ n i : Nat, i + n = (it v).length → ∃ (ps : List (List UInt8)) (e : Int),
      (∀ parts : List D, parts.length ≤ i → L15b ((13 - (k + 1) : Nat) : Int) (it v) ((it v).length : Int) (i : Int) parts v = cond (decide (e = 0)) (L15b ((13 - (k + 1) : Nat) : Int) (it v) ((it v).length : Int) ((it v).length : Int) (parts ++ ps.map .str) v) (some [.str [], .int e])) ∧
      ps.length ≤ n ∧
      ∀ o : List D, o.length + cost v i ≤ 8589934588 → ∃ o', L35c ((12 - (k + 1) : Nat) : Int) sg (it v) ((it v).length : Int) (i : Int) o v = some [.list o', .int e] ∧ (e = 0 → o' = o ++ bytesD (cm i ps ++ [sg.getD 1 0])) ∧ o'.length ≤ o.length + cost v i + 1 := by
  intro n
  induction n with
  | zero =>
    intro i hi
    have : i = (it v).length := by omega
    subst this
    refine ⟨[], 0, fun parts _ => by simp, Nat.le_refl _, fun o ho => ⟨o ++ [.int ((sg.getD 1 0).toNat : Int)], ?_, fun _ => rfl, by simp⟩⟩
    rw [round35c, dec_f (by omega), cond_false, show inb 1 sg.length = true from inb_nat (i := 1) (by omega), cond_true, fit_t (by simp; omega), cond_true]
  | succ n ih =>
    intro i hi
    have hil2 : i < (it v).length := by omega
    have hxm := Nat.le_trans (mass_getD (it v) i) hiv
    have hcs := cost_step v hil2
    have hpl := pre_len v i
    obtain ⟨s, e, h15, hsl, -, h35⟩ := hG _ (getD_mem hil2)
    have w15 : IntKind.wrap IntKind.i64 (((13 - (k + 1) : Nat) : Int) + 1) = ((13 - k : Nat) : Int) := by rw [wrap_id (by omega) (by omega)]; omega
    have w35 : IntKind.wrap IntKind.i64 (((12 - (k + 1) : Nat) : Int) + 1) = ((12 - k : Nat) : Int) := by rw [wrap_id (by omega) (by omega)]; omega
    have hcl : (ci i).length ≤ 1 := by unfold ci; cases decide (0 < (i : Int)) <;> simp
    by_cases he : e = 0
    · subst he
      obtain ⟨ps, e', q15, hpl2, q35⟩ := ih (i + 1) (by omega)
      refine ⟨(pre v i ++ s) :: ps, e', ?_, by simp; omega, ?_⟩
      · intro parts hp
        rw [step15 v _ hks hil2 hil parts (by omega) (s := s) (by omega) (by rw [w15]; exact h15), q15 _ (by simp; omega)]
        simp
      · intro o ho
        rw [step35 v _ sg hks hil2 hil (by omega), round35e, w35]
        obtain ⟨o1, r35, ho1, hol⟩ := h35 (o ++ bytesD (ci i ++ pre v i)) (by rw [List.length_append, bytesD_len, List.length_append]; omega)
        rw [r35]
        simp only [opt_s, List.getD_cons_zero, List.getD_cons_succ, tI, tL]
        simp only [decide_true, cond_true, cond_false]
        rw [nxt (by omega)]
        rw [List.length_append, bytesD_len, List.length_append] at hol
        obtain ⟨o2, r2, h2, hl2⟩ := q35 o1 (by omega)
        refine ⟨o2, r2, fun h => ?_, by omega⟩
        rw [h2 h, ho1 rfl, cm_succ]
        simp only [cm, bytesD_append, List.append_assoc]
    · refine ⟨[], e, ?_, Nat.zero_le _, ?_⟩
      · intro parts hp
        rw [round15b, dec_t (by omega), inb_nat hil2, Int.toNat_natCast, w15, h15]
        simp only [opt_s, List.getD_cons_zero, List.getD_cons_succ, tI, cond_true]
        rw [dec_f he]; rfl
      · intro o ho
        rw [step35 v _ sg hks hil2 hil (by omega), round35e, w35]
        obtain ⟨o1, r35, ho1, hol⟩ := h35 (o ++ bytesD (ci i ++ pre v i)) (by rw [List.length_append, bytesD_len, List.length_append]; omega)
        rw [r35]
        simp only [opt_s, List.getD_cons_zero, List.getD_cons_succ, tI, tL]
        rw [dec_f he, cond_false, cond_true]
        rw [List.length_append, bytesD_len, List.length_append] at hol
        exact ⟨o1, rfl, fun h => absurd h he, by omega⟩
/-- A list or a table. -/
theorem list_k {k : Nat} (hk : k ≤ 12) {v : D} (hm : dmass v ≤ 1048576) (hmv : dmass.dmAll (it v) + dmass.dmAll (ks v) + 6 ≤ dmass v) (hil : (it v).length ≤ 1048576) (hG : ∀ j, k = j + 1 → ∀ x ∈ it v, Good j x) :
    ∃ s e, C15a ((13 - k : Nat) : Int) v = some [.str s, .int e] ∧ s.length + 4 ≤ 64 * dmass v ∧ (e ≠ 0 → s = []) ∧
      ∀ o : List D, o.length + 64 * dmass v ≤ 8589934592 → ∃ o', C35a ((12 - k : Nat) : Int) o v = some [.list o', .int e] ∧ (e = 0 → o' = o ++ bytesD s) ∧ o'.length + 4 ≤ o.length + 64 * dmass v := by
  rw [round15a]
  cases k with
  | zero =>
    refine ⟨[], 13, by rw [dec_t (by omega)]; rfl, by simp only [List.length_nil]; omega, fun _ => rfl, fun o ho => ⟨o, ?_, (fun h => by cases h), by omega⟩⟩
    rw [round35a, dec_t (by omega)]; rfl
  | succ k =>
    rw [dec_f (by omega), cond_false]
    have hc0 : cost v 0 = 64 * dmass.dmAll (it v) + 8 * dmass.dmAll (ks v) := rfl
    have key : ∀ (sg : List UInt8), sg.length = 2 → (∀ ps : List (List UInt8), ps.length ≤ 1048576 → (Lib.join ps [44]).length ≤ 134217728 → L15b ((13 - (k + 1) : Nat) : Int) (it v) ((it v).length : Int) ((it v).length : Int) (ps.map .str) v = some [.str ([sg.getD 0 0] ++ Lib.join ps [44] ++ [sg.getD 1 0]), .int 0]) →
        (∀ o : List D, C35a ((12 - (k + 1) : Nat) : Int) o v = C35b ((12 - (k + 1) : Nat) : Int) sg o v) →
        ∃ s e, L15b ((13 - (k + 1) : Nat) : Int) (it v) ((it v).length : Int) 0 [] v = some [.str s, .int e] ∧ s.length + 4 ≤ 64 * dmass v ∧ (e ≠ 0 → s = []) ∧
          ∀ o : List D, o.length + 64 * dmass v ≤ 8589934592 → ∃ o', C35a ((12 - (k + 1) : Nat) : Int) o v = some [.list o', .int e] ∧ (e = 0 → o' = o ++ bytesD s) ∧ o'.length + 4 ≤ o.length + 64 * dmass v := by
      intro sg hsg hend h35a
      obtain ⟨ps, e, q15, hpl, q35⟩ := rows hk hm (by omega) (by omega) hil (hG k rfl) sg hsg _ 0 (Nat.zero_add _)
      have q := q15 [] (Nat.le_refl _)
      obtain ⟨o0, r0, h0, hl0⟩ := q35 [] (by rw [hc0]; simp only [List.length_nil]; omega)
      have run35 : ∀ o : List D, o.length + 64 * dmass v ≤ 8589934592 → ∃ o', C35a ((12 - (k + 1) : Nat) : Int) o v = some [.list o', .int e] ∧ (e = 0 → o' = o ++ [.int ((sg.getD 0 0).toNat : Int)] ++ bytesD (cm 0 ps ++ [sg.getD 1 0])) ∧ o'.length + 4 ≤ o.length + 64 * dmass v := by
        intro o ho
        obtain ⟨o1, r1, h1, hl1⟩ := q35 (o ++ [.int ((sg.getD 0 0).toNat : Int)]) (by rw [hc0]; simp only [List.length_append, List.length_singleton]; omega)
        refine ⟨o1, ?_, h1, by rw [hc0] at hl1; simp only [List.length_append, List.length_singleton] at hl1; omega⟩
        rw [h35a, round35b, show inb 0 sg.length = true from inb_nat (i := 0) (by omega), cond_true, fit_t (by simp only [List.length_singleton]; omega), cond_true]
        exact r1
      by_cases he : e = 0
      · subst he
        have hlen := hl0
        rw [h0 rfl, List.nil_append, bytesD_len, cm_zero, hc0] at hlen
        simp only [List.length_append, List.length_singleton, List.length_nil] at hlen
        rw [dec_t rfl, cond_true, List.nil_append, hend ps (by omega) (by omega)] at q
        refine ⟨_, 0, q, by simp only [List.length_append, List.length_singleton]; omega, fun h => absurd rfl h, fun o ho => ?_⟩
        obtain ⟨o', r, h, hl⟩ := run35 o ho
        refine ⟨o', r, fun _ => ?_, hl⟩
        rw [h rfl, cm_zero]
        simp only [bytesD_append, List.append_assoc]
        rfl
      · rw [dec_f he, cond_false] at q
        refine ⟨[], e, q, by simp only [List.length_nil]; omega, fun _ => rfl, fun o ho => ?_⟩
        obtain ⟨o', r, h, hl⟩ := run35 o ho
        exact ⟨o', r, fun h => absurd h he, hl⟩
    have h12 : ¬ ((12 - (k + 1) : Nat) : Int) = 12 := by omega
    cases hb : decide (D.toInt (D.cell v 0) = 6) with
    | true =>
      refine key [123, 125] rfl (fun ps h1 h2 => ?_) (fun o => by rw [round35a, dec_f h12, hb]; rfl)
      rw [round15b, dec_f (by omega), cond_false, hb, cond_true, r38 ps [44] h1 (by omega)]
      simp only [opt_s, List.getD_cons_zero, tS]
      rw [lim_t (by simp only [List.length_singleton]; omega), cond_true, lim_t (by simp only [List.length_append, List.length_singleton]; omega), cond_true]; rfl
    | false =>
      refine key [91, 93] rfl (fun ps h1 h2 => ?_) (fun o => by rw [round35a, dec_f h12, hb]; rfl)
      rw [round15b, dec_f (by omega), cond_false, hb, cond_false, r38 ps [44] h1 (by omega)]
      simp only [opt_s, List.getD_cons_zero, tS]
      rw [lim_t (by simp only [List.length_singleton]; omega), cond_true, lim_t (by simp only [List.length_append, List.length_singleton]; omega), cond_true]; rfl
theorem mass_pos {v : D} (h : TV v) : 6 ≤ dmass v := by cases h with | mk _ _ hm _ => omega
theorem len_massT : ∀ l : List D, (∀ x ∈ l, TV x) → l.length ≤ dmass.dmAll l := by
  intro l
  induction l with
  | nil => intro _; exact Nat.zero_le _
  | cons x l ih =>
    intro h
    have h1 := mass_pos (h x List.mem_cons_self)
    have h2 := ih fun y hy => h y (List.mem_cons_of_mem _ hy)
    simp only [dmass.dmAll, List.length_cons]; omega
theorem k15 (v : D) (dp : Int) : RUN E 15 [v, .int dp] = cond (decide (D.toInt (D.cell v 0) = 0)) (some [.str [110, 117, 108, 108], .int 0])
    (cond (decide (D.toInt (D.cell v 0) = 1) || decide (D.toInt (D.cell v 0) = 2)) (opt (RUN E 36 [v]) fun r => some [.str (D.toStr (r.getD 0 .no)), .int (D.toInt (r.getD 1 .no))])
    (cond (decide (D.toInt (D.cell v 0) = 3) || decide (D.toInt (D.cell v 0) = 7) || decide (D.toInt (D.cell v 0) = 4))
      (opt (RUN E 36 [v]) fun r => cond (bif decide (D.toInt (r.getD 1 .no) = 0) then false else true) (some [.str [], .int (D.toInt (r.getD 1 .no))]) (opt (RUN E 37 [.str (D.toStr (r.getD 0 .no))]) fun r2 => some [.str (D.toStr (r2.getD 0 .no)), .int 0]))
    (cond (decide (D.toInt (D.cell v 0) = 5) || decide (D.toInt (D.cell v 0) = 6)) (C15a dp v) (some [.str [], .int 10])))) := by
  rw [enter15]
  generalize D.toInt (D.cell v 0) = k
  by_cases h0 : k = 0
  · subst h0; rfl
  by_cases h1 : k = 1
  · subst h1; rfl
  by_cases h2 : k = 2
  · subst h2; rfl
  by_cases h3 : k = 3
  · subst h3; rfl
  by_cases h4 : k = 4
  · subst h4; rfl
  by_cases h5 : k = 5
  · subst h5; rfl
  by_cases h6 : k = 6
  · subst h6; rfl
  by_cases h7 : k = 7
  · subst h7; rfl
  rw [dec_f h0, dec_f h1, dec_f h2, dec_f h3, dec_f h7, dec_f h4, dec_f h5, dec_f h6]; rfl
theorem k35 (v : D) (dp : Int) (o : List D) : RUN E 35 [.list o, v, .int dp] = cond (decide (D.toInt (D.cell v 0) = 0)) (cond (fitL o.length (bytesD [110, 117, 108, 108]).length) (some [.list (o ++ bytesD [110, 117, 108, 108]), .int 0]) none)
    (cond (decide (D.toInt (D.cell v 0) = 1) || decide (D.toInt (D.cell v 0) = 2)) (opt (RUN E 52 [v]) fun r => cond (fitL o.length (bytesD (D.toStr (r.getD 0 .no))).length) (some [.list (o ++ bytesD (D.toStr (r.getD 0 .no))), .int 0]) none)
    (cond (decide (D.toInt (D.cell v 0) = 3) || decide (D.toInt (D.cell v 0) = 7) || decide (D.toInt (D.cell v 0) = 4))
      (opt (RUN E 52 [v]) fun r => opt (RUN E 53 [.list o, .str (D.toStr (r.getD 0 .no))]) fun r2 => some [.list (D.toList (r2.getD 0 .no)), .int (D.toInt (r.getD 1 .no))])
    (cond (decide (D.toInt (D.cell v 0) = 5) || decide (D.toInt (D.cell v 0) = 6)) (C35a dp o v) (some [.list o, .int 10])))) := by
  rw [enter35]
  generalize D.toInt (D.cell v 0) = k
  by_cases h0 : k = 0
  · subst h0; rfl
  by_cases h1 : k = 1
  · subst h1; rfl
  by_cases h2 : k = 2
  · subst h2; rfl
  by_cases h3 : k = 3
  · subst h3; rfl
  by_cases h4 : k = 4
  · subst h4; rfl
  by_cases h5 : k = 5
  · subst h5; rfl
  by_cases h6 : k = 6
  · subst h6; rfl
  by_cases h7 : k = 7
  · subst h7; rfl
  rw [dec_f h0, dec_f h1, dec_f h2, dec_f h3, dec_f h7, dec_f h4, dec_f h5, dec_f h6]; rfl
theorem one {k : Nat} (hk : k ≤ 12) {v : D} (hT : TV v) (hm : dmass v ≤ 1048576) (hG : ∀ j, k = j + 1 → ∀ x ∈ it v, Good j x) : Good k v := by
  cases hT with
  | mk _ hn hmv hi =>
    have hil := len_massT (it v) hi
    obtain ⟨s, e, e52, e36, hsl, h12⟩ := shownB hn
    obtain ⟨sl, el, l1, l2, l3, l4⟩ := list_k hk hm (by omega) (by omega) hG
    unfold Good
    simp only [k15, k35]
    rw [b_or] at h12
    cases hb0 : decide (D.toInt (D.cell v 0) = 0) with
    | true =>
      refine ⟨[110, 117, 108, 108], 0, rfl, by simp; omega, fun h => absurd rfl h, fun o ho => ⟨_, ?_, fun _ => rfl, by rw [List.length_append, bytesD_len]; simp only [List.length_cons, List.length_nil]; omega⟩⟩
      rw [fit_t (by rw [bytesD_len]; simp only [List.length_cons, List.length_nil]; omega)]; rfl
    | false =>
      cases hb1 : (decide (D.toInt (D.cell v 0) = 1) || decide (D.toInt (D.cell v 0) = 2)) with
      | true =>
        have he := h12 hb1
        subst he
        refine ⟨s, 0, by rw [e36]; rfl, by omega, fun h => absurd rfl h, fun o ho => ⟨o ++ bytesD s, ?_, fun _ => rfl, by rw [List.length_append, bytesD_len]; omega⟩⟩
        rw [e52]
        simp only [opt_s, List.getD_cons_zero, tS, cond_true, cond_false]
        rw [fit_t (by rw [bytesD_len]; omega)]; rfl
      | false =>
        cases hb3 : (decide (D.toInt (D.cell v 0) = 3) || decide (D.toInt (D.cell v 0) = 7) || decide (D.toInt (D.cell v 0) = 4)) with
        | true =>
          have hql := qs_len s
          have r := fun (o : List D) (ho : o.length + 64 * dmass v ≤ 8589934592) => r53 o s (by omega) (by omega)
          by_cases he : e = 0
          · subst he
            refine ⟨qs s, 0, ?_, by omega, fun h => absurd rfl h, fun o ho => ⟨o ++ bytesD (qs s), ?_, fun _ => rfl, by rw [List.length_append, bytesD_len]; omega⟩⟩
            · rw [e36]
              simp only [opt_s, List.getD_cons_zero, List.getD_cons_succ, tS, tI, cond_true, cond_false, decide_true]
              rw [r37 s (by omega)]; rfl
            · rw [e52]
              simp only [opt_s, List.getD_cons_zero, List.getD_cons_succ, tS, tI, cond_true, cond_false]
              rw [r o ho]; rfl
          · refine ⟨[], e, ?_, by simp only [List.length_nil]; omega, fun _ => rfl, fun o ho => ⟨o ++ bytesD (qs s), ?_, fun h => absurd h he, by rw [List.length_append, bytesD_len]; omega⟩⟩
            · rw [e36]
              simp only [opt_s, List.getD_cons_zero, List.getD_cons_succ, tS, tI, cond_true, cond_false]
              rw [dec_f he]; rfl
            · rw [e52]
              simp only [opt_s, List.getD_cons_zero, List.getD_cons_succ, tS, tI, cond_true, cond_false]
              rw [r o ho]; rfl
        | false =>
          cases hb5 : (decide (D.toInt (D.cell v 0) = 5) || decide (D.toInt (D.cell v 0) = 6)) with
          | true => exact ⟨sl, el, l1, l2, l3, fun o ho => l4 o (by omega)⟩
          | false => exact ⟨[], 10, rfl, by simp only [List.length_nil]; omega, fun _ => rfl, fun o ho => ⟨o, rfl, (fun h => by cases h), by omega⟩⟩
theorem main : ∀ k, k ≤ 12 → ∀ v, TV v → dmass v ≤ 1048576 → Good k v := by
  intro k
  induction k with
  | zero =>
    intro hk v hT hm
    exact one hk hT hm (fun j h => by omega)
  | succ k ih =>
    intro hk v hT hm
    refine one hk hT hm (fun j h x hx => ?_)
    have : j = k := by omega
    subst this
    cases hT with
    | mk _ hn hmv hi => exact ih (by omega) x (hi x hx) (Nat.le_trans (mass_mem hx) (by omega))
theorem law {v : D} (hT : TV v) (hm : dmass v ≤ 1048576) : RUN E 5 [v] = some [.bool true] := by
  obtain ⟨s, e, h15, -, hs0, h35⟩ := main 12 (Nat.le_refl _) v hT hm
  obtain ⟨o', r, h, -⟩ := h35 [] (by simp only [List.length_nil]; omega)
  have r14 : RUN E 14 [v] = cond (bif decide (e = 0) then false else true) (some [.str [], .int e]) (some [.str (dBytes o'), .int 0]) := by
    rw [enter14]
    show opt (RUN E 35 [.list [], v, .int 0]) _ = _
    rw [show RUN E 35 [.list [], v, .int 0] = _ from r]; rfl
  rw [enter5, r14, show RUN E 15 [v, .int 1] = _ from h15]
  by_cases he : e = 0
  · subst he
    rw [h rfl]
    simp [opt_s, tS, tI, dBytes_bytesD]
  · have hs := hs0 he
    subst hs
    rw [dec_f he]
    simp [opt_s, tS, tI]
theorem tv_rep {M : Mem} {k : KT} {v : Value} {d : D} (h : Rep tt M k v d) : (k = .agg 29 → TV d) ∧ (k = .slice 29 → ∀ x ∈ d.toList, TV x) := by
  have h29 : lk 29 tt = some (⟨.agg 29, [.int .i64, .bool, .int .i64, .str, .slice 29, .slice 9], [(0, 3), (1, 4), (2, 3), (3, 9), (4, 27), (5, 24)], 88⟩ : TI) := by kernel_rfl
  induction h with
  | bool b => exact ⟨fun e => (by cases e), fun e => (by cases e)⟩
  | int k n h => exact ⟨fun e => (by cases e), fun e => (by cases e)⟩
  | str s h => exact ⟨fun e => (by cases e), fun e => (by cases e)⟩
  | nil e a cap h => exact ⟨fun e => (by cases e), fun _ x hx => (by cases hx)⟩
  | slice e ei ad cap xs vs h0 hc hm he hs hz hMM hr ih =>
    refine ⟨fun e => (by cases e), fun e1 x hx => ?_⟩
    injection e1 with e1
    subst e1
    rw [h29] at he; injection he with he; subst he
    obtain ⟨i, hi, rfl⟩ := List.getElem_of_mem hx
    exact (ih i hi).1 rfl
  | agg t ti cs ds ht hk hl hd hr ih =>
    refine ⟨fun e1 => ?_, fun e1 => (by cases e1)⟩
    injection e1 with e1
    subst e1
    rw [h29] at ht; injection ht with ht; subst ht
    match ds, cs, hd, hl, hr, ih with
    | [d0, d1, d2, d3, d4, d5], [c0, c1, c2, c3, c4, c5], _, _, hr, ih =>
      have r0 := hr 0 (by decide) (by simp) (by simp)
      have r1 := hr 1 (by decide) (by simp) (by simp)
      have r2 := hr 2 (by decide) (by simp) (by simp)
      have r3 := hr 3 (by decide) (by simp) (by simp)
      have r4 := hr 4 (by decide) (by simp) (by simp)
      have r5 := hr 5 (by decide) (by simp) (by simp)
      have i4 := (ih 4 (by decide) (by simp) (by simp)).2 rfl
      obtain ⟨_, q0, _⟩ := Rep.inv_int r0
      obtain ⟨_, q1⟩ := Rep.inv_bool r1
      obtain ⟨_, q2, w2⟩ := Rep.inv_int (k := .i64) r2
      obtain ⟨s3, _, q3, _⟩ := Rep.inv_str r3
      obtain ⟨_, _, _, q4, _⟩ := Rep.inv_slice r4
      obtain ⟨_, _, _, q5, _⟩ := Rep.inv_slice r5
      simp only [List.getElem_cons_zero, List.getElem_cons_succ] at q0 q1 q2 q3 q4 q5 i4 w2
      obtain ⟨b0, b1⟩ := int_wf w2
      rw [q0, q1, q2, q3, q4, q5]
      refine .mk _ (itoa_len b0 b1) ?_ i4
      show dmass.dmAll d4.toList + dmass.dmAll d5.toList + s3.data.toList.length + 6 ≤ 1 + (1 + (1 + ((s3.data.toList.length + 1) + ((dmass.dmAll d4.toList + 1) + ((dmass.dmAll d5.toList + 1) + 0)))))
      omega
theorem lawR {M : Mem} {v : Value} {x : D} (h : Rep E.tt M (.agg 29) v x) (hb : dmass.dmAll [x] ≤ 1048576) : RUN E 5 [x] = some [.bool true] := by
  refine law ((tv_rep (show Rep tt M (.agg 29) v x from h)).1 rfl) ?_
  simp only [dmass.dmAll] at hb
  omega
theorem tab {W : World} (hL : laidMetH Tryd.prog Rows.tmplQuotesUptoRow.laid W) : Lib.TabIs Tryd.prog W "internal/strconv.uint64pow10" .u64 Lib.pow10Tab := by
  rw [MakeChecks.laidMetH_plain _ _ _ (by kernel_rfl)] at hL
  have h1 : laidMet Tryd.prog (("internal/strconv.uint64pow10", Lib.tabData .u64 Lib.pow10Tab) :: []) W := laidMet.tail (laidMet.tail hL)
  exact Lib.tabIs_of_head (g := 5) (t := 138) (e := 127) (n := 20) (by kernel_rfl) (by kernel_rfl) (by kernel_rfl) (by kernel_rfl) (by kernel_rfl) (by kernel_rfl) h1
end quot
end Go.Proofs.YtjofkhdnidjleabDoor.qt
