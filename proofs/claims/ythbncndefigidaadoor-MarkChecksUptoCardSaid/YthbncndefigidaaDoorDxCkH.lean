/- Lines, fences. -/
import Derived.Test.YthbncndefigidaaDoorDxCkG
import Derived.Test.YthbncndefigidaaDoorF7
set_option linter.unusedVariables false
set_option linter.unusedSimpArgs false
namespace Go.Proofs.YthbncndefigidaaDoor.mc
open Go.Proofs.YthbncndefigidaaDoor.DS
namespace chk
open check

theorem firstG (s : List UInt8) (A X : Bool) : (bif inb 0 s.length then true else bif bif bif bif A then bif decide (s = ([] : List UInt8)) then false else true else false then true else false then X else false then false else true) = true := by
  by_cases hs : s = []
  · subst hs; cases A <;> cases X <;> rfl
  · have hl := ne_len hs
    rw [show inb 0 s.length = true from inb_nat (i := 0) (by omega)]; rfl
theorem lastG (s : List UInt8) (h : s.length ≤ 1048576) (A X : Bool) : (bif inb (IntKind.wrap IntKind.i64 ((↑(List.length s) : Int) - 1)) s.length then true else bif bif bif bif A then bif decide (s = ([] : List UInt8)) then false else true else false then true else false then X else false then false else true) = true := by
  by_cases hs : s = []
  · subst hs; cases A <;> cases X <;> rfl
  · have hl := ne_len hs
    rw [len1 hl (by omega), inb_nat (by omega : s.length - 1 < s.length)]; rfl
theorem r90 (c : UInt8) : RUN E 90 [.int (c.toNat : Int)] = some [.bool (isB c)] := enter90 _
theorem fb_eq (s : List UInt8) : (bif decide (s = ([] : List UInt8)) then false else isB (s.getD 0 0)) = fb s := by unfold fb; cases decide (s = []) <;> rfl
theorem lb_eq (s : List UInt8) : (bif decide (s = ([] : List UInt8)) then false else isB (s.getD (s.length - 1) 0)) = lb s := by unfold lb; cases decide (s = []) <;> rfl

theorem line {x : D} {k : Int} (hk : D.toInt (D.cell x 0) = k) (hkk : k = 1 ∨ k = 2 ∨ k = 10) {ks : List D} (hks : D.toList (D.cell x 5) = ks) (hl : ks.length ≤ 1048576) (hm : dmass.dmAll ks ≤ 1048576) (hB : Below k ks) :
    ∃ b : Bool, RUN E 72 [.list ks, .int k] = some [.bool b] ∧ RUN E 55 [x] = some [.bool b] := by
  obtain ⟨b, b', g1, g2, g3, g4⟩ := hB false false false k
  have hst : star k = false := by rcases hkk with rfl | rfl | rfl <;> rfl
  rw [enter72, enter55, hks, hk, pos_ne]
  rw [g1, g2]
  by_cases hs : ks = []
  · obtain ⟨m1, m2⟩ := g4 hs
    subst m1 m2
    rw [dec_t hs]
    exact ⟨true, rfl, rfl⟩
  · have h0 := ne_lenD hs
    have hta : (D.toStr (D.cell (ks.getD 0 .no) 2)).length ≤ 1048576 := Nat.le_trans (cellS_le _ _) (Nat.le_trans (mass_getD ks _) hm)
    have htb : (D.toStr (D.cell (ks.getD (ks.length - 1) .no) 2)).length ≤ 1048576 := Nat.le_trans (cellS_le _ _) (Nat.le_trans (mass_getD ks _) hm)
    have hec : ec k ks = (!brk (D.toInt (D.cell (ks.getD 0 .no) 0)) && !brk (D.toInt (D.cell (ks.getD (ks.length - 1) .no) 0))) := by
      unfold ec ok; rw [hst]; simp
    rw [g3 hs, hec, dec_f hs, show inb 0 ks.length = true from inb_nat (i := 0) (by omega), len1 h0 (by omega), inb_nat (by omega : ks.length - 1 < ks.length), Int.toNat_natCast, r73 _ hta, r73 _ htb]
    simp only [r89, r90, opt_s, cond_true, cond_false, List.getD_cons_zero, List.getD_cons_succ, tB]
    generalize hta' : D.toStr (D.cell (ks.getD 0 .no) 2) = ta at *
    generalize htb' : D.toStr (D.cell (ks.getD (ks.length - 1) .no) 2) = tb at *
    generalize decide (D.toInt (D.cell (ks.getD 0 .no) 0) = 11) = A
    generalize decide (D.toInt (D.cell (ks.getD (ks.length - 1) .no) 0) = 11) = Z
    generalize brk (D.toInt (D.cell (ks.getD 0 .no) 0)) = x1
    generalize brk (D.toInt (D.cell (ks.getD (ks.length - 1) .no) 0)) = x2
    have hq1 : decide (ta = []) = false → inb 0 ta.length = true := fun h => inb_nat (i := 0) (by have := ne_len (of_decide_eq_false h); omega)
    generalize inb 0 ta.length = q1 at *
    have hfa := fb_eq ta
    have hlb := lb_eq tb
    generalize fb ta = f1 at *
    generalize lb ta = f2 at *
    generalize fb tb = f3 at *
    generalize lb tb = f4 at *
    generalize isB (ta.getD 0 0) = i1 at *
    by_cases htbe : tb = []
    · rw [dec_t htbe] at hlb ⊢
      have hf4 : f4 = false := hlb.symm
      subst hf4
      generalize decide (ta = []) = n1 at *
      cases n1 with
      | true =>
        have : f1 = false := hfa.symm
        subst this
        cases q1 <;> cases A <;> cases Z <;> cases x1 <;> cases x2 <;> cases b <;> cases inb (IntKind.wrap IntKind.i64 ((tb.length : Int) - 1)) tb.length <;> exact ⟨_, rfl, rfl⟩
      | false =>
        have : f1 = i1 := hfa.symm
        subst this
        rw [hq1 rfl]
        cases f1 <;> cases A <;> cases Z <;> cases x1 <;> cases x2 <;> cases b <;> cases inb (IntKind.wrap IntKind.i64 ((tb.length : Int) - 1)) tb.length <;> exact ⟨_, rfl, rfl⟩
    · have hl := ne_len htbe
      rw [dec_f htbe] at hlb ⊢
      rw [len1 hl (by omega), inb_nat (by omega : tb.length - 1 < tb.length), Int.toNat_natCast]
      generalize isB (tb.getD (tb.length - 1) 0) = i2 at *
      have : f4 = i2 := hlb.symm
      subst this
      generalize decide (ta = []) = n1 at *
      cases n1 with
      | true =>
        have : f1 = false := hfa.symm
        subst this
        cases q1 <;> cases f4 <;> cases A <;> cases Z <;> cases x1 <;> cases x2 <;> cases b <;> exact ⟨_, rfl, rfl⟩
      | false =>
        have : f1 = i1 := hfa.symm
        subst this
        rw [hq1 rfl]
        cases f1 <;> cases f4 <;> cases A <;> cases Z <;> cases x1 <;> cases x2 <;> cases b <;> exact ⟨_, rfl, rfl⟩

/-! ### Trimming -/
theorem last_cons {c : UInt8} {r : List UInt8} (h : r ≠ []) : (c :: r).getD ((c :: r).length - 1) 0 = r.getD (r.length - 1) 0 := by
  cases r with
  | nil => exact absurd rfl h
  | cons a t => rfl
theorem trimB : ∀ (n : Nat) (s : List UInt8), s.length = n → n ≤ 1048576 → ∃ r, L85b s = some [.str r] ∧ r.length ≤ s.length ∧ (lb s = false → r = s) ∧ (lb s = true → r.length < s.length) ∧ (r = [] ↔ s.all isB = true) := by
  intro n
  induction n with
  | zero =>
    intro s hs _
    have : s = [] := List.eq_nil_of_length_eq_zero hs
    subst this
    exact ⟨[], by rw [round85b]; rfl, Nat.le_refl _, fun _ => rfl, fun h => (by cases h), ⟨fun _ => rfl, fun _ => rfl⟩⟩
  | succ n ih =>
    intro s hs hn
    have hne : s ≠ [] := fun e => by subst e; simp at hs
    have hl := ne_len hne
    rw [round85b, len1 hl (by omega), inb_nat (by omega : s.length - 1 < s.length), dec_f hne, Int.toNat_natCast, r90]
    simp only [opt_s, cond_true, cond_false, List.getD_cons_zero, tB]
    have hlbv : lb s = isB (s.getD (s.length - 1) 0) := by unfold lb; rw [dec_f hne]; rfl
    have hdec : s = s.take (s.length - 1) ++ [s.getD (s.length - 1) 0] := by
      conv => lhs; rw [← List.take_append_drop (s.length - 1) s]
      congr 1
      rw [drop_cons 0 (by omega : s.length - 1 < s.length), List.drop_of_length_le (by omega)]
    cases hb : isB (s.getD (s.length - 1) 0) with
    | false =>
      refine ⟨s, rfl, Nat.le_refl _, fun _ => rfl, fun h => (by rw [hlbv, hb] at h; cases h), fun h => absurd h hne, fun h => ?_⟩
      rw [hdec, List.all_append] at h
      simp only [List.all_cons, List.all_nil, hb, Bool.and_false, Bool.false_and] at h
      cases h
    | true =>
      rw [show cutOk s.length none (some ((s.length - 1 : Nat) : Int)) = true from cutOk_hi (by omega), cut_hi]
      simp only [cond_true]
      obtain ⟨r, g1, g2, g3, g4, g5⟩ := ih (s.take (s.length - 1)) (by rw [List.length_take]; omega) (by omega)
      rw [List.length_take] at g2
      refine ⟨r, g1, by omega, fun h => (by rw [hlbv, hb] at h; cases h), fun _ => by omega, ?_⟩
      rw [g5]
      conv => rhs; rw [hdec]
      rw [List.all_append, List.all_cons, List.all_nil, hb, Bool.and_true, Bool.and_true]
theorem trimA : ∀ (n : Nat) (s : List UInt8), s.length = n → n ≤ 1048576 → ∃ r, L85a s = some [.str r] ∧ r.length ≤ s.length ∧ (fb s = false → lb s = false → r = s) ∧ (fb s = true ∨ lb s = true → r.length < s.length) ∧ (r = [] ↔ s.all isB = true) := by
  intro n
  induction n with
  | zero =>
    intro s hs _
    have : s = [] := List.eq_nil_of_length_eq_zero hs
    subst this
    refine ⟨[], ?_, Nat.le_refl _, fun _ _ => rfl, fun h => (by rcases h with h | h <;> cases h), ⟨fun _ => rfl, fun _ => rfl⟩⟩
    rw [round85a]
    show L85b [] = _
    rw [round85b]; rfl
  | succ n ih =>
    intro s hs hn
    cases s with
    | nil => simp at hs
    | cons c t =>
      simp only [List.length_cons] at hs
      rw [round85a, show inb 0 (c :: t).length = true from inb_nat (i := 0) (by simp), dec_f (by simp : ¬ (c :: t) = []), show (((c :: t).getD 0 0).toNat : Int) = (c.toNat : Int) from rfl, r90]
      simp only [opt_s, cond_true, cond_false, List.getD_cons_zero, tB]
      have hfb : fb (c :: t) = isB c := by unfold fb; rw [dec_f (by simp : ¬ (c :: t) = [])]; rfl
      cases hb : isB c with
      | true =>
        rw [show cutOk (c :: t).length (some 1) none = true from cutOk_lo (i := 1) (by simp), show cutL (c :: t) (some 1) none = t from rfl]
        simp only [cond_true]
        obtain ⟨r, g1, g2, g3, g4, g5⟩ := ih t (by omega) (by omega)
        refine ⟨r, g1, by simp only [List.length_cons]; omega, fun h => (by rw [hfb, hb] at h; cases h), fun _ => by simp only [List.length_cons]; omega, ?_⟩
        rw [g5, List.all_cons, hb, Bool.true_and]
      | false =>
        simp only [cond_false]
        obtain ⟨r, g1, g2, g3, g4, g5⟩ := trimB _ (c :: t) rfl (by simp only [List.length_cons]; omega)
        exact ⟨r, g1, g2, fun _ h => g3 h, fun h => g4 (by rcases h with h | h; (rw [hfb, hb] at h; cases h); exact h), g5⟩
theorem r85 (s : List UInt8) (h : s.length ≤ 1048576) : ∃ r, RUN E 85 [.str s] = some [.str r] ∧ decide (r = s) = !(fb s || lb s) ∧ decide (r = []) = s.all isB := by
  obtain ⟨r, g1, g2, g3, g4, g5⟩ := trimA _ s rfl h
  refine ⟨r, by rw [enter85]; exact g1, ?_, ?_⟩
  · cases hf : fb s with
    | true => rw [dec_f (fun e => by have := g4 (.inl hf); rw [e] at this; omega)]; rfl
    | false =>
      cases hl : lb s with
      | true => rw [dec_f (fun e => by have := g4 (.inr hl); rw [e] at this; omega)]; rfl
      | false => rw [dec_t (g3 hf hl)]; rfl
  · cases ha : s.all isB with
    | true => exact dec_t (g5.2 ha)
    | false => exact dec_f (fun e => by rw [g5.1 e] at ha; cases ha)
theorem dropWhile_nil (p : UInt8 → Bool) : ∀ l : List UInt8, l.dropWhile p = [] ↔ l.all p = true := by
  intro l
  induction l with
  | nil => simp
  | cons c r ih =>
    rw [List.dropWhile_cons, List.all_cons]
    cases hp : p c with
    | true => simpa using ih
    | false => simp
theorem all_dropWhile (p : UInt8 → Bool) : ∀ l : List UInt8, (l.dropWhile p).all p = true ↔ l.all p = true := by
  intro l
  induction l with
  | nil => simp
  | cons c r ih =>
    rw [List.dropWhile_cons]
    cases hp : p c with
    | true => simp only [if_true, List.all_cons, hp, Bool.true_and]; exact ih
    | false => simp [hp]
theorem isB_set (c : UInt8) : ([32, 9] : List UInt8).contains c = isB c :=
  bool_of_beq (u8_all (fun c => ([32, 9] : List UInt8).contains c == isB c) (by decide +kernel) c)
theorem trimS_nil (s : List UInt8) : decide (Lib.trimS s [32, 9] = []) = s.all isB := by
  have hp : (fun c : UInt8 => ([32, 9] : List UInt8).contains c) = isB := funext isB_set
  have h : Lib.trimS s [32, 9] = [] ↔ s.all isB = true := by
    unfold Lib.trimS Lib.trimLeftS Lib.trimRightS
    rw [hp, dropWhile_nil, List.all_reverse, all_dropWhile, List.all_reverse]
  cases ha : s.all isB with
  | true => exact dec_t (h.2 ha)
  | false => exact dec_f (fun e => by rw [h.1 e] at ha; cases ha)
theorem trimS_len (s : List UInt8) : (Lib.trimS s [32, 9]).length ≤ s.length := by
  unfold Lib.trimS Lib.trimLeftS Lib.trimRightS
  have h1 := (List.dropWhile_sublist (l := ((s.reverse.dropWhile (([32, 9] : List UInt8).contains ·)).reverse)) (([32, 9] : List UInt8).contains ·)).length_le
  have h2 := (List.dropWhile_sublist (l := s.reverse) (([32, 9] : List UInt8).contains ·)).length_le
  simp only [List.length_reverse] at h1 h2
  omega
theorem r76 (s : List UInt8) (h : s.length ≤ 1048576) : RUN E 76 [.str s] = some [.bool (s.all isB)] := by
  have e : RUN E 25 [.str s, .str [32, 9]] = some [.str (Lib.trimS s [32, 9])] := by
    have e1 : RUN E 25 [.str s, .str [32, 9]] = xTrimS [.str s, .str [32, 9]] := (RUN_eq _ _ _).trans (by kernel_rfl)
    rw [e1]
    unfold xTrimS
    simp only
    have := trimS_len s
    rw [dec_t (by decide : ([32, 9] : List UInt8).length ≤ 100), dec_t (by omega : (Lib.trimS s [32, 9]).length ≤ 4194304)]
    rfl
  rw [enter76, enter98, e]
  simp only [opt_s, List.getD_cons_zero, tS]
  rw [trimS_nil]
theorem r87 (s : List UInt8) (h : s.length ≤ 1048576) : RUN E 87 [.str s] = some [.bool (s.all isB)] := by
  obtain ⟨r, g1, _, g3⟩ := r85 s h
  rw [enter87, g1]
  simp only [opt_s, List.getD_cons_zero, tS]
  rw [g3]
theorem r116 (s p : List UInt8) (h : s.length ≤ 4194304) (hp : p.length ≤ 4194304) : RUN E 116 [.str s, .str p] = some [.bool (hasPre s p)] := by
  rw [enter116, enter131, pre_eq (by omega) (by omega)]; rfl
theorem ends (s : List UInt8) (h : s.length ≤ 1048576) : ∃ b : Bool, RUN E 88 [.str s] = some [.bool b] ∧ RUN E 77 [.str s] = some [.bool b] := by
  rw [enter88, enter77, enter110, enter99, r116 s _ (by omega) (by decide)]
  simp only [opt_s, List.getD_cons_zero, tB]
  cases hp : hasPre s [96, 96, 96] with
  | false => cases cutOk s.length (some 3) none <;> exact ⟨false, rfl, rfl⟩
  | true =>
    unfold hasPre at hp
    simp only [Bool.and_eq_true, decide_eq_true_eq] at hp
    have hl : 3 ≤ s.length := hp.1
    rw [show cutOk s.length (some 3) none = true from cutOk_lo (i := 3) (by omega), show cutL s (some 3) none = s.drop 3 from rfl]
    simp only [cond_true]
    rw [r87 _ (by rw [List.length_drop]; omega), r76 _ (by rw [List.length_drop]; omega)]
    exact ⟨_, rfl, rfl⟩
end chk
end Go.Proofs.YthbncndefigidaaDoor.mc
