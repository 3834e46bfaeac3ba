import Derived.Test.YthbncndefigidaaDxSumsD
set_option linter.unusedVariables false
set_option linter.unusedSimpArgs false
namespace Go.Proofs.Ythbncndefigidaa.ms
open Go.Proofs.Ythbncndefigidaa.DS
namespace sums
open check
/-- clone gives the same document. -/
theorem clone : ∀ l, AllN l → dmass.dmAll l ≤ 1048576 → RUN E 35 [.list l] = some [.list l] := by
  refine doc_ind ?_
  intro l hN hk hb
  have hlen := len_le hN
  have loop : ∀ r i : Nat, i + r = l.length → L35a l l.length i (l.take i) = some [.list l] := by
    intro r
    induction r with
    | zero =>
      intro i hi
      rw [round35a, dec_f (by omega), List.take_of_length_le (by omega)]; rfl
    | succ r ih =>
      intro i hi
      have hil : i < l.length := by omega
      have hx := hN l[i] (List.getElem_mem hil)
      have hdm := drop_mass hil
      have hdl := drop_le l i
      have hkid := hk l[i] (List.getElem_mem hil)
      have hnext : IntKind.wrap .i64 ((i : Int) + 1) = ((i + 1 : Nat) : Int) := by rw [wrap_id (by omega) (by omega)]; omega
      have hg : l.getD i .no = l[i] := getD_eq l i .no hil
      have ht : l.take (i + 1) = l.take i ++ [l[i]] := by rw [List.take_succ_eq_append_getElem hil]
      have e1 := ih (i + 1) (by omega)
      rw [ht] at e1
      have hf : ∀ y : D, fitL (l.take i).length ([y]).length = true := fun y => fit_t (by simp; omega)
      generalize l[i] = x at *
      cases hx with
      | mk k v t d ti ks hks =>
        have hmx : dmass (.agg [.int k, .int v, .str t, .str d, .str ti, .list ks]) = 1 + (1 + (t.length + 1 + (d.length + 1 + (ti.length + 1 + (dmass.dmAll ks + 1 + 0))))) := rfl
        replace hkid := hkid (show dmass.dmAll ks ≤ 1048576 by omega)
        replace hkid : RUN E 35 [.list ks] = some [.list ks] := hkid
        rw [round35a, dec_t (by omega), inb_nat hil]
        simp only [cond_true, Int.toNat_natCast, hg, D.cell, D.cells, List.getD_cons_zero, List.getD_cons_succ, tI, tS, tL, hkid, opt_s, hnext, hf, e1]
  rw [enter35]
  exact loop l.length 0 (by omega)
/-- A document is the same as itself. -/
theorem same : ∀ l, AllN l → dmass.dmAll l ≤ 1048576 → RUN E 12 [.list l, .list l] = some [.bool true] := by
  refine doc_ind ?_
  intro l hN hk hb
  have hlen := len_le hN
  have loop : ∀ r i : Nat, i + r = l.length → L12a l l l.length i = some [.bool true] := by
    intro r
    induction r with
    | zero =>
      intro i hi
      rw [round12a, dec_f (by omega)]; rfl
    | succ r ih =>
      intro i hi
      have hil : i < l.length := by omega
      have hx := hN l[i] (List.getElem_mem hil)
      have hdm := drop_mass hil
      have hdl := drop_le l i
      have hmx := mass_nd hx
      have hkid := hk l[i] (List.getElem_mem hil) (by omega)
      have hnext : IntKind.wrap .i64 ((i : Int) + 1) = ((i + 1 : Nat) : Int) := by rw [wrap_id (by omega) (by omega)]; omega
      have hg : l.getD i .no = l[i] := getD_eq l i .no hil
      have hki : D.toList (D.cell l[i] 5) = kidsOf l[i] := rfl
      have e1 := ih (i + 1) (by omega)
      rw [round12a, dec_t (by omega), inb_nat hil]
      simp only [cond_true, Int.toNat_natCast, hg, hki, hkid, hnext, e1]
      simp [opt_s, tB, e1]
      try exact_mod_cast e1
  rw [enter12]
  simp only [dec_t, cond_true, cond_false]
  exact loop l.length 0 (by omega)
/-- One node of a valid document. -/
theorem one {x : D} (hx : Nd x) (hb : dmass x ≤ 1048576) (h1 : RUN E 56 [x, .int 0] = some [.int 0]) (h2 : RUN E 39 [.list (kidsOf x), .int (D.toInt (D.cell x 0))] = some [.int 0]) :
    ∃ n : Int, RUN E 41 [.list [x]] = some [.int n] ∧ ∃ s : List UInt8, RUN E 20 [.list [x]] = some [.str s] ∧ RUN E 21 [.str s] = some [.int n] := by
  have hN : AllN [x] := fun y hy => by simp at hy; subst hy; exact hx
  have hm : dmass.dmAll [x] ≤ 1048576 := by simp only [dmass.dmAll]; omega
  have hv : RUN E 39 [.list [x], .int 0] = some [.int 0] := by
    have hki : D.toList (D.cell x 5) = kidsOf x := rfl
    have hw : IntKind.wrap .i64 ((0 : Int) + 1) = 1 := by decide
    have hz : L39a 0 [x] (([x] : List D).length : Int) 1 = some [.int 0] := by rw [round39a]; rfl
    rw [enter39, round39a, dec_t (by simp), show inb (0 : Int) ([x] : List D).length = true from rfl]
    simp only [cond_true, cond_false, show Int.toNat 0 = 0 from rfl, List.getD_cons_zero, hki, h1, h2, opt_s, tI, hw, hz, dec_t]
  obtain ⟨s, g1, g2, g3⟩ := plain [x] hN hm 0 hv
  obtain ⟨n, w1, w2⟩ := words s (by omega)
  have g4 := g3 [] (by simp only [List.length_nil]; omega)
  rw [List.nil_append] at g4
  refine ⟨n, ?_, s, g1, w1⟩
  rw [enter41]
  simp only [g4, opt_s, List.getD_cons_zero, tL, w2]
theorem mass_take (l : List D) : ∀ i, dmass.dmAll (l.take i) ≤ dmass.dmAll l := by
  induction l with
  | nil => intro i; simp
  | cons x r ih =>
    intro i
    cases i with
    | zero => simp [dmass.dmAll]
    | succ i => have := ih i; simp only [List.take_succ_cons, dmass.dmAll]; omega
theorem loops {l : List D} (hN : AllN l) (hb : dmass.dmAll l ≤ 1048576) (hv : RUN E 39 [.list l, .int 0] = some [.int 0]) (most : Int) : ∀ r i : Nat, i + r = l.length → ∀ sum : Int,
    ∃ k : Nat, L22a l most i sum = some [.list (l.take k), .bool (decide ((k : Int) < (l.length : Int))), .int 0] ∧ L7b l most (l.take k) (decide ((k : Int) < (l.length : Int))) 0 sum i = some [.bool true] := by
  have hlen := len_le hN
  have hva := valid hN hb hv
  have stop : ∀ (i : Nat) (sum : Int), i ≤ l.length → (bif decide ((i : Int) < (l.length : Int)) then decide (sum < most) else false) = false →
      L22a l most i sum = some [.list (l.take i), .bool (decide ((i : Int) < (l.length : Int))), .int 0] ∧ L7b l most (l.take i) (decide ((i : Int) < (l.length : Int))) 0 sum i = some [.bool true] := by
    intro i sum hi hc
    have hc2 : cutOk l.length none (some (i : Int)) = true := by simp only [cutOk, Bool.and_eq_true, decide_eq_true_eq]; omega
    have hcl : cutL l none (some (i : Int)) = l.take i := rfl
    have hNt : AllN (l.take i) := fun y hy => hN y (List.mem_of_mem_take hy)
    have hmt := mass_take l i
    rw [round22a, round7b, hc, hc2, hcl]
    simp only [cond_false, cond_true, clone _ hNt (by omega), same _ hNt (by omega), dec_t, opt_s, List.getD_cons_zero, tL, tB, true_and]
    simp
  intro r
  induction r with
  | zero =>
    intro i hi sum
    exact ⟨i, stop i sum (by omega) (by rw [dec_f (by omega)]; rfl)⟩
  | succ r ih =>
    intro i hi sum
    have hil : i < l.length := by omega
    cases hc : (bif decide ((i : Int) < (l.length : Int)) then decide (sum < most) else false) with
    | false => exact ⟨i, stop i sum (by omega) hc⟩
    | true =>
      have hx := hN l[i] (List.getElem_mem hil)
      have hdm := drop_mass hil
      have hdl := drop_le l i
      obtain ⟨v1, v2⟩ := hva i hil
      obtain ⟨n, q1, s, q2, q3⟩ := one hx (by omega) v1 v2
      have hnext : IntKind.wrap .i64 ((i : Int) + 1) = ((i + 1 : Nat) : Int) := by rw [wrap_id (by omega) (by omega)]; omega
      have hc2 : cutOk l.length (some (i : Int)) (some ((i + 1 : Nat) : Int)) = true := by simp only [cutOk, Bool.and_eq_true, decide_eq_true_eq]; omega
      have hcl : cutL l (some (i : Int)) (some ((i + 1 : Nat) : Int)) = [l[i]] := by
        show (l.take (i + 1)).drop i = [l[i]]
        rw [List.take_succ_eq_append_getElem hil, List.drop_append_of_le_length (by simp; omega)]
        simp
      obtain ⟨k, e1, e2⟩ := ih (i + 1) (by omega) (IntKind.wrap .i64 (sum + n))
      refine ⟨k, ?_, ?_⟩
      · rw [round22a, hc, hnext, hc2, hcl]
        simp only [cond_true, q1, opt_s, List.getD_cons_zero, tI, e1]
      · rw [round7b, hc, hnext, hc2, hcl]
        simp only [cond_true, q2, q3, opt_s, List.getD_cons_zero, tI, tS, e2]
theorem law {l : List D} (hN : AllN l) (hb : dmass.dmAll l ≤ 1048576) (most : Int) : RUN E 7 [.list l, .int most] = some [.bool true] := by
  obtain ⟨e, c1, c2, c3⟩ := check.check hN hb
  rw [enter7, enter22]
  simp only [c1, c2, opt_s, List.getD_cons_zero, tI]
  by_cases he : e = 0
  · subst he
    simp only [dec_t, cond_true, cond_false]
    cases hr : (bif decide (most < 0) then true else decide (20000 < most)) with
    | true =>
      simp only [cond_true, opt_s, List.getD_cons_zero, List.getD_cons_succ, tI, tL, tB]
      rw [round7a]; rfl
    | false =>
      obtain ⟨k, q1, q2⟩ := loops hN hb (c3 rfl) most l.length 0 (by omega) 0
      replace q1 : L22a l most 0 0 = _ := q1
      replace q2 : L7b l most (l.take k) (decide ((k : Int) < (l.length : Int))) 0 0 0 = some [.bool true] := q2
      simp only [cond_false, q1, opt_s, List.getD_cons_zero, List.getD_cons_succ, tI, tL, tB]
      rw [round7a]
      exact q2
  · simp only [dec_f he, cond_true, cond_false, opt_s, List.getD_cons_zero, List.getD_cons_succ, tI, tL, tB]
    rw [round7a]
    simp [dec_f he]
theorem lawR {M M' : Mem} {v v' : Value} {l : List D} {most : Int} (h : Rep E.tt M (.slice 60) v (.list l)) (_ : Rep E.tt M' (.int .i64) v' (.int most)) (hb : dmass.dmAll [.list l, .int most] ≤ 1048576) : RUN E 7 [.list l, .int most] = some [.bool true] := by
  refine law (l := l) ((plains.nd_rep (show Rep tt M (.slice 60) v (.list l) from h)).2 rfl) ?_ most
  simp only [dmass.dmAll, dmass] at hb
  omega
end sums
end Go.Proofs.Ythbncndefigidaa.ms
