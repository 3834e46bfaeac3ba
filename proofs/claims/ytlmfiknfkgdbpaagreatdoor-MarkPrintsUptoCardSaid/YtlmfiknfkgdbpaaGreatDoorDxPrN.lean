/- Printing: rows of inlines, the program and the reference. -/
import Derived.Test.YtlmfiknfkgdbpaaGreatDoorDxPrM
set_option linter.unusedVariables false
set_option linter.unusedSimpArgs false
namespace Go.Proofs.YtlmfiknfkgdbpaaGreatDoor.pr
open Go.Proofs.YtlmfiknfkgdbpaaGreatDoor.DS
namespace prt
open check chk

/-- What is said of a row of inlines. -/
def Inl (ks : List D) (ln : Bool) : Prop := ∀ para at0 : Bool, ∃ o : List UInt8, RUN E 29 [.list ks, .bool para, .bool at0] = some [.str o] ∧ o.length ≤ 4 * dmass.dmAll ks ∧ (ln = false → (10 : UInt8) ∉ o) ∧ (ks ≠ [] → o ≠ []) ∧
  ∀ out : List UInt8, out.length + 4 * dmass.dmAll ks ≤ 1073741824 → ∃ f : Bool, RUN E 70 [.agg [.list (bytesD out), .bool para, .bool (para && at0)], .list ks] = some [.agg [.list (bytesD (out ++ o)), .bool para, .bool f]]

theorem last_no {q : List UInt8} (h : (10 : UInt8) ∉ q) : decide (q.getLast? = some 10) = false := by
  refine dec_f fun e => h ?_
  rcases List.eq_nil_or_concat q with rfl | ⟨a, c, rfl⟩
  · cases e
  · rw [List.concat_eq_append] at e ⊢
    simp at e
    subst e
    simp
theorem esc_ne {bs t : List UInt8} (h : t ≠ []) : esc bs t ≠ [] := by
  cases t with
  | nil => exact absurd rfl h
  | cons c r => rw [esc_cons]; split <;> simp
theorem beg_ne {t : List UInt8} (h : t ≠ []) : beg t ≠ [] := by
  unfold beg
  split
  · simp
  · split
    · simp
    · exact esc_ne h
theorem r98 {para : Bool} {o x sg : List UInt8} {fl : Bool} {k l0 : Int} {t d ti : List UInt8} {kk : List D} (ho : o.length + 4 * dmass.dmAll kk + 16 ≤ 1073741824) (hs : sg.length ≤ 2) (hx : x.length ≤ 4 * dmass.dmAll kk)
    (h : ∀ out : List UInt8, out.length + 4 * dmass.dmAll kk ≤ 1073741824 → ∃ f : Bool, RUN E 70 [.agg [.list (bytesD out), .bool para, .bool (para && false)], .list kk] = some [.agg [.list (bytesD (out ++ x)), .bool para, .bool f]]) :
    RUN E 98 [.agg [.list (bytesD o), .bool para, .bool fl], .str sg, .agg [.int k, .int l0, .str t, .str d, .str ti, .list kk]] = some [.agg [.list (bytesD (o ++ (sg ++ x ++ sg))), .bool para, .bool false]] := by
  obtain ⟨f, hf⟩ := h (o ++ sg) (by rw [List.length_append]; omega)
  rw [Bool.and_false] at hf
  rw [enter98, r97 _ _ _ _ (by omega)]
  simp only [D.cell, D.cells, opt_s, List.getD_cons_zero, List.getD_cons_succ, tB, tL]
  rw [hf]
  simp only [opt_s, D.cells, List.getD_cons_zero, List.getD_cons_succ, tB, tL]
  rw [r97 _ _ _ _ (by simp only [List.length_append]; omega)]
  simp [opt_s, D.cells, tB, tL]

/-- One inline. -/
theorem el {k l0 : Int} {t d ti : List UInt8} {kk : List D} (h11 : 11 ≤ k) (h18 : k ≤ 18) (hm : dmass (.agg [.int k, .int l0, .str t, .str d, .str ti, .list kk]) ≤ 1048576) {ln : Bool}
    (ht : k = 11 ∨ k = 16 ∨ k = 18 → (10 : UInt8) ∉ t) (hd : (10 : UInt8) ∉ d) (hti : (10 : UInt8) ∉ ti) (hbrk : brk k = true → ln = true) (h1 : k = 11 → t ≠ []) (hI : k = 14 ∨ k = 15 ∨ k = 17 → Inl kk ln) (para a : Bool) :
    ∃ q : List UInt8, q ≠ [] ∧ decide (q.getLast? = some 10) = brk k ∧ q.length ≤ 4 * dmass (.agg [.int k, .int l0, .str t, .str d, .str ti, .list kk]) ∧ (ln = false → (10 : UInt8) ∉ q) ∧
      (∀ (at0 : Bool) (oi : List UInt8) (l : List D) (i : Nat), oi.length ≤ 1073741824 → i ≤ 1048576 → C29b para at0 oi a (TG d ti) l (l.length : Int) i (.agg [.int k, .int l0, .str t, .str d, .str ti, .list kk]) = L29a para at0 (oi ++ q) l (l.length : Int) ((i + 1 : Nat) : Int)) ∧
      ∀ (o2 : List UInt8) (l : List D) (i : Nat), o2.length + 4 * dmass (.agg [.int k, .int l0, .str t, .str d, .str ti, .list kk]) ≤ 1073741824 → i < l.length → l.length ≤ 1048576 → l.getD i .no = .agg [.int k, .int l0, .str t, .str d, .str ti, .list kk] →
        L70a l (l.length : Int) i para (para && a) (bytesD o2) = L70a l (l.length : Int) ((i + 1 : Nat) : Int) para (para && brk k) (bytesD (o2 ++ q)) := by
  simp only [dmass, dmass.dmAll] at hm ⊢
  have hT := TG_len d ti
  have hmem : ∀ {o : List UInt8} {x : List UInt8}, (10 : UInt8) ∉ o → ∀ {p q : List UInt8}, (10 : UInt8) ∉ p → (10 : UInt8) ∉ q → (10 : UInt8) ∉ p ++ o ++ q := by
    intro o x ho p q hp hq h
    simp only [List.mem_append] at h
    rcases h with (h | h) | h
    · exact hp h
    · exact ho h
    · exact hq h
  have hTG : (10 : UInt8) ∉ TG d ti := by
    intro h
    rcases TG_mem h with h | h | h | h
    · exact hd h
    · cases h
    · cases h
    · exact hti h
  have key70 : ∀ (q : List UInt8) (nb : Bool), (∀ (o2 : List UInt8), o2.length + 4 * (1 + (1 + (t.length + 1 + (d.length + 1 + (ti.length + 1 + (dmass.dmAll kk + 1 + 0)))))) ≤ 1073741824 → ∀ (l : List D) (i : Nat), i < l.length → l.length ≤ 1048576 → l.getD i .no = .agg [.int k, .int l0, .str t, .str d, .str ti, .list kk] →
      L70a l (l.length : Int) i para (para && a) (bytesD o2) = L70a l (l.length : Int) ((i + 1 : Nat) : Int) para (para && nb) (bytesD (o2 ++ q))) → nb = brk k →
      ∀ (o2 : List UInt8) (l : List D) (i : Nat), o2.length + 4 * (1 + (1 + (t.length + 1 + (d.length + 1 + (ti.length + 1 + (dmass.dmAll kk + 1 + 0)))))) ≤ 1073741824 → i < l.length → l.length ≤ 1048576 → l.getD i .no = .agg [.int k, .int l0, .str t, .str d, .str ti, .list kk] →
        L70a l (l.length : Int) i para (para && a) (bytesD o2) = L70a l (l.length : Int) ((i + 1 : Nat) : Int) para (para && brk k) (bytesD (o2 ++ q)) := by
    intro q nb h e o2 l i h1 h2 h3 h4
    rw [← e]; exact h o2 h1 l i h2 h3 h4
  rcases (by omega : k = 11 ∨ k = 12 ∨ k = 13 ∨ k = 14 ∨ k = 15 ∨ k = 16 ∨ k = 17 ∨ k = 18) with h | h | h | h | h | h | h | h <;> subst h
  · -- a string
    have ht0 := h1 rfl
    have h10 := ht (.inl rfl)
    have e54 := escR t SS (by omega)
    have e53 := begR t (by omega) ht0
    have l1 := esc_len SS t
    have l2 := beg_len t
    refine ⟨if (para && a) then beg t else esc SS t, ?_, ?_, ?_, ?_, ?_, ?_⟩
    · split
      · exact beg_ne ht0
      · exact esc_ne ht0
    · refine last_no fun h => ?_
      split at h
      · rcases beg_mem h with h | h
        · cases h
        · exact h10 h
      · rcases esc_mem h with h | h
        · cases h
        · exact h10 h
    · split <;> omega
    · intro _ h
      split at h
      · rcases beg_mem h with h | h
        · cases h
        · exact h10 h
      · rcases esc_mem h with h | h
        · cases h
        · exact h10 h
    · intro at0 oi l i ho hi
      rw [round29b]
      simp only [D.cell, D.cells, List.getD_cons_zero, List.getD_cons_succ, tI, tS, nxt (show i ≤ 4611686018427387904 by omega), show ([92, 96, 42, 91, 93, 33, 124] : List UInt8) = SS from rfl, e53, e54, opt_s]
      rw [lim_t (n := oi.length) (m := (beg t).length) (by omega), lim_t (n := oi.length) (m := (esc SS t).length) (by omega)]
      cases para <;> cases a <;> rfl
    · refine key70 _ false (fun o2 ho l i hi hl hg => ?_) rfl
      rw [round70a, dec_t (by omega), inb_nat hi, Int.toNat_natCast, hg, nxt (by omega)]
      simp only [D.cell, D.cells, List.getD_cons_zero, List.getD_cons_succ, tI, tS]
      rw [strP o2 t para (para && a) (by omega) (by omega) ht0]
      simp only [opt_s, List.getD_cons_zero, List.getD_cons_succ, tB, tL, Bool.and_false]
      rfl
  · -- the end of a line
    refine ⟨[10], by simp, rfl, by simp; omega, fun h => ?_, ?_, ?_⟩
    · have := hbrk rfl; rw [h] at this; cases this
    · intro at0 oi l i ho hi
      rw [round29b]
      simp only [D.cell, D.cells, List.getD_cons_zero, List.getD_cons_succ, tI, tS, nxt (show i ≤ 4611686018427387904 by omega)]
      rw [lim_t (n := oi.length) (m := ([10] : List UInt8).length) (by simp; omega)]
      rfl
    · refine key70 _ true (fun o2 ho l i hi hl hg => ?_) rfl
      rw [round70a, dec_t (by omega), inb_nat hi, Int.toNat_natCast, hg, nxt (by omega)]
      simp only [D.cell, D.cells, List.getD_cons_zero, List.getD_cons_succ, tI, tS]
      rw [r97 o2 [10] para (para && a) (by simp; omega)]
      simp only [opt_s, List.getD_cons_zero, List.getD_cons_succ, tB, tL, Bool.and_true]
      rfl
  · -- a line break
    refine ⟨[92, 10], by simp, rfl, by simp; omega, fun h => ?_, ?_, ?_⟩
    · have := hbrk rfl; rw [h] at this; cases this
    · intro at0 oi l i ho hi
      rw [round29b]
      simp only [D.cell, D.cells, List.getD_cons_zero, List.getD_cons_succ, tI, tS, nxt (show i ≤ 4611686018427387904 by omega)]
      rw [lim_t (n := oi.length) (m := ([92, 10] : List UInt8).length) (by simp; omega)]
      rfl
    · refine key70 _ true (fun o2 ho l i hi hl hg => ?_) rfl
      rw [round70a, dec_t (by omega), inb_nat hi, Int.toNat_natCast, hg, nxt (by omega)]
      simp only [D.cell, D.cells, List.getD_cons_zero, List.getD_cons_succ, tI, tS]
      rw [r97 o2 [92, 10] para (para && a) (by simp; omega)]
      simp only [opt_s, List.getD_cons_zero, List.getD_cons_succ, tB, tL, Bool.and_true]
      rfl
  · -- Emph
    obtain ⟨x, x1, x2, x3, _, x5⟩ := hI (.inl rfl) para false
    refine ⟨[42] ++ x ++ [42], by simp, by rw [List.getLast?_append]; rfl, by simp; omega, fun h => hmem (x := []) (x3 h) (by decide) (by decide), ?_, ?_⟩
    · intro at0 oi l i ho hi
      rw [round29b]
      simp only [D.cell, D.cells, List.getD_cons_zero, List.getD_cons_succ, tI, tS, tL, nxt (show i ≤ 4611686018427387904 by omega)]
      rw [x1]
      simp only [opt_s, List.getD_cons_zero, tS]
      rw [lim_t (n := ([42] : List UInt8).length) (m := x.length) (by simp; omega), lim_t (n := (([42] : List UInt8) ++ x).length) (m := ([42] : List UInt8).length) (by simp; omega), lim_t (n := oi.length) (m := (([42] : List UInt8) ++ x ++ ([42] : List UInt8)).length) (by simp; omega)]
      rfl
    · refine key70 _ false (fun o2 ho l i hi hl hg => ?_) rfl
      rw [round70a, dec_t (by omega), inb_nat hi, Int.toNat_natCast, hg, nxt (by omega)]
      simp only [D.cell, D.cells, List.getD_cons_zero, List.getD_cons_succ, tI, tS]
      rw [r98 (sg := [42]) (by omega) (by simp) x2 x5]
      simp only [opt_s, List.getD_cons_zero, List.getD_cons_succ, tB, tL, Bool.and_false]
      rfl
  · -- Strong
    obtain ⟨x, x1, x2, x3, _, x5⟩ := hI (.inr (.inl rfl)) para false
    refine ⟨[42, 42] ++ x ++ [42, 42], by simp, by rw [List.getLast?_append]; rfl, by simp; omega, fun h => hmem (x := []) (x3 h) (by decide) (by decide), ?_, ?_⟩
    · intro at0 oi l i ho hi
      rw [round29b]
      simp only [D.cell, D.cells, List.getD_cons_zero, List.getD_cons_succ, tI, tS, tL, nxt (show i ≤ 4611686018427387904 by omega)]
      rw [x1]
      simp only [opt_s, List.getD_cons_zero, tS]
      rw [lim_t (n := ([42, 42] : List UInt8).length) (m := x.length) (by simp; omega), lim_t (n := (([42, 42] : List UInt8) ++ x).length) (m := ([42, 42] : List UInt8).length) (by simp; omega), lim_t (n := oi.length) (m := (([42, 42] : List UInt8) ++ x ++ ([42, 42] : List UInt8)).length) (by simp; omega)]
      rfl
    · refine key70 _ false (fun o2 ho l i hi hl hg => ?_) rfl
      rw [round70a, dec_t (by omega), inb_nat hi, Int.toNat_natCast, hg, nxt (by omega)]
      simp only [D.cell, D.cells, List.getD_cons_zero, List.getD_cons_succ, tI, tS]
      rw [r98 (sg := [42, 42]) (by omega) (by simp) x2 x5]
      simp only [opt_s, List.getD_cons_zero, List.getD_cons_succ, tB, tL, Bool.and_false]
      rfl
  · -- Code
    refine ⟨[96] ++ t ++ [96], by simp, by rw [List.getLast?_append]; rfl, by simp; omega, fun _ => hmem (x := []) (ht (.inr (.inl rfl))) (by decide) (by decide), ?_, ?_⟩
    · intro at0 oi l i ho hi
      rw [round29b]
      simp only [D.cell, D.cells, List.getD_cons_zero, List.getD_cons_succ, tI, tS, tL, nxt (show i ≤ 4611686018427387904 by omega)]
      rw [lim_t (n := ([96] : List UInt8).length) (m := t.length) (by simp; omega), lim_t (n := (([96] : List UInt8) ++ t).length) (m := ([96] : List UInt8).length) (by simp; omega), lim_t (n := oi.length) (m := (([96] : List UInt8) ++ t ++ ([96] : List UInt8)).length) (by simp; omega)]
      rfl
    · refine key70 _ false (fun o2 ho l i hi hl hg => ?_) rfl
      rw [round70a, dec_t (by omega), inb_nat hi, Int.toNat_natCast, hg, nxt (by omega)]
      simp only [D.cell, D.cells, List.getD_cons_zero, List.getD_cons_succ, tI, tS]
      rw [lim_t (n := ([96] : List UInt8).length) (m := t.length) (by simp; omega), lim_t (n := (([96] : List UInt8) ++ t).length) (m := ([96] : List UInt8).length) (by simp; omega), r97 o2 ([96] ++ t ++ [96]) para (para && a) (by simp; omega)]
      simp only [opt_s, List.getD_cons_zero, List.getD_cons_succ, tB, tL, Bool.and_false]
      rfl
  · -- Link
    obtain ⟨x, x1, x2, x3, _, x5⟩ := hI (.inr (.inr rfl)) para false
    refine ⟨[91] ++ x ++ ([93, 40] ++ TG d ti ++ [41]), by simp, by rw [List.getLast?_append, List.getLast?_append]; rfl, by simp; omega, fun h => hmem (x := []) (x3 h) (by decide) (hmem (x := []) hTG (by decide) (by decide)), ?_, ?_⟩
    · intro at0 oi l i ho hi
      rw [round29b]
      simp only [D.cell, D.cells, List.getD_cons_zero, List.getD_cons_succ, tI, tS, tL, nxt (show i ≤ 4611686018427387904 by omega)]
      rw [x1]
      simp only [opt_s, List.getD_cons_zero, tS]
      rw [lim_t (n := ([91] : List UInt8).length) (m := x.length) (by simp; omega), lim_t (n := (([91] : List UInt8) ++ x).length) (m := ([93, 40] : List UInt8).length) (by simp; omega), lim_t (n := (([91] : List UInt8) ++ x ++ ([93, 40] : List UInt8)).length) (m := (TG d ti).length) (by simp; omega),
        lim_t (n := (([91] : List UInt8) ++ x ++ ([93, 40] : List UInt8) ++ TG d ti).length) (m := ([41] : List UInt8).length) (by simp; omega), lim_t (n := oi.length) (m := (([91] : List UInt8) ++ x ++ ([93, 40] : List UInt8) ++ TG d ti ++ ([41] : List UInt8)).length) (by simp; omega)]
      rw [show ([91] : List UInt8) ++ x ++ ([93, 40] ++ TG d ti ++ [41]) = ([91] : List UInt8) ++ x ++ ([93, 40] : List UInt8) ++ TG d ti ++ ([41] : List UInt8) by simp]
      rfl
    · refine key70 _ false (fun o2 ho l i hi hl hg => ?_) rfl
      obtain ⟨f, hf⟩ := x5 (o2 ++ [91]) (by simp; omega)
      rw [Bool.and_false] at hf
      rw [round70a, dec_t (by omega), inb_nat hi, Int.toNat_natCast, hg, nxt (by omega)]
      rw [r97 o2 [91] para (para && a) (by simp; omega)]
      simp only [D.cell, D.cells, opt_s, List.getD_cons_zero, List.getD_cons_succ, tI, tS, tB, tL]
      rw [hf]
      simp only [D.cells, opt_s, List.getD_cons_zero, List.getD_cons_succ, tI, tS, tB, tL]
      rw [r99 (o2 ++ [91] ++ x) para f (by simp; omega)]
      simp only [D.cells, opt_s, List.getD_cons_zero, List.getD_cons_succ, tB, tL, Bool.and_false]
      rw [show o2 ++ ([91] ++ x ++ ([93, 40] ++ TG d ti ++ [41])) = o2 ++ [91] ++ x ++ ([93, 40] ++ TG d ti ++ [41]) by simp]
      rfl
  · -- Image
    have e54 := escR t [92, 96, 91, 93] (by omega)
    have e100 := escP t [92, 96, 91, 93] (by omega)
    have l1 := esc_len [92, 96, 91, 93] t
    have h10 : (10 : UInt8) ∉ esc [92, 96, 91, 93] t := fun h => by
      rcases esc_mem h with h | h
      · cases h
      · exact ht (.inr (.inr rfl)) h
    refine ⟨[33, 91] ++ esc [92, 96, 91, 93] t ++ ([93, 40] ++ TG d ti ++ [41]), by simp, by rw [List.getLast?_append, List.getLast?_append]; rfl, by simp; omega, fun _ => hmem (x := []) h10 (by decide) (hmem (x := []) hTG (by decide) (by decide)), ?_, ?_⟩
    · intro at0 oi l i ho hi
      rw [round29b]
      simp only [D.cell, D.cells, List.getD_cons_zero, List.getD_cons_succ, tI, tS, tL, nxt (show i ≤ 4611686018427387904 by omega)]
      rw [e54]
      simp only [opt_s, List.getD_cons_zero, tS]
      generalize esc [92, 96, 91, 93] t = x at *
      rw [lim_t (n := ([33, 91] : List UInt8).length) (m := x.length) (by simp; omega), lim_t (n := (([33, 91] : List UInt8) ++ x).length) (m := ([93, 40] : List UInt8).length) (by simp; omega), lim_t (n := (([33, 91] : List UInt8) ++ x ++ ([93, 40] : List UInt8)).length) (m := (TG d ti).length) (by simp; omega),
        lim_t (n := (([33, 91] : List UInt8) ++ x ++ ([93, 40] : List UInt8) ++ TG d ti).length) (m := ([41] : List UInt8).length) (by simp; omega), lim_t (n := oi.length) (m := (([33, 91] : List UInt8) ++ x ++ ([93, 40] : List UInt8) ++ TG d ti ++ ([41] : List UInt8)).length) (by simp; omega)]
      rw [show ([33, 91] : List UInt8) ++ x ++ ([93, 40] ++ TG d ti ++ [41]) = ([33, 91] : List UInt8) ++ x ++ ([93, 40] : List UInt8) ++ TG d ti ++ ([41] : List UInt8) by simp]
      rfl
    · refine key70 _ false (fun o2 ho l i hi hl hg => ?_) rfl
      rw [round70a, dec_t (by omega), inb_nat hi, Int.toNat_natCast, hg, nxt (by omega)]
      simp only [D.cell, D.cells, opt_s, List.getD_cons_zero, List.getD_cons_succ, tI, tS, tB, tL]
      rw [e100]
      simp only [opt_s, List.getD_cons_zero, tS]
      generalize esc [92, 96, 91, 93] t = x at *
      rw [lim_t (n := ([33, 91] : List UInt8).length) (m := x.length) (by simp; omega), r97 o2 ([33, 91] ++ x) para (para && a) (by simp; omega)]
      simp only [D.cells, opt_s, List.getD_cons_zero, List.getD_cons_succ, tI, tS, tB, tL]
      rw [r99 (o2 ++ ([33, 91] ++ x)) para false (by simp; omega)]
      simp only [D.cells, opt_s, List.getD_cons_zero, List.getD_cons_succ, tB, tL, Bool.and_false]
      rw [show o2 ++ ([33, 91] ++ x ++ ([93, 40] ++ TG d ti ++ [41])) = o2 ++ ([33, 91] ++ x) ++ ([93, 40] ++ TG d ti ++ [41]) by simp]
      rfl

/-- A row of inlines. -/
theorem inls : ∀ ks, AllN ks → dmass.dmAll ks ≤ 1048576 → ∀ p, par p → RUN E 13 [.list ks, .int p] = some [.int 0] → ∀ (e s li : Bool) (kind : Int), RUN E 46 [.list ks, .int p, .agg [.bool e, .bool s, .bool li, .bool (decide (kind = 10)), .bool (decide (kind = 2))]] = some [.bool true] → Inl ks (decide (kind = 2)) := by
  refine doc_ind (S := fun ks => dmass.dmAll ks ≤ 1048576 → ∀ p, par p → RUN E 13 [.list ks, .int p] = some [.int 0] → ∀ (e s li : Bool) (kind : Int), RUN E 46 [.list ks, .int p, .agg [.bool e, .bool s, .bool li, .bool (decide (kind = 10)), .bool (decide (kind = 2))]] = some [.bool true] → Inl ks (decide (kind = 2))) fun ks hN hS hb p hp hv e s li kind hg => ?_
  intro para at0
  have hlen := len_le hN
  have hval := valid hN hb hv
  have hgood := good hN hb hp hv hg
  have el' : ∀ i, i < ks.length → ∀ a : Bool, ∃ q : List UInt8, q ≠ [] ∧ decide (q.getLast? = some 10) = brk (D.toInt (D.cell (ks.getD i .no) 0)) ∧ q.length ≤ 4 * dmass (ks.getD i .no) ∧ (decide (kind = 2) = false → (10 : UInt8) ∉ q) ∧
      (∀ (oi : List UInt8), oi.length ≤ 1073741824 → AT at0 oi = a → L29a para at0 oi ks (ks.length : Int) i = L29a para at0 (oi ++ q) ks (ks.length : Int) ((i + 1 : Nat) : Int)) ∧
      ∀ (o2 : List UInt8), o2.length + 4 * dmass (ks.getD i .no) ≤ 1073741824 → L70a ks (ks.length : Int) i para (para && a) (bytesD o2) = L70a ks (ks.length : Int) ((i + 1 : Nat) : Int) para (para && brk (D.toInt (D.cell (ks.getD i .no) 0))) (bytesD (o2 ++ q)) := by
    intro i hi a
    obtain ⟨v1, v2⟩ := hval i hi
    obtain ⟨g1, g2⟩ := hgood i hi
    have hgd : ks.getD i .no = ks[i] := getD_eq ks i .no hi
    have hx := hN ks[i] (List.getElem_mem hi)
    have hdm : dmass ks[i] ≤ 1048576 := by rw [← hgd]; exact Nat.le_trans (mass_getD ks i) hb
    have hSx := hS ks[i] (List.getElem_mem hi)
    rw [hgd] at g1 g2
    rw [hgd]
    generalize hxe : ks[i] = x at *
    cases hx with
    | mk k v t d ti kk hkk =>
      obtain ⟨o1, o2, o3, o4⟩ := okInl hp v1
      have hdm' : dmass (.agg [.int k, .int v, .str t, .str d, .str ti, .list kk]) ≤ 1048576 := hdm
      simp only [dmass, dmass.dmAll] at hdm'
      obtain ⟨w1, w2, w3, w4, w5, w6, _, _⟩ := valid1 v1 (by omega) (by omega) (by omega)
      have hBk : k = 14 ∨ k = 15 ∨ k = 17 → par k := by
        intro hk
        rcases hk with rfl | rfl | rfl
        · exact .inr (.inr (.inr (.inl rfl)))
        · exact .inr (.inr (.inr (.inr (.inl rfl))))
        · exact .inr (.inr (.inr (.inr (.inr rfl))))
      have hB : k = 14 ∨ k = 15 ∨ k = 17 → Below k kk := fun hk => below kk hkk (by omega) k (hBk hk) v2
      obtain ⟨z1, z2⟩ := good77 hdm hB g2
      have k3 : decide (k = 3) = false := dec_f (by omega)
      rw [k3] at w4 w5
      obtain ⟨q, q1, q2, q3, q4, q5, q6⟩ := el (ln := decide (kind = 2)) o1 o2 hdm (fun _ => no10 w4) (no10 w5) (no10 w6) (fun h => dec_t (g1 h)) z1 (fun hk => by
        obtain ⟨_, e', s', li', hz⟩ := z2 hk
        exact hSx (by show dmass.dmAll kk ≤ _; omega) k (hBk hk) v2 e' s' li' kind hz) para a
      refine ⟨q, q1, q2, q3, q4, fun oi ho ha => ?_, fun o2 ho => q6 o2 ks i ho hi (by omega) hgd⟩
      rw [← q5 at0 oi ks i ho (by omega)]
      have e47 : RUN E 47 [.str oi, .str [10]] = some [.bool (hasSuf oi [10])] := by
        rw [enter47, enter78, suf_eq (by omega) (by decide)]; rfl
      rw [round29a, dec_t (by omega), inb_nat hi, Int.toNat_natCast, hgd, e47]
      simp only [cond_true, D.cell, D.cells, List.getD_cons_zero, List.getD_cons_succ, tS]
      have hat : ∀ (F : Bool → R), (opt (cond (bif bif at0 then decide (oi = []) else false then false else true) (some [D.bool (hasSuf oi [10])]) (some [])) fun ρ2 => F (bif bif at0 then decide (oi = []) else false then true else D.toBool (List.getD ρ2 0 D.no))) = F a := by
        intro F
        rw [← ha]
        unfold AT
        cases at0 <;> cases decide (oi = []) <;> rfl
      rw [lim_t (n := ([32, 34] : List UInt8).length) (m := ti.length) (by simp; omega), lim_t (n := (([32, 34] : List UInt8) ++ ti).length) (m := ([34] : List UInt8).length) (by simp; omega), lim_t (n := d.length) (m := (([32, 34] : List UInt8) ++ ti ++ ([34] : List UInt8)).length) (by simp; omega)]
      rw [hat fun A => cond (bif decide (ti = []) then false else true) (cond true (cond true (cond true (C29b para at0 oi A (d ++ ([32, 34] ++ ti ++ [34])) ks (ks.length : Int) i (.agg [.int k, .int v, .str t, .str d, .str ti, .list kk])) none) none) none) (C29b para at0 oi A d ks (ks.length : Int) i (.agg [.int k, .int v, .str t, .str d, .str ti, .list kk]))]
      unfold TG
      by_cases hti : ti = []
      · rw [dec_t hti, if_pos hti]; rfl
      · rw [dec_f hti, if_neg hti]; rfl
  have loop : ∀ n i : Nat, i + n = ks.length → ∀ oi : List UInt8, oi.length + 4 * dmass.dmAll (ks.drop i) ≤ 4 * dmass.dmAll ks → (decide (kind = 2) = false → (10 : UInt8) ∉ oi) →
      ∃ q : List UInt8, L29a para at0 oi ks (ks.length : Int) i = some [.str (oi ++ q)] ∧ (oi ++ q).length ≤ 4 * dmass.dmAll ks ∧ (decide (kind = 2) = false → (10 : UInt8) ∉ oi ++ q) ∧ (i < ks.length → q ≠ []) ∧
        ∀ out : List UInt8, out.length + 4 * dmass.dmAll ks ≤ 1073741824 → ∃ f : Bool, L70a ks (ks.length : Int) i para (para && AT at0 oi) (bytesD (out ++ oi)) = some [.agg [.list (bytesD (out ++ (oi ++ q))), .bool para, .bool f]] := by
    intro n
    induction n with
    | zero =>
      intro i hi oi ho h10
      have : i = ks.length := by omega
      subst this
      refine ⟨[], by rw [round29a, dec_f (by omega), List.append_nil]; rfl, by rw [List.append_nil]; omega, by rw [List.append_nil]; exact h10, fun h => absurd h (by omega), fun out hout => ⟨_, by rw [round70a, dec_f (by omega), List.append_nil]; rfl⟩⟩
    | succ n ih =>
      intro i hi oi ho h10
      have hil : i < ks.length := by omega
      have hdm := drop_mass hil
      have hgd : ks.getD i .no = ks[i] := getD_eq ks i .no hil
      rw [← hgd] at hdm
      obtain ⟨q, q1, q2, q3, q4, q5, q6⟩ := el' i hil (AT at0 oi)
      obtain ⟨r, r1, r2, r3, _, r5⟩ := ih (i + 1) (by omega) (oi ++ q) (by rw [List.length_append]; omega) (fun h hm => by
        rcases List.mem_append.1 hm with hm | hm
        · exact h10 h hm
        · exact q4 h hm)
      rw [List.append_assoc] at r1 r2 r3
      refine ⟨q ++ r, by rw [q5 oi (by omega) rfl, r1], r2, r3, fun _ => by simp [q1], fun out hout => ?_⟩
      obtain ⟨f, hf⟩ := r5 out hout
      refine ⟨f, ?_⟩
      rw [q6 (out ++ oi) (by rw [List.length_append]; omega), ← q2, ← AT_app at0 oi q1, List.append_assoc, hf, List.append_assoc]
  obtain ⟨q, q1, q2, q3, q4, q5⟩ := loop ks.length 0 (by omega) [] (by simp) (fun _ => by simp)
  rw [List.nil_append] at q1 q2 q3
  refine ⟨q, by rw [enter29]; exact q1, q2, q3, fun h => q4 (by have := ne_lenD h; omega), fun out hout => ?_⟩
  obtain ⟨f, hf⟩ := q5 out hout
  rw [List.append_nil, List.nil_append] at hf
  refine ⟨f, ?_⟩
  rw [enter70, ← hf]
  have : AT at0 [] = at0 := by unfold AT; cases at0 <;> rfl
  rw [this]; rfl
end prt
end Go.Proofs.YtlmfiknfkgdbpaaGreatDoor.pr
