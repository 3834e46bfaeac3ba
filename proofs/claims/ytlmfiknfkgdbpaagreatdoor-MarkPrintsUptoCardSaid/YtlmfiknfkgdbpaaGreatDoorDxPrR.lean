/- Printing: what goodness says of blocks; all blocks; the law. -/
import Derived.Test.YtlmfiknfkgdbpaaGreatDoorDxPrP
set_option linter.unusedVariables false
set_option linter.unusedSimpArgs false
namespace Go.Proofs.YtlmfiknfkgdbpaaGreatDoor.pr
open Go.Proofs.YtlmfiknfkgdbpaaGreatDoor.DS
namespace prt
open check chk

def Blk (ks : List D) (c : Nat) : Prop := ∃ ls : List (List UInt8), RUN E 15 [.list ks] = some [.list (ls.map .str)] ∧ RUN E 10 [.list ks] = some [.str (unl ls)] ∧ (∀ x ∈ ls, (10 : UInt8) ∉ x) ∧ ls.length ≤ 4 * dmass.dmAll ks ∧ (unl ls).length ≤ (8 + 48 * c) * dmass.dmAll ks

theorem b40 (s : List UInt8) (h : s.length ≤ 1000000000) : RUN E 40 [.str s, .str [10]] = some [.bool (hasPre s [10])] := by
  rw [enter40, enter71, pre_eq (by omega) (by decide)]; rfl
theorem pre_head (x : List UInt8) (r : List (List UInt8)) (hx : (10 : UInt8) ∉ x) : hasPre (unl (x :: r)) [10] = decide (x = []) := by
  rw [unl_cons]
  unfold hasPre
  cases x with
  | nil => simp
  | cons c y =>
    have : c ≠ 10 := fun e => hx (by rw [e]; exact List.mem_cons_self)
    simp [this]
theorem big {c m : Nat} (hc : c ≤ 12) (hm : m ≤ 1048576) : (8 + 48 * c) * m ≤ 612368384 := by
  have h1 : 8 + 48 * c ≤ 584 := by omega
  have := Nat.mul_le_mul h1 hm
  omega
/-- A quote. -/
theorem el4 {l0 : Int} {t d ti : List UInt8} {kk : List D} (hm : dmass (.agg [.int 4, .int l0, .str t, .str d, .str ti, .list kk]) ≤ 1048576) {c : Nat} (hc : c + 1 ≤ 12) (hB : Blk kk c) : El (.agg [.int 4, .int l0, .str t, .str d, .str ti, .list kk]) (c + 1) := by
  simp only [dmass, dmass.dmAll] at hm
  obtain ⟨ls, h1, h2, h3, h4, h5⟩ := hB
  have hb := big (c := c) (m := dmass.dmAll kk) (by omega) (by omega)
  have hf : ∃ f : List UInt8, (f = [62] ∨ f = [62, 32]) ∧ RUN E 41 [.str (unl ls), .str f, .str [62], .str [62, 32]] = some [.str (unl (pre f [62] [62, 32] ls))] ∧ (f = if hasPre (unl ls) [10] then [62] else [62, 32]) ∧ pre f [62] [62, 32] ls = ls.map fun y => (if y = [] then [62] else [62, 32]) ++ y := by
    refine ⟨if hasPre (unl ls) [10] then [62] else [62, 32], by split <;> simp, b41 _ _ _ ls (by omega) (by split <;> simp) (by simp) (by simp) (by omega) h3, rfl, ?_⟩
    cases ls with
    | nil => rfl
    | cons x r =>
      rw [pre_head x r (h3 x List.mem_cons_self)]
      simp only [pre, List.map_cons, decide_eq_true_eq]
  obtain ⟨f, f1, f2, f3, f4⟩ := hf
  have hfl : f.length ≤ 2 := by rcases f1 with rfl | rfl <;> simp
  have hfn : (10 : UInt8) ∉ f := by rcases f1 with rfl | rfl <;> decide
  have hpl := pre_len f [62] [62, 32] ls
  have hpu := pre_unl (m := 2) hfl (by simp) (by simp) (empty := [62]) (other := [62, 32]) ls
  refine ⟨pre f [62] [62, 32] ls, ?_, pre_no hfn (by decide) (by decide) h3, ?_, ?_, ?_⟩
  · rw [enter22]
    simp only [D.cell, D.cells, List.getD_cons_zero, List.getD_cons_succ, tI, tS, tL, decide_true]
    rw [h2]
    simp only [opt_s, List.getD_cons_zero, tS]
    rw [b40 _ (by omega)]
    simp only [opt_s, List.getD_cons_zero, tB]
    cases hp : hasPre (unl ls) [10] with
    | true =>
      rw [hp] at f3
      simp only [if_true] at f3
      subst f3
      rw [f2]; rfl
    | false =>
      rw [hp] at f3
      simp only [Bool.false_eq_true, if_false] at f3
      subst f3
      rw [f2]; rfl
  · rw [hpl]; simp only [dmass, dmass.dmAll]; omega
  · simp only [dmass, dmass.dmAll]
    have e1 : (8 + 48 * (c + 1)) * (1 + (1 + (t.length + 1 + (d.length + 1 + (ti.length + 1 + (dmass.dmAll kk + 1 + 0)))))) ≥ (8 + 48 * (c + 1)) * (dmass.dmAll kk + 1) := Nat.mul_le_mul_left _ (by omega)
    have e2 : (8 + 48 * (c + 1)) * (dmass.dmAll kk + 1) = (8 + 48 * c) * dmass.dmAll kk + 48 * dmass.dmAll kk + (8 + 48 * (c + 1)) := by
      rw [Nat.mul_add, Nat.mul_one, show 8 + 48 * (c + 1) = 8 + 48 * c + 48 by omega, Nat.add_mul]
    omega
  · intro l i out hi ho
    have hd : ∀ n j : Nat, j + n = ls.length → ∀ o : List D, o.length + n ≤ 16777216 → L15d l (l.length : Int) i (ls.map .str) ((ls.map D.str).length : Int) j o = L15a l (l.length : Int) ((i + 1 : Nat) : Int) (o ++ ((ls.drop j).map fun y => (if y = [] then [62] else [62, 32]) ++ y).map D.str) := by
      intro n
      induction n with
      | zero =>
        intro j hj o _
        have : j = ls.length := by omega
        subst this
        rw [round15d, dec_f (by rw [List.length_map]; omega), nxt (show i ≤ 4611686018427387904 by omega), List.drop_length]; simp
      | succ n ih =>
        intro j hj o ho
        have hjl : j < ls.length := by omega
        have hx : ls[j].length + 1 ≤ (unl ls).length := mem_unl (List.getElem_mem hjl)
        rw [round15d, dec_t (by rw [List.length_map]; omega), inb_nat (by rw [List.length_map]; exact hjl), Int.toNat_natCast, getD_map_str hjl, nxt (show j ≤ 4611686018427387904 by omega), List.drop_eq_getElem_cons hjl, List.map_cons, List.map_cons]
        simp only [cond_true]
        by_cases he : ls[j] = []
        · rw [dec_t he, if_pos he, he, fit_t (n := o.length) (m := [D.str ([62] : List UInt8)].length) (by simp; omega)]
          simp only [cond_true]
          rw [ih (j + 1) (by omega) _ (by simp; omega)]
          simp
        · rw [dec_f he, if_neg he, fit_t (n := o.length) (m := [D.str (([62, 32] : List UInt8) ++ ls[j])].length) (by simp; omega), lim_t (n := ([62, 32] : List UInt8).length) (m := ls[j].length) (by simp; omega)]
          simp only [cond_true, cond_false]
          rw [ih (j + 1) (by omega) _ (by simp; omega)]
          simp
    have hd0 : L15d l (l.length : Int) i (ls.map .str) ((ls.map D.str).length : Int) 0 out = L15a l (l.length : Int) ((i + 1 : Nat) : Int) (out ++ (pre f [62] [62, 32] ls).map D.str) := by
      rw [f4]
      have := hd ls.length 0 (by omega) out (by omega)
      rw [List.drop_zero] at this
      exact this
    rw [round15b]
    simp only [D.cell, D.cells, List.getD_cons_zero, List.getD_cons_succ, tI, tS, tL, decide_true]
    rw [h1]
    simp only [opt_s, List.getD_cons_zero, tL]
    rw [hd0]
    rfl

/-! ### Lists -/
def sgn (lv : Int) (j : Nat) : List UInt8 := if 0 ≤ lv then Lib.itoa (mmInt false (IntKind.wrap IntKind.i64 (lv + (j : Int))) 9999) ++ [46, 32] else [45, 32]
theorem sg_facts {lv : Int} (h1 : -1 ≤ lv) (h2 : lv ≤ 9999) {j : Nat} (hj : j ≤ 1048576) : (sgn lv j).length ≤ 22 ∧ (10 : UInt8) ∉ sgn lv j ∧ (0 ≤ lv → (Lib.itoa (mmInt false (IntKind.wrap IntKind.i64 (lv + (j : Int))) 9999)).length ≤ 20) := by
  unfold sgn
  by_cases h : 0 ≤ lv
  · have hw : IntKind.wrap IntKind.i64 (lv + (j : Int)) = lv + j := wrap_id (by omega) (by omega)
    have hm : 0 ≤ mmInt false (lv + (j : Int)) 9999 ∧ mmInt false (lv + (j : Int)) 9999 ≤ 9999 := by
      unfold mmInt
      by_cases hh : (9999 : Int) < lv + j
      · rw [dec_t hh]; simp
      · rw [dec_f hh]; simp; omega
    rw [if_pos h, hw]
    have hl := itoa_len (n := mmInt false (lv + (j : Int)) 9999) (by omega) (by omega)
    refine ⟨by simp; omega, fun hm2 => ?_, fun _ => hl⟩
    rcases List.mem_append.1 hm2 with hm2 | hm2
    · exact itoa_no hm.1 hm2
    · revert hm2; decide
  · rw [if_neg h]
    exact ⟨by simp, by decide, fun hh => absurd hh h⟩
def sp (s : List UInt8) : List UInt8 := Lib.repeatL [32] s.length
theorem sp_len (s : List UInt8) : (sp s).length = s.length := by unfold sp; rw [rep_len]; simp
theorem sp_no (s : List UInt8) : (10 : UInt8) ∉ sp s := fun h => by have := rep_mem h; revert this; decide
def il (s : List UInt8) (ls : List (List UInt8)) : List (List UInt8) := pre s [] (sp s) ls
theorem b33a {s : List UInt8} {item : D} {ls : List (List UInt8)} (h1 : RUN E 15 [.list (D.toList (D.cell item 5))] = some [.list (ls.map .str)]) (hs : s.length ≤ 22) (hu : (unl ls).length ≤ 1000000000) (hl : ls.length ≤ 8388608) : C33a s item = some [.list ((il s ls).map .str)] := by
  have e28 : RUN E 28 [.str [32], .int (s.length : Int)] = some [.str (sp s)] := b28 [32] s.length (by simp; omega)
  have hsp := sp_len s
  rw [round33a, h1]
  simp only [opt_s, List.getD_cons_zero, tL]
  have rest : ∀ n i : Nat, i + n = ls.length → 0 < i → ∀ A : List (List UInt8), A.length = i → L33b s ((ls.map D.str).length : Int) i ((A ++ ls.drop i).map .str) = some [.list ((A ++ (ls.drop i).map fun y => (if y = [] then [] else sp s) ++ y).map .str)] := by
    intro n
    induction n with
    | zero =>
      intro i hi _ A hA
      have : i = ls.length := by omega
      subst this
      rw [round33b, dec_f (by rw [List.length_map]; omega), List.drop_length]; simp
    | succ n ih =>
      intro i hi h0 A hA
      have hil : i < ls.length := by omega
      have hx : ls[i].length + 1 ≤ (unl ls).length := mem_unl (List.getElem_mem hil)
      have hdr := List.drop_eq_getElem_cons hil
      have hlen : ((A ++ ls.drop i).map D.str).length = ls.length := by simp [hA]; omega
      have hgd : D.toStr (((A ++ ls.drop i).map D.str).getD i .no) = ls[i] := by
        rw [hdr, List.getD_eq_getElem?_getD, List.getElem?_map, List.getElem?_append_right (by omega), hA, Nat.sub_self]
        rfl
      rw [round33b, dec_t (by rw [List.length_map]; omega), inb_nat (by rw [hlen]; exact hil), Int.toNat_natCast, hgd, dec_f (p := (i : Int) = 0) (by omega), nxt (by omega), e28]
      simp only [cond_true, cond_false, opt_s, List.getD_cons_zero, tS]
      by_cases he : ls[i] = []
      · rw [dec_t he]
        simp only [cond_true, cond_false]
        have := ih (i + 1) (by omega) (by omega) (A ++ [ls[i]]) (by simp [hA])
        rw [List.append_assoc, List.singleton_append, ← hdr] at this
        rw [this, hdr, List.map_cons, he]
        simp
      · rw [dec_f he, lim_t (n := (sp s).length) (m := ls[i].length) (by omega)]
        simp only [cond_true, cond_false]
        have hset : List.set ((A ++ ls.drop i).map D.str) i (D.str (sp s ++ ls[i])) = ((A ++ [sp s ++ ls[i]]) ++ ls.drop (i + 1)).map D.str := by
          rw [hdr, List.map_append, List.map_cons]
          have := set_mid (D.str ls[i]) (D.str (sp s ++ ls[i])) ((ls.drop (i + 1)).map D.str) (A.map D.str)
          rw [List.length_map, hA] at this
          rw [this]; simp
        rw [hset, ih (i + 1) (by omega) (by omega) _ (by simp [hA]), hdr, List.map_cons, if_neg he]
        simp
  cases ls with
  | nil =>
    rw [show ((List.map D.str ([] : List (List UInt8))).length : Int) = 0 from rfl, round33b, dec_f (by omega)]; rfl
  | cons x r =>
    have hx : x.length + 1 ≤ (unl (x :: r)).length := mem_unl List.mem_cons_self
    rw [show ((0 : Int)) = ((0 : Nat) : Int) from rfl, round33b, dec_t (by simp), inb_nat (by simp), Int.toNat_natCast, dec_t (p := ((0 : Nat) : Int) = 0) rfl, nxt (by omega)]
    simp only [cond_true, List.map_cons, List.getD_cons_zero, tS, List.set_cons_zero]
    rw [lim_t (n := s.length) (m := x.length) (by omega)]
    have := rest r.length 1 (by simp; omega) (by omega) [s ++ x] rfl
    simp only [List.drop_succ_cons, List.drop_zero, List.singleton_append, List.map_cons] at this
    simp only [cond_true]
    rw [this]
    simp [il, pre]
theorem b33 {lv : Int} (h1 : -1 ≤ lv) (h2 : lv ≤ 9999) {j : Nat} (hj : j ≤ 1048576) {item : D} {ls : List (List UInt8)} (h : RUN E 15 [.list (D.toList (D.cell item 5))] = some [.list (ls.map .str)]) (hu : (unl ls).length ≤ 1000000000) (hl : ls.length ≤ 8388608) :
    RUN E 33 [.int lv, .int (j : Int), item] = some [.list ((il (sgn lv j) ls).map .str)] := by
  obtain ⟨s1, s2, s3⟩ := sg_facts h1 h2 hj
  have := b33a h s1 hu hl
  rw [enter33]
  unfold sgn at this ⊢
  by_cases h0 : 0 ≤ lv
  · rw [if_pos h0] at this ⊢
    rw [dec_t h0, b56]
    simp only [cond_true, opt_s, List.getD_cons_zero, tS]
    have := s3 h0
    rw [lim_t (n := (Lib.itoa (mmInt false (IntKind.wrap IntKind.i64 (lv + (j : Int))) 9999)).length) (m := ([46, 32] : List UInt8).length) (by simp; omega)]
    simp only [cond_true]
    assumption
  · rw [if_neg h0] at this ⊢
    rw [dec_f h0]
    simp only [cond_false]
    assumption
/-- An item, the program's. -/
theorem b42 {lv : Int} (h1 : -1 ≤ lv) (h2 : lv ≤ 9999) {t d ti : List UInt8} {kk : List D} {j : Nat} (hj : j < kk.length) (hl0 : kk.length ≤ 1048576) {ls : List (List UInt8)} (h : RUN E 10 [.list (D.toList (D.cell (kk.getD j .no) 5))] = some [.str (unl ls)]) (hu : (unl ls).length ≤ 900000000) (hl : ls.length ≤ 4194304) (hn : ∀ x ∈ ls, (10 : UInt8) ∉ x) (o : List UInt8) (ho : o.length ≤ 30000000000) :
    L42a kk (kk.length : Int) j (.agg [.int 5, .int lv, .str t, .str d, .str ti, .list kk]) (bytesD o) = L42a kk (kk.length : Int) ((j + 1 : Nat) : Int) (.agg [.int 5, .int lv, .str t, .str d, .str ti, .list kk]) (bytesD (o ++ unl (il (sgn lv j) ls))) := by
  obtain ⟨s1, s2, s3⟩ := sg_facts h1 h2 (show j ≤ 1048576 by omega)
  have hsp := sp_len (sgn lv j)
  have hpu := pre_unl (m := 22) s1 (by simp : ([] : List UInt8).length ≤ 22) (by omega : (sp (sgn lv j)).length ≤ 22) ls
  have e41 := b41 (sgn lv j) [] (sp (sgn lv j)) ls (by omega) (by omega) (by simp) (by omega) (by omega) hn
  have e28 : RUN E 28 [.str [32], .int ((sgn lv j).length : Int)] = some [.str (sp (sgn lv j))] := b28 [32] (sgn lv j).length (by simp; omega)
  have e21 := r21 o (unl (il (sgn lv j) ls)) (by unfold il; omega)
  rw [round42a, dec_t (by omega), inb_nat hj, Int.toNat_natCast, nxt (by omega), h]
  simp only [cond_true, D.cell, D.cells, List.getD_cons_zero, List.getD_cons_succ, tI]
  by_cases h0 : 0 ≤ lv
  · have hs : sgn lv j = Lib.itoa (mmInt false (IntKind.wrap IntKind.i64 (lv + (j : Int))) 9999) ++ [46, 32] := by unfold sgn; rw [if_pos h0]
    have hl3 := s3 h0
    rw [dec_t h0, b56]
    simp only [cond_true, opt_s, List.getD_cons_zero, tS]
    rw [lim_t (n := (Lib.itoa (mmInt false (IntKind.wrap IntKind.i64 (lv + (j : Int))) 9999)).length) (m := ([46, 32] : List UInt8).length) (by simp; omega), ← hs, e28]
    simp only [cond_true, opt_s, List.getD_cons_zero, tS]
    rw [e41]
    simp only [opt_s, List.getD_cons_zero, tS]
    rw [show pre (sgn lv j) [] (sp (sgn lv j)) ls = il (sgn lv j) ls from rfl, e21]
    simp only [opt_s, D.cells, List.getD_cons_zero, List.getD_cons_succ, tL]
  · have hs : sgn lv j = [45, 32] := by unfold sgn; rw [if_neg h0]
    rw [dec_f h0]
    simp only [cond_false, opt_s, List.getD_cons_zero, tS]
    rw [← hs, e28]
    simp only [opt_s, List.getD_cons_zero, tS]
    rw [e41]
    simp only [opt_s, List.getD_cons_zero, tS]
    rw [show pre (sgn lv j) [] (sp (sgn lv j)) ls = il (sgn lv j) ls from rfl, e21]
    simp only [opt_s, D.cells, List.getD_cons_zero, List.getD_cons_succ, tL]
/-- A list. -/
theorem el5 {lv : Int} {t d ti : List UInt8} {kk : List D} (hm : dmass (.agg [.int 5, .int lv, .str t, .str d, .str ti, .list kk]) ≤ 1048576) {c : Nat} (hc : c + 2 ≤ 12) (h1 : -1 ≤ lv) (h2 : lv ≤ 9999) (hN : AllN kk) (hB : ∀ y ∈ kk, Blk (kidsOf y) c) : El (.agg [.int 5, .int lv, .str t, .str d, .str ti, .list kk]) (c + 2) := by
  simp only [dmass, dmass.dmAll] at hm
  have hlen := len_le hN
  have loop : ∀ n j : Nat, j + n = kk.length → ∃ xs : List (List UInt8), (∀ x ∈ xs, (10 : UInt8) ∉ x) ∧ xs.length ≤ 4 * dmass.dmAll (kk.drop j) ∧ (unl xs).length ≤ (8 + 48 * (c + 2)) * dmass.dmAll (kk.drop j) ∧
      (∀ (l : List D) (i : Nat) (o : List D), i ≤ 1048576 → o.length + 4 * dmass.dmAll (kk.drop j) ≤ 16777216 → L15e l (l.length : Int) i kk (kk.length : Int) j o (.agg [.int 5, .int lv, .str t, .str d, .str ti, .list kk]) = L15a l (l.length : Int) ((i + 1 : Nat) : Int) (o ++ xs.map .str)) ∧
      ∀ o : List UInt8, o.length + (8 + 48 * (c + 2)) * dmass.dmAll (kk.drop j) ≤ 20000000000 → L42a kk (kk.length : Int) j (.agg [.int 5, .int lv, .str t, .str d, .str ti, .list kk]) (bytesD o) = some [.str (o ++ unl xs)] := by
    intro n
    induction n with
    | zero =>
      intro j hj
      have : j = kk.length := by omega
      subst this
      refine ⟨[], (fun x hx => by cases hx), by simp, by simp [unl], fun l i o hi ho => ?_, fun o _ => ?_⟩
      · rw [round15e, dec_f (by omega), nxt (show i ≤ 4611686018427387904 by omega)]; simp
      · rw [round42a, dec_f (by omega), r23]; simp [opt_s, unl, tS]
    | succ n ih =>
      intro j hj
      have hjl : j < kk.length := by omega
      have hdm := drop_mass hjl
      have hg : kk.getD j .no = kk[j] := getD_eq kk j .no hjl
      have hmy : dmass kk[j] ≤ dmass.dmAll kk := mass_mem (List.getElem_mem hjl)
      have hx := hN kk[j] (List.getElem_mem hjl)
      have hmk := mass_nd hx
      obtain ⟨ls, q1, q2, q3, q4, q5⟩ := hB kk[j] (List.getElem_mem hjl)
      obtain ⟨s1, s2, s3⟩ := sg_facts h1 h2 (show j ≤ 1048576 by omega)
      have hsp := sp_len (sgn lv j)
      have hpu := pre_unl (m := 22) s1 (by simp : ([] : List UInt8).length ≤ 22) (by omega : (sp (sgn lv j)).length ≤ 22) ls
      have hpl := pre_len (sgn lv j) [] (sp (sgn lv j)) ls
      have hb := big (c := c) (m := dmass.dmAll (kidsOf kk[j])) (by omega) (by omega)
      have hlk : ls.length ≤ 4194304 := by omega
      obtain ⟨xs, p1, p2, p3, p4, p5⟩ := ih (j + 1) (by omega)
      have hil : (il (sgn lv j) ls).length = ls.length := hpl
      have hiu : (unl (il (sgn lv j) ls)).length ≤ (8 + 48 * (c + 2)) * dmass kk[j] := by
        have e1 : (8 + 48 * (c + 2)) * dmass.dmAll (kidsOf kk[j]) = (8 + 48 * c) * dmass.dmAll (kidsOf kk[j]) + 96 * dmass.dmAll (kidsOf kk[j]) := by
          rw [show 8 + 48 * (c + 2) = 8 + 48 * c + 96 by omega, Nat.add_mul]
        have e2 : (8 + 48 * (c + 2)) * dmass.dmAll (kidsOf kk[j]) ≤ (8 + 48 * (c + 2)) * dmass kk[j] := Nat.mul_le_mul_left _ (by omega)
        unfold il
        omega
      have hsum : (8 + 48 * (c + 2)) * dmass.dmAll (kk.drop j) = (8 + 48 * (c + 2)) * dmass kk[j] + (8 + 48 * (c + 2)) * dmass.dmAll (kk.drop (j + 1)) := by rw [hdm, Nat.mul_add]
      refine ⟨il (sgn lv j) ls ++ xs, ?_, by rw [List.length_append]; omega, by rw [unl_app, List.length_append]; omega, fun l i o hi ho => ?_, fun o ho => ?_⟩
      · intro x hx
        rcases List.mem_append.1 hx with hx | hx
        · exact pre_no s2 (by simp) (sp_no _) q3 x hx
        · exact p1 x hx
      · have e33 := b33 h1 h2 (show j ≤ 1048576 by omega) (item := kk[j]) (ls := ls) q1 (by omega) (by omega)
        rw [round15e, dec_t (by omega), inb_nat hjl, Int.toNat_natCast, hg, nxt (by omega)]
        simp only [cond_true, D.cell, D.cells, List.getD_cons_zero, List.getD_cons_succ, tI]
        rw [e33]
        simp only [opt_s, List.getD_cons_zero, tL]
        rw [fit_t (n := o.length) (m := ((il (sgn lv j) ls).map D.str).length) (by rw [List.length_map]; omega)]
        simp only [cond_true]
        rw [p4 l i _ hi (by rw [List.length_append, List.length_map]; omega)]
        simp
      · rw [b42 h1 h2 hjl (by omega) (ls := ls) (by rw [hg]; exact q2) (by omega) hlk q3 o (by omega), p5 _ (by rw [List.length_append]; omega), unl_app]
        simp
  obtain ⟨xs, p1, p2, p3, p4, p5⟩ := loop kk.length 0 (by omega)
  rw [List.drop_zero] at p2 p3 p5
  have hb := big (c := c + 2) (m := dmass.dmAll kk) hc (by omega)
  have e42 : L42a kk (kk.length : Int) 0 (.agg [.int 5, .int lv, .str t, .str d, .str ti, .list kk]) [] = some [.str (unl xs)] := p5 [] (by simp; omega)
  refine ⟨xs, ?_, p1, by simp only [dmass, dmass.dmAll]; omega, ?_, fun l i out hi ho => ?_⟩
  · rw [enter22]
    simp only [D.cell, D.cells, List.getD_cons_zero, List.getD_cons_succ, tI, tS, tL, decide_true]
    rw [enter42]
    simp only [D.cell, D.cells, List.getD_cons_zero, List.getD_cons_succ, tL]
    rw [e42]
    rfl
  · have : (8 + 48 * (c + 2)) * (dmass.dmAll kk + 1) ≤ (8 + 48 * (c + 2)) * dmass (.agg [.int 5, .int lv, .str t, .str d, .str ti, .list kk]) := Nat.mul_le_mul_left _ (by simp only [dmass, dmass.dmAll]; omega)
    rw [Nat.mul_add, Nat.mul_one] at this
    omega
  · have h15 : L15e l (l.length : Int) i kk (kk.length : Int) 0 out (.agg [.int 5, .int lv, .str t, .str d, .str ti, .list kk]) = L15a l (l.length : Int) ((i + 1 : Nat) : Int) (out ++ xs.map .str) := p4 l i out hi (by rw [List.drop_zero]; omega)
    rw [round15b]
    simp only [D.cell, D.cells, List.getD_cons_zero, List.getD_cons_succ, tI, tS, tL, decide_true]
    rw [h15]
    rfl
end prt
end Go.Proofs.YtlmfiknfkgdbpaaGreatDoor.pr

namespace Go.Proofs.YtlmfiknfkgdbpaaGreatDoor.pr
open Go.Proofs.YtlmfiknfkgdbpaaGreatDoor.DS
namespace prt
open check chk

theorem inv_f {c : Bool} {X : R} (h : cond c (some [D.bool false]) X = some [D.bool true]) : c = false ∧ X = some [D.bool true] := by
  cases c with
  | true => cases h
  | false => exact ⟨rfl, h⟩
theorem inv_n {c : Bool} {X : R} {y : List D} (h : cond c X none = some y) : c = true ∧ X = some y := by
  cases c with
  | true => exact ⟨rfl, h⟩
  | false => cases h
theorem inv_o {x : R} {f : List D → R} {y : List D} (h : opt x f = some y) : ∃ a, x = some a ∧ f a = some y := opt_some.1 h
theorem not_f {b : Bool} (h : (bif b then false else true) = false) : b = true := by cases b with | true => rfl | false => cases h

/-- What is said of a good block. -/
structure Gd (x : D) : Prop where
  line : D.toInt (D.cell x 0) = 1 ∨ D.toInt (D.cell x 0) = 2 ∨ D.toInt (D.cell x 0) = 10 → ∃ r, RUN E 26 [x] = some r ∧ D.toBool (r.getD 0 .no) = true
  fence : D.toInt (D.cell x 0) = 3 → ∃ r, RUN E 27 [x] = some r ∧ D.toBool (r.getD 0 .no) = true
  kids : D.toInt (D.cell x 0) = 4 ∨ D.toInt (D.cell x 0) = 5 ∨ D.toInt (D.cell x 0) = 6 ∨ D.toInt (D.cell x 0) = 8 ∨ D.toInt (D.cell x 0) = 9 → D.toList (D.cell x 5) ≠ [] ∧ ∃ r, RUN E 14 [.list (D.toList (D.cell x 5))] = some r ∧ D.toBool (r.getD 0 .no) = true
theorem good14 {ks : List D} (hl : ks.length ≤ 1048576) (h : RUN E 14 [.list ks] = some [.bool true]) : ∀ j, j < ks.length → Gd (ks.getD j .no) := by
  have loop : ∀ n i : Nat, i + n = ks.length → L14a ks ks (ks.length : Int) i = some [.bool true] → ∀ j, i ≤ j → j < ks.length → Gd (ks.getD j .no) := by
    intro n
    induction n with
    | zero => intro i hi _ j h1 h2; omega
    | succ n ih =>
      intro i hi h j h1 h2
      have hil : i < ks.length := by omega
      rw [round14a, dec_t (p := (i : Int) < (ks.length : Int)) (by omega), inb_nat hil, Int.toNat_natCast, nxt (by omega)] at h
      simp only [cond_true] at h
      obtain ⟨_, h⟩ := inv_n h
      obtain ⟨_, h⟩ := inv_n h
      obtain ⟨_, h⟩ := inv_f h
      have key : Gd (ks.getD i .no) ∧ L14a ks ks (ks.length : Int) ((i + 1 : Nat) : Int) = some [.bool true] := by
        generalize hx : ks.getD i .no = x at h
        generalize hk : D.toInt (D.cell x 0) = k at h
        have ho : ∀ {f : Nat}, (opt (RUN E f [x]) fun ρ7 => cond (bif D.toBool (List.getD ρ7 0 D.no) then false else true) (some [D.bool false]) (L14a ks ks (ks.length : Int) ((i + 1 : Nat) : Int))) = some [.bool true] → (∃ r, RUN E f [x] = some r ∧ D.toBool (r.getD 0 .no) = true) ∧ L14a ks ks (ks.length : Int) ((i + 1 : Nat) : Int) = some [.bool true] := by
          intro f hh
          obtain ⟨r, hr, hh⟩ := inv_o hh
          obtain ⟨hb, hh⟩ := inv_f hh
          exact ⟨⟨r, hr, not_f hb⟩, hh⟩
        by_cases k1 : k = 1
        · rw [dec_t k1] at h
          obtain ⟨g1, g2⟩ := ho h
          exact ⟨⟨fun _ => g1, fun e => absurd e (by omega), fun e => absurd e (by omega)⟩, g2⟩
        · rw [dec_f k1] at h
          simp only [cond_false] at h
          by_cases k10 : k = 10
          · rw [dec_t k10] at h
            obtain ⟨g1, g2⟩ := ho h
            exact ⟨⟨fun _ => g1, fun e => absurd e (by omega), fun e => absurd e (by omega)⟩, g2⟩
          · rw [dec_f k10] at h
            simp only [cond_false] at h
            by_cases k2 : k = 2
            · rw [dec_t k2] at h
              simp only [cond_true] at h
              obtain ⟨r, hr, h⟩ := inv_o h
              obtain ⟨hb, h⟩ := inv_f h
              cases hz : decide ((((D.toList (D.cell x 5)).length : Nat) : Int) = 0) with
              | true => rw [hz] at hb; cases hb
              | false =>
                rw [hz] at hb hr
                exact ⟨⟨fun _ => ⟨r, hr, not_f hb⟩, fun e => absurd e (by omega), fun e => absurd e (by omega)⟩, h⟩
            · rw [dec_f k2] at h
              simp only [cond_false] at h
              by_cases k3 : k = 3
              · rw [dec_t k3] at h
                obtain ⟨g1, g2⟩ := ho h
                exact ⟨⟨fun e => absurd e (by omega), fun _ => g1, fun e => absurd e (by omega)⟩, g2⟩
              · rw [dec_f k3] at h
                simp only [cond_false] at h
                by_cases k7 : k = 7
                · rw [dec_t k7] at h
                  exact ⟨⟨fun e => absurd e (by omega), fun e => absurd e (by omega), fun e => absurd e (by omega)⟩, h⟩
                · rw [dec_f k7] at h
                  simp only [cond_false] at h
                  obtain ⟨r, hr, h⟩ := inv_o h
                  obtain ⟨hb, h⟩ := inv_f h
                  cases hz : decide ((((D.toList (D.cell x 5)).length : Nat) : Int) = 0) with
                  | true => rw [hz] at hb; cases hb
                  | false =>
                    rw [hz] at hb hr
                    refine ⟨⟨fun e => absurd e (by omega), fun e => absurd e (by omega), fun _ => ⟨fun e => ?_, r, hr, not_f hb⟩⟩, h⟩
                    rw [e] at hz
                    simp at hz
      by_cases hij : j = i
      · subst hij; exact key.1
      · exact ih (i + 1) (by omega) key.2 j (by omega) h2
  rw [enter14] at h
  intro j hj
  exact loop ks.length 0 (by omega) h j (by omega) hj
/-- A line's inlines are good. -/
theorem line26 {x : D} {k : Int} (hk : D.toInt (D.cell x 0) = k) {kk : List D} (hkk : D.toList (D.cell x 5) = kk) (hB : Below k kk) {r : List D} (h : RUN E 26 [x] = some r) (hr : D.toBool (r.getD 0 .no) = true) :
    RUN E 46 [.list kk, .int k, .agg [.bool false, .bool false, .bool false, .bool (decide (k = 10)), .bool (decide (k = 2))]] = some [.bool true] := by
  obtain ⟨_, b', _, hb, _⟩ := hB false false false k
  have fin : (opt (RUN E 46 [.list kk, .int k, .agg [.bool false, .bool false, .bool false, .bool (decide (k = 10)), .bool (decide (k = 2))]]) fun ρ8 => some [D.bool (D.toBool (List.getD ρ8 0 D.no))]) = some r → RUN E 46 [.list kk, .int k, .agg [.bool false, .bool false, .bool false, .bool (decide (k = 10)), .bool (decide (k = 2))]] = some [.bool true] := by
    intro hh
    rw [hb] at hh ⊢
    injection hh with hh
    subst hh
    cases b' with
    | true => rfl
    | false => cases hr
  rw [enter26, hk, hkk] at h
  cases h0 : decide ((0 : Int) < (kk.length : Int)) with
  | false => rw [h0] at h; exact fin h
  | true =>
    rw [h0] at h
    simp only [cond_true] at h
    obtain ⟨_, h⟩ := inv_n h
    obtain ⟨_, _, h⟩ := inv_o h
    obtain ⟨_, h⟩ := inv_n h
    obtain ⟨_, _, h⟩ := inv_o h
    obtain ⟨_, h⟩ := inv_n h
    obtain ⟨_, h⟩ := inv_n h
    revert h
    generalize (bif bif decide (D.toInt (D.cell (List.getD kk 0 D.no) 0) = 11) then _ else false then true else _) = b
    intro h
    cases b with
    | true => injection h with h; subst h; cases hr
    | false => exact fin h
theorem fence27 {x : D} (hm : (D.toStr (D.cell x 2)).length ≤ 1048576) {r : List D} (h : RUN E 27 [x] = some r) (hr : D.toBool (r.getD 0 .no) = true) : D.toStr (D.cell x 2) = [] ∨ (D.toStr (D.cell x 2)).getLast? = some 10 := by
  rw [enter27] at h
  generalize D.toStr (D.cell x 2) = t at *
  have e47 : RUN E 47 [.str t, .str [10]] = some [.bool (decide (t.getLast? = some 10))] := by rw [enter47, b78 _ (by omega)]; rfl
  obtain ⟨q, _, h⟩ := inv_o h
  rw [e47] at h
  cases ht : decide (t = []) with
  | true => exact .inl (of_decide_eq_true ht)
  | false =>
    right
    rw [ht] at h
    simp only [cond_false] at h
    generalize D.toBool (List.getD q 0 D.no) = a at h
    generalize D.toBool (List.getD q 1 D.no) = b at h
    cases hl : decide (t.getLast? = some 10) with
    | true => exact of_decide_eq_true hl
    | false =>
      exfalso
      rw [hl] at h
      cases a <;> cases b <;> (simp [opt_s, tB] at h; subst h; cases hr)
/-- Not too deep: the blocks below. -/
theorem deep12 {ks : List D} (hN : AllN ks) (hm : dmass.dmAll ks ≤ 1048576) {c : Nat} (hc : c ≤ 12) (h : RUN E 12 [.list ks, .int (12 - (c : Int)), .int 0] = some [.bool false]) : ∀ j (hj : j < ks.length), D.toInt (D.cell ks[j] 0) ≤ 10 → 1 ≤ c ∧ RUN E 12 [.list (kidsOf ks[j]), .int (12 - ((c - 1 : Nat) : Int)), .int 0] = some [.bool false] := by
  have hlen := len_le hN
  have loop : ∀ n i : Nat, i + n = ks.length → L12a (12 - (c : Int)) 0 ks (ks.length : Int) i = some [.bool false] → ∀ j (hj : j < ks.length), i ≤ j → D.toInt (D.cell ks[j] 0) ≤ 10 → 1 ≤ c ∧ RUN E 12 [.list (kidsOf ks[j]), .int (12 - ((c - 1 : Nat) : Int)), .int 0] = some [.bool false] := by
    intro n
    induction n with
    | zero => intro i hi _ j hj h1; omega
    | succ n ih =>
      intro i hi h j hj h1 hk
      have hil : i < ks.length := by omega
      have hg : ks.getD i .no = ks[i] := getD_eq ks i .no hil
      have hx := hN ks[i] (List.getElem_mem hil)
      have hmx : dmass ks[i] ≤ dmass.dmAll ks := mass_mem (List.getElem_mem hil)
      have hmk := mass_nd hx
      have hd := fun b n => deep (kidsOf ks[i]) hx.kids (by omega) b n
      rw [round12a, dec_t (p := (i : Int) < (ks.length : Int)) (by omega), inb_nat hil, Int.toNat_natCast, nxt (by omega), hg, enter24, show D.toList (D.cell ks[i] 5) = kidsOf ks[i] from rfl] at h
      simp only [cond_true, opt_s, List.getD_cons_zero, tB] at h
      have hstep : ∀ {cnd : Bool} {X : R} {b n : Int}, (opt (cond (bif cnd then false else true) (RUN E 12 [.list (kidsOf ks[i]), .int b, .int n]) (some [])) fun ρ4 => cond (bif cnd then true else D.toBool (List.getD ρ4 0 D.no)) (some [D.bool true]) X) = some [.bool false] → cnd = false ∧ RUN E 12 [.list (kidsOf ks[i]), .int b, .int n] = some [.bool false] ∧ X = some [.bool false] := by
        intro cnd X b n hh
        obtain ⟨r, hr, _⟩ := hd b n
        rw [hr] at hh ⊢
        cases cnd with
        | true => cases hh
        | false =>
          cases r with
          | true => cases hh
          | false => exact ⟨rfl, rfl, hh⟩
      by_cases hij : j = i
      · subst hij
        rw [show (bif decide (11 ≤ D.toInt (D.cell ks[j] 0)) then decide (D.toInt (D.cell ks[j] 0) ≤ 18) else false) = false by rw [dec_f (p := 11 ≤ D.toInt (D.cell ks[j] 0)) (by omega)]; rfl] at h
        simp only [cond_false] at h
        obtain ⟨g1, g2, _⟩ := hstep h
        have hw : IntKind.wrap IntKind.i64 (12 - (c : Int) + 1) = 12 - (c : Int) + 1 := wrap_id (by omega) (by omega)
        rw [hw] at g1 g2
        have hc1 : 1 ≤ c := by
          refine Classical.byContradiction fun hn => ?_
          have : c = 0 := by omega
          subst this
          cases g1
        refine ⟨hc1, ?_⟩
        rw [← g2]
        congr 3
        congr 1
        omega
      · refine ih (i + 1) (by omega) ?_ j hj (by omega) hk
        revert h
        generalize (bif decide (11 ≤ D.toInt (D.cell ks[i] 0)) then decide (D.toInt (D.cell ks[i] 0) ≤ 18) else false) = b
        intro h
        cases b with
        | true => exact (hstep h).2.2
        | false => exact (hstep h).2.2
  rw [enter12] at h
  intro j hj hk
  exact loop ks.length 0 (by omega) h j hj (by omega) hk

/-! ### Which kinds -/
theorem and_inv {a b : Bool} (h : (bif a then b else false) = true) : a = true ∧ b = true := by cases a <;> cases b <;> first | exact ⟨rfl, rfl⟩ | cases h
theorem kinds {p k : Int} (h : RUN E 43 [.int p, .int k] = some [.bool true]) : (p = 0 ∨ p = 4 ∨ p = 6 → k = 1 ∨ k = 2 ∨ k = 3 ∨ k = 4 ∨ k = 5 ∨ k = 7 ∨ k = 8) ∧ (p = 5 → k = 6) ∧ (p = 8 → k = 9) ∧ (p = 9 → k = 10) := by
  have hb : (p = 0 ∨ p = 4 ∨ p = 6) → (opt (RUN E 72 [.int k]) fun ρ2 => some [D.bool (bif bif bif D.toBool (List.getD ρ2 0 D.no) then !decide (k = 6) else false then !decide (k = 9) else false then !decide (k = 10) else false)]) = some [.bool true] := by
    intro hp
    rw [enter43] at h
    rcases hp with rfl | rfl | rfl <;> exact h
  refine ⟨fun hp => ?_, fun hp => ?_, fun hp => ?_, fun hp => ?_⟩
  · have hb := hb hp
    rw [enter72] at hb
    simp only [opt_s, List.getD_cons_zero, tB] at hb
    injection hb with hb; injection hb with hb; injection hb with hb
    obtain ⟨hb, h10⟩ := and_inv hb
    obtain ⟨hb, h9⟩ := and_inv hb
    obtain ⟨hb, h6⟩ := and_inv hb
    obtain ⟨h1, h2⟩ := and_inv hb
    have h1 := of_decide_eq_true h1
    have h2 := of_decide_eq_true h2
    simp only [Bool.not_eq_true', decide_eq_false_iff_not] at h6 h9 h10
    omega
  · subst hp
    rw [enter43] at h
    replace h : some [D.bool (decide (k = 6))] = some [.bool true] := h
    injection h with h; injection h with h; injection h with h; exact of_decide_eq_true h
  · subst hp
    rw [enter43] at h
    replace h : some [D.bool (decide (k = 9))] = some [.bool true] := h
    injection h with h; injection h with h; injection h with h; exact of_decide_eq_true h
  · subst hp
    rw [enter43] at h
    replace h : some [D.bool (decide (k = 10))] = some [.bool true] := h
    injection h with h; injection h with h; injection h with h; exact of_decide_eq_true h

/-! ### All blocks -/
/-- Blocks in a row. -/
theorem blk {ks : List D} (hN : AllN ks) (hm : dmass.dmAll ks ≤ 1048576) {c : Nat} (hc : c ≤ 12) (hE : ∀ x ∈ ks, El x c) (hK : ∀ x ∈ ks, D.toInt (D.cell x 0) ≠ 6 ∧ D.toInt (D.cell x 0) ≠ 9) : Blk ks c := by
  have hlen := len_le hN
  have loop : ∀ n i : Nat, i + n = ks.length → ∃ ls : List (List UInt8), (∀ x ∈ ls, (10 : UInt8) ∉ x) ∧ ls.length ≤ 4 * dmass.dmAll (ks.drop i) ∧ (unl ls).length ≤ (8 + 48 * c) * dmass.dmAll (ks.drop i) ∧
      (∀ out : List D, out.length + 4 * dmass.dmAll (ks.drop i) ≤ 4194304 → L15a ks (ks.length : Int) i out = some [.list (out ++ ls.map .str)]) ∧
      ∀ o : List UInt8, o.length + (8 + 48 * c) * dmass.dmAll (ks.drop i) ≤ 20000000000 → L10a ks (ks.length : Int) i (bytesD o) = some [.str (o ++ unl ls)] := by
    intro n
    induction n with
    | zero =>
      intro i hi
      have : i = ks.length := by omega
      subst this
      refine ⟨[], (fun x hx => by cases hx), by simp, by simp [unl], fun out _ => ?_, fun o _ => ?_⟩
      · rw [round15a, dec_f (by omega)]; simp
      · rw [round10a, dec_f (by omega), r23]; simp [opt_s, unl, tS]
    | succ n ih =>
      intro i hi
      have hil : i < ks.length := by omega
      have hdm := drop_mass hil
      have hg : ks.getD i .no = ks[i] := getD_eq ks i .no hil
      have hdl := drop_le ks i
      obtain ⟨xs, e1, e2, e3, e4, e5⟩ := hE ks[i] (List.getElem_mem hil)
      obtain ⟨k6, k9⟩ := hK ks[i] (List.getElem_mem hil)
      obtain ⟨ls, p1, p2, p3, p4, p5⟩ := ih (i + 1) (by omega)
      have hsum : (8 + 48 * c) * dmass.dmAll (ks.drop i) = (8 + 48 * c) * dmass ks[i] + (8 + 48 * c) * dmass.dmAll (ks.drop (i + 1)) := by rw [hdm, Nat.mul_add]
      have hb := big (c := c) (m := dmass.dmAll (ks.drop i)) hc (by omega)
      by_cases h0 : i = 0
      · refine ⟨xs ++ ls, ?_, by rw [List.length_append]; omega, by rw [unl_app, List.length_append]; omega, fun out ho => ?_, fun o ho => ?_⟩
        · intro x hx
          rcases List.mem_append.1 hx with hx | hx
          · exact e2 x hx
          · exact p1 x hx
        · rw [round15a, dec_t (p := (i : Int) < (ks.length : Int)) (by omega), inb_nat hil, Int.toNat_natCast, hg, dec_f (p := (0 : Int) < (i : Int)) (by omega)]
          simp only [cond_true, cond_false]
          rw [e5 ks i out (by omega) (by omega), p4 _ (by simp; omega)]
          simp
        · rw [round10a, dec_t (p := (i : Int) < (ks.length : Int)) (by omega), inb_nat hil, Int.toNat_natCast, hg, dec_f (p := (0 : Int) < (i : Int)) (by omega), e1, nxt (by omega)]
          simp only [cond_true, cond_false, opt_s, List.getD_cons_zero, tS]
          rw [r21 o (unl xs) (by omega)]
          simp only [opt_s, D.cell, D.cells, List.getD_cons_zero, List.getD_cons_succ, tL]
          rw [p5 _ (by rw [List.length_append]; omega), unl_app]
          simp
      · refine ⟨[] :: (xs ++ ls), ?_, by simp only [List.length_cons, List.length_append]; omega, by rw [unl_len, unl_app, List.length_append, List.length_nil]; omega, fun out ho => ?_, fun o ho => ?_⟩
        · intro x hx
          rcases List.mem_cons.1 hx with rfl | hx
          · simp
          · rcases List.mem_append.1 hx with hx | hx
            · exact e2 x hx
            · exact p1 x hx
        · rw [round15a, dec_t (p := (i : Int) < (ks.length : Int)) (by omega), inb_nat hil, Int.toNat_natCast, hg, dec_t (p := (0 : Int) < (i : Int)) (by omega), dec_f k6, dec_f k9, fit_t (n := out.length) (m := [D.str ([] : List UInt8)].length) (by simp; omega)]
          simp only [cond_true, cond_false]
          rw [e5 ks i _ (by omega) (by simp; omega), p4 _ (by simp; omega)]
          simp
        · rw [round10a, dec_t (p := (i : Int) < (ks.length : Int)) (by omega), inb_nat hil, Int.toNat_natCast, hg, dec_t (p := (0 : Int) < (i : Int)) (by omega), r20 o (by omega), e1, nxt (by omega)]
          simp only [cond_true, opt_s, D.cell, D.cells, List.getD_cons_zero, List.getD_cons_succ, tS, tL]
          rw [r21 (o ++ [10]) (unl xs) (by rw [List.length_append, List.length_singleton]; omega)]
          simp only [opt_s, D.cells, List.getD_cons_zero, List.getD_cons_succ, tL]
          rw [p5 _ (by simp only [List.length_append, List.length_singleton]; omega), unl_cons, unl_app]
          simp
  obtain ⟨ls, p1, p2, p3, p4, p5⟩ := loop ks.length 0 (by omega)
  rw [List.drop_zero] at p2 p3 p4 p5
  have hb := big (c := c) (m := dmass.dmAll ks) hc hm
  refine ⟨ls, ?_, ?_, p1, p2, p3⟩
  · rw [enter15]; exact p4 [] (by simp; omega)
  · rw [enter10]; exact p5 [] (by simp; omega)

theorem all : ∀ ks, AllN ks → dmass.dmAll ks ≤ 1048576 → ∀ (p : Int) (c : Nat), c ≤ 12 → RUN E 13 [.list ks, .int p] = some [.int 0] → RUN E 14 [.list ks] = some [.bool true] → RUN E 12 [.list ks, .int (12 - (c : Int)), .int 0] = some [.bool false] →
    (p = 0 ∨ p = 4 ∨ p = 6 → Blk ks c) ∧ (p = 5 → ∀ y ∈ ks, 1 ≤ c ∧ Blk (kidsOf y) (c - 1)) ∧ (p = 8 → ∀ r ∈ ks, RowOk r) ∧ (p = 9 → ∀ x ∈ ks, Inl (kidsOf x) false) := by
  refine doc_ind (S := fun ks => dmass.dmAll ks ≤ 1048576 → ∀ (p : Int) (c : Nat), c ≤ 12 → RUN E 13 [.list ks, .int p] = some [.int 0] → RUN E 14 [.list ks] = some [.bool true] → RUN E 12 [.list ks, .int (12 - (c : Int)), .int 0] = some [.bool false] →
    (p = 0 ∨ p = 4 ∨ p = 6 → Blk ks c) ∧ (p = 5 → ∀ y ∈ ks, 1 ≤ c ∧ Blk (kidsOf y) (c - 1)) ∧ (p = 8 → ∀ r ∈ ks, RowOk r) ∧ (p = 9 → ∀ x ∈ ks, Inl (kidsOf x) false)) fun ks hN hS hm p c hc hv hg hd => ?_
  have hlen := len_le hN
  have hval := valid hN hm hv
  have hgood := good14 (by omega) hg
  have hdeep := deep12 hN hm hc hd
  -- a line's inlines
  have hline : ∀ j (hj : j < ks.length), D.toInt (D.cell ks[j] 0) = 1 ∨ D.toInt (D.cell ks[j] 0) = 2 ∨ D.toInt (D.cell ks[j] 0) = 10 → Inl (kidsOf ks[j]) (decide (D.toInt (D.cell ks[j] 0) = 2)) := by
    intro j hj hk
    obtain ⟨v1, v2⟩ := hval j hj
    have hx := hN ks[j] (List.getElem_mem hj)
    have hmx : dmass ks[j] ≤ dmass.dmAll ks := mass_mem (List.getElem_mem hj)
    have hmk := mass_nd hx
    have hp : par (D.toInt (D.cell ks[j] 0)) := by
      rcases hk with h | h | h
      · exact .inl h
      · exact .inr (.inl h)
      · exact .inr (.inr (.inl h))
    have hB := below (kidsOf ks[j]) hx.kids (by omega) _ hp v2
    have hgd := hgood j hj
    rw [getD_eq ks j .no hj] at hgd
    obtain ⟨r, r1, r2⟩ := hgd.line hk
    exact inls (kidsOf ks[j]) hx.kids (by omega) _ hp v2 false false false _ (line26 rfl rfl hB r1 r2)
  -- what is below
  have hsub : ∀ j (hj : j < ks.length), D.toInt (D.cell ks[j] 0) = 4 ∨ D.toInt (D.cell ks[j] 0) = 5 ∨ D.toInt (D.cell ks[j] 0) = 6 ∨ D.toInt (D.cell ks[j] 0) = 8 ∨ D.toInt (D.cell ks[j] 0) = 9 → 1 ≤ c ∧ kidsOf ks[j] ≠ [] ∧
      ((D.toInt (D.cell ks[j] 0) = 0 ∨ D.toInt (D.cell ks[j] 0) = 4 ∨ D.toInt (D.cell ks[j] 0) = 6 → Blk (kidsOf ks[j]) (c - 1)) ∧ (D.toInt (D.cell ks[j] 0) = 5 → ∀ y ∈ kidsOf ks[j], 1 ≤ c - 1 ∧ Blk (kidsOf y) (c - 1 - 1)) ∧ (D.toInt (D.cell ks[j] 0) = 8 → ∀ r ∈ kidsOf ks[j], RowOk r) ∧ (D.toInt (D.cell ks[j] 0) = 9 → ∀ x ∈ kidsOf ks[j], Inl (kidsOf x) false)) := by
    intro j hj hk
    obtain ⟨v1, v2⟩ := hval j hj
    have hx := hN ks[j] (List.getElem_mem hj)
    have hmx : dmass ks[j] ≤ dmass.dmAll ks := mass_mem (List.getElem_mem hj)
    have hmk := mass_nd hx
    obtain ⟨d1, d2⟩ := hdeep j hj (by omega)
    have hgd := hgood j hj
    rw [getD_eq ks j .no hj] at hgd
    obtain ⟨g1, r, r1, r2⟩ := hgd.kids hk
    obtain ⟨b, _, b2⟩ := blocks (kidsOf ks[j]) hx.kids (by omega) _ v2
    have h14 : RUN E 14 [.list (kidsOf ks[j])] = some [.bool true] := by
      have r1' : RUN E 14 [.list (kidsOf ks[j])] = some r := r1
      rw [b2] at r1' ⊢
      injection r1' with r1'
      subst r1'
      cases b with
      | true => rfl
      | false => cases r2
    exact ⟨d1, g1, hS ks[j] (List.getElem_mem hj) (by omega) _ (c - 1) (by omega) v2 h14 d2⟩
  have hkind : ∀ j (hj : j < ks.length), (p = 0 ∨ p = 4 ∨ p = 6 → D.toInt (D.cell ks[j] 0) = 1 ∨ D.toInt (D.cell ks[j] 0) = 2 ∨ D.toInt (D.cell ks[j] 0) = 3 ∨ D.toInt (D.cell ks[j] 0) = 4 ∨ D.toInt (D.cell ks[j] 0) = 5 ∨ D.toInt (D.cell ks[j] 0) = 7 ∨ D.toInt (D.cell ks[j] 0) = 8) ∧ (p = 5 → D.toInt (D.cell ks[j] 0) = 6) ∧ (p = 8 → D.toInt (D.cell ks[j] 0) = 9) ∧ (p = 9 → D.toInt (D.cell ks[j] 0) = 10) := by
    intro j hj
    obtain ⟨v1, _⟩ := hval j hj
    have hx := hN ks[j] (List.getElem_mem hj)
    have hmx : dmass ks[j] ≤ dmass.dmAll ks := mass_mem (List.getElem_mem hj)
    generalize ks[j] = x at *
    cases hx with
    | mk k v t d ti kk hkk =>
      have hmx' : dmass (.agg [.int k, .int v, .str t, .str d, .str ti, .list kk]) ≤ dmass.dmAll ks := hmx
      simp only [dmass, dmass.dmAll] at hmx'
      exact kinds (valid1 v1 (by omega) (by omega) (by omega)).2.2.2.2.2.2.2
  refine ⟨fun hp => ?_, fun hp y hy => ?_, fun hp r hr => ?_, fun hp x hx => ?_⟩
  · refine blk hN hm hc (fun x hx => ?_) (fun x hx => ?_)
    · obtain ⟨j, hj, rfl⟩ := List.getElem_of_mem hx
      have hl := hline j hj
      have hs := hsub j hj
      have hkd := (hkind j hj).1 hp
      have hgd := hgood j hj
      rw [getD_eq ks j .no hj] at hgd
      obtain ⟨v1, _⟩ := hval j hj
      have hmx : dmass ks[j] ≤ dmass.dmAll ks := mass_mem (List.getElem_mem hj)
      have hxN := hN ks[j] (List.getElem_mem hj)
      generalize ks[j] = x at *
      cases hxN with
      | mk k v t d ti kk hkk =>
        have hmx' : dmass (.agg [.int k, .int v, .str t, .str d, .str ti, .list kk]) ≤ 1048576 := Nat.le_trans hmx hm
        have hmx2 := hmx'
        simp only [dmass, dmass.dmAll] at hmx2
        obtain ⟨_, _, w3, w4, w5, w6, _, _⟩ := valid1 v1 (by omega) (by omega) (by omega)
        change k = 1 ∨ k = 2 ∨ k = 10 → Inl kk (decide (k = 2)) at hl
        change k = 4 ∨ k = 5 ∨ k = 6 ∨ k = 8 ∨ k = 9 → 1 ≤ c ∧ kk ≠ [] ∧ ((k = 0 ∨ k = 4 ∨ k = 6 → Blk kk (c - 1)) ∧ (k = 5 → ∀ y ∈ kk, 1 ≤ c - 1 ∧ Blk (kidsOf y) (c - 1 - 1)) ∧ (k = 8 → ∀ r ∈ kk, RowOk r) ∧ (k = 9 → ∀ x ∈ kk, Inl (kidsOf x) false)) at hs
        change k = 1 ∨ k = 2 ∨ k = 3 ∨ k = 4 ∨ k = 5 ∨ k = 7 ∨ k = 8 at hkd
        rcases hkd with rfl | rfl | rfl | rfl | rfl | rfl | rfl
        · have hr : (1 ≤ v) ∧ v ≤ 6 := by
            unfold RG at w3
            by_cases h1 : v < 1
            · rw [dec_t h1] at w3; cases w3
            · by_cases h6 : 6 < v
              · rw [dec_f h1, dec_t h6] at w3; cases w3
              · omega
          exact el1 hmx' c hr.1 hr.2 (hl (.inl rfl))
        · exact el2 hmx' c (hl (.inr (.inl rfl)))
        · obtain ⟨r, r1, r2⟩ := hgd.fence rfl
          exact el3 hmx' c (no10 w5) (fence27 (x := .agg [.int 3, .int v, .str t, .str d, .str ti, .list kk]) (by show t.length ≤ _; omega) r1 r2)
        · obtain ⟨c1, _, h4, _⟩ := hs (.inl rfl)
          have := el4 hmx' (c := c - 1) (by omega) (h4 (.inr (.inl rfl)))
          rwa [Nat.sub_add_cancel c1] at this
        · obtain ⟨c1, hne, _, h5, _⟩ := hs (.inr (.inl rfl))
          have h5 := h5 rfl
          have hr : (-1 ≤ v) ∧ v ≤ 9999 := by
            unfold RG at w3
            by_cases h1 : v < -1
            · rw [dec_t h1] at w3; cases w3
            · by_cases h6 : 9999 < v
              · rw [dec_f h1, dec_t h6] at w3; cases w3
              · omega
          have c2 : 1 ≤ c - 1 := by
            cases kk with
            | nil => exact absurd rfl hne
            | cons y r => exact (h5 y List.mem_cons_self).1
          have := el5 hmx' (c := c - 2) (by omega) hr.1 hr.2 hkk (fun y hy => (h5 y hy).2)
          rwa [show c - 2 + 2 = c by omega] at this
        · exact el7 c
        · obtain ⟨_, _, _, _, h8, _⟩ := hs (.inr (.inr (.inr (.inl rfl))))
          exact el8 hmx' c hkk (h8 rfl)
    · obtain ⟨j, hj, rfl⟩ := List.getElem_of_mem hx
      have := (hkind j hj).1 hp
      omega
  · obtain ⟨j, hj, rfl⟩ := List.getElem_of_mem hy
    have hk := (hkind j hj).2.1 hp
    obtain ⟨c1, _, h6, _⟩ := hsub j hj (.inr (.inr (.inl hk)))
    exact ⟨c1, h6 (.inr (.inr hk))⟩
  · obtain ⟨j, hj, rfl⟩ := List.getElem_of_mem hr
    have hk := (hkind j hj).2.2.1 hp
    obtain ⟨_, hne, _, _, _, h9⟩ := hsub j hj (.inr (.inr (.inr (.inr hk))))
    exact ⟨hN _ (List.getElem_mem hj), hk, hne, h9 hk⟩
  · obtain ⟨j, hj, rfl⟩ := List.getElem_of_mem hx
    have hk := (hkind j hj).2.2.2 hp
    have := hline j hj (.inr (.inr hk))
    rwa [hk] at this
end prt
end Go.Proofs.YtlmfiknfkgdbpaaGreatDoor.pr
