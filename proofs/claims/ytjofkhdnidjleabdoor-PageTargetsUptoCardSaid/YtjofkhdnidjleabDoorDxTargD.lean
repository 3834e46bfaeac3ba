import Derived.Test.YtjofkhdnidjleabDoorDxTargC
set_option linter.unusedVariables false
set_option linter.unusedSimpArgs false
namespace Go.Proofs.YtjofkhdnidjleabDoor.tg
open Go.Proofs.YtjofkhdnidjleabDoor.DS
namespace targ

def nilV : D := .agg [.int 0, .bool false, .int 0, .str [], .list [], .list []]
/-- A fact's value. -/
def vl (x : D) : D := .agg ((x.cells.drop 1).take 6)
theorem vl_cell (x : D) {i : Nat} (h : i < 6) : D.cell (vl x) i = D.cell x (i + 1) := by
  unfold vl D.cell
  show ((x.cells.drop 1).take 6).getD i .no = x.cells.getD (i + 1) .no
  rw [List.getD_eq_getElem?_getD, List.getElem?_take, if_pos h, List.getElem?_drop, List.getD_eq_getElem?_getD, Nat.add_comm]
/-- The value of the first fact of a name. -/
def fo (n : List UInt8) : List D → D
  | [] => nilV
  | x :: r => bif decide (D.toStr (D.cell x 0) = n) then vl x else fo n r
/-- What the program makes of it. -/
def pf (v : D) : D := bif decide (D.toInt (D.cell v 0) = 8) then nilV else v
theorem pf_nil : pf nilV = nilV := rfl
theorem r42 (l : List D) (hl : l.length ≤ 1048576) (n : List UInt8) : RUN E 42 [.list l, .str n] = some [fo n l] := by
  have key : ∀ m i : Nat, i + m = l.length → L42a n l (l.length : Int) (i : Int) 0 false 0 [] = some [fo n (l.drop i)] := by
    intro m
    induction m with
    | zero =>
      intro i hi
      rw [round42a, dec_f (by omega), show l.drop i = [] from List.drop_eq_nil_of_le (by omega)]; rfl
    | succ m ih =>
      intro i hi
      have hil : i < l.length := by omega
      rw [round42a, dec_t (by omega), inb_nat hil, Int.toNat_natCast, nxt (by omega), ih (i + 1) (by omega), drop_cons D.no hil]
      simp only [fo, cond_true]
      cases decide (D.toStr (D.cell (l.getD i .no) 0) = n) <;> rfl
  rw [enter42]
  exact key l.length 0 (by omega)
theorem r40 (l : List D) (hl : l.length ≤ 1048576) (n : List UInt8) : RUN E 40 [.list l, .str n] = some [pf (fo n l)] := by
  have key : ∀ m i : Nat, i + m = l.length → L40a n l (l.length : Int) (i : Int) 0 false 0 [] = some [pf (fo n (l.drop i))] := by
    intro m
    induction m with
    | zero =>
      intro i hi
      rw [round40a, dec_f (by omega), show l.drop i = [] from List.drop_eq_nil_of_le (by omega)]; rfl
    | succ m ih =>
      intro i hi
      have hil : i < l.length := by omega
      rw [round40a, dec_t (by omega), inb_nat hil, Int.toNat_natCast, nxt (by omega), ih (i + 1) (by omega), drop_cons D.no hil]
      simp only [fo, cond_true]
      cases decide (D.toStr (D.cell (l.getD i .no) 0) = n) with
      | false => rfl
      | true =>
        have hc : D.toInt (D.cell (vl (l.getD i .no)) 0) = D.toInt (D.cell (l.getD i .no) 1) := by rw [vl_cell _ (by omega)]
        rw [cond_true, cond_true]
        unfold pf
        by_cases h8 : D.toInt (D.cell (l.getD i .no) 1) = 8
        · rw [dec_t h8, dec_t (hc.trans h8)]; rfl
        · rw [dec_f h8, dec_f (fun e => h8 (hc.symm.trans e))]; rfl
  rw [enter40]
  exact key l.length 0 (by omega)

/-! ### Items of a table -/
section
variable (key : List UInt8) (v : D) (hk : (D.toList (D.cell v 5)).length ≤ 1048576)
include hk in
theorem late : ∀ m i : Nat, i + m = (D.toList (D.cell v 5)).length → (D.toList (D.cell v 4)).length ≤ i → L43a key (D.toList (D.cell v 5)) ((D.toList (D.cell v 5)).length : Int) (i : Int) v 0 false 0 [] = some [nilV] := by
  intro m
  induction m with
  | zero => intro i hi _; rw [round43a, dec_f (by omega)]; rfl
  | succ m ih =>
    intro i hi hl
    have hil : i < (D.toList (D.cell v 5)).length := by omega
    rw [round43a, dec_t (by omega), inb_nat hil, dec_f (p := (i : Int) < ((D.toList (D.cell v 4)).length : Int)) (by omega), nxt (by omega), ih (i + 1) (by omega) (by omega)]
    cases decide (D.toStr ((D.toList (D.cell v 5)).getD (Int.toNat (i : Int)) .no) = key) <;> rfl
include hk in
theorem items : ∀ m i : Nat, i + m = (D.toList (D.cell v 5)).length → ∃ u, L41a key (D.toList (D.cell v 5)) ((D.toList (D.cell v 5)).length : Int) (i : Int) v 0 false 0 [] = some [u] ∧ L43a key (D.toList (D.cell v 5)) ((D.toList (D.cell v 5)).length : Int) (i : Int) v 0 false 0 [] = some [u] := by
  intro m
  induction m with
  | zero => intro i hi; exact ⟨nilV, by rw [round41a, dec_f (by omega)]; rfl, by rw [round43a, dec_f (by omega)]; rfl⟩
  | succ m ih =>
    intro i hi
    have hil : i < (D.toList (D.cell v 5)).length := by omega
    obtain ⟨u, h1, h2⟩ := ih (i + 1) (by omega)
    by_cases hl : i < (D.toList (D.cell v 4)).length
    · rw [round41a, round43a, dec_t (by omega), inb_nat hil, dec_t (p := (i : Int) < ((D.toList (D.cell v 4)).length : Int)) (by omega), inb_nat hl, nxt (by omega), h1, h2]
      cases decide (D.toStr ((D.toList (D.cell v 5)).getD (Int.toNat (i : Int)) .no) = key) <;> exact ⟨_, rfl, rfl⟩
    · have hlate := late key v hk m (i + 1) (by omega) (by omega)
      rw [round41a, round43a, dec_t (by omega), inb_nat hil, dec_f (p := (i : Int) < ((D.toList (D.cell v 4)).length : Int)) (by omega), nxt (by omega), h1, h2]
      cases decide (D.toStr ((D.toList (D.cell v 5)).getD (Int.toNat (i : Int)) .no) = key) with
      | false => exact ⟨_, rfl, rfl⟩
      | true =>
        rw [h2] at hlate
        injection hlate with hlate
        exact ⟨nilV, rfl, by rw [hlate]; rfl⟩
include hk in
theorem item : ∃ u, RUN E 41 [v, .str key] = some [u] ∧ RUN E 43 [v, .str key] = some [u] := by
  obtain ⟨u, h1, h2⟩ := items key v hk _ 0 (Nat.zero_add _)
  exact ⟨u, by rw [enter41]; exact h1, by rw [enter43]; exact h2⟩
end

theorem r39 (a : List UInt8) : RUN E 39 [.str a, .int 35] = some [.int (Lib.indexByte a 35)] := (RUN_eq _ _ _).trans (by kernel_rfl)
section
variable (h : D) (hl : (D.toList (D.cell h 1)).length ≤ 1048576) (hK : ∀ x ∈ D.toList (D.cell h 1), (D.toList (D.cell x 6)).length ≤ 1048576)
include hl in
theorem go (r f : List UInt8) (hf : f.length ≤ 1048576) : ∃ s n b, C16a r f h = some [.str s, .str n, .bool b] ∧ C17a r f h = some [.str s, .str n, .bool b] := by
  obtain ⟨s, e, h12, h13, hs⟩ := res.both (D.toStr (D.cell h 2)) r
  rw [round16a, round17a, h12, h13]
  simp only [opt_s, List.getD_cons_zero, List.getD_cons_succ, tS, tI]
  by_cases he : e = 0
  · rw [dec_t he, cond_true, cond_false, lim_t (by simp; omega), lim_t (by omega), r40 _ hl, r42 _ hl]
    simp only [opt_s, List.getD_cons_zero, cond_true, cond_false]
    generalize fo _ _ = v
    unfold pf
    by_cases h8 : D.toInt (D.cell v 0) = 8
    · rw [dec_t h8, dec_f (p := D.toInt (D.cell v 0) = 6) (by omega)]
      exact ⟨_, _, _, rfl, rfl⟩
    · rw [dec_f h8]
      simp only [cond_false]
      cases decide (D.toInt (D.cell v 0) = 6) <;> exact ⟨_, _, _, rfl, rfl⟩
  · rw [dec_f he]; exact ⟨_, _, _, rfl, rfl⟩
include hl hK in
theorem both (d : List UInt8) (hd : d.length ≤ 1048576) : ∃ s n b, RUN E 16 [h, .str d] = some [.str s, .str n, .bool b] ∧ RUN E 17 [h, .str d] = some [.str s, .str n, .bool b] := by
  rw [enter16, enter17, res.r28 _ _ (by omega) (by simp), res.r28 _ _ (by omega) (by simp)]
  simp only [opt_s, List.getD_cons_zero, tB]
  cases hp : hasPre d [114, 101, 102, 58] with
  | true =>
    have hd4 : 4 ≤ d.length := by unfold hasPre at hp; simp only [Bool.and_eq_true, decide_eq_true_eq] at hp; exact hp.1
    have ck : cutOk d.length (some 4) none = true := cutOk_lo (i := 4) hd4
    rw [ck, show cutL d (some 4) none = d.drop 4 from rfl, r39]
    simp only [opt_s, List.getD_cons_zero, tI, cond_true]
    by_cases hi : 0 ≤ Lib.indexByte (d.drop 4) 35
    · have hle := indexByte_le (d.drop 4) 35
      obtain ⟨k, hk⟩ : ∃ k : Nat, Lib.indexByte (d.drop 4) 35 = (k : Int) := ⟨(Lib.indexByte (d.drop 4) 35).toNat, by omega⟩
      rw [hk] at hle hi ⊢
      rw [dec_t hi, cutOk_hi (by omega), cutOk_lo (by omega), cut_hi, cut_lo]
      exact go h hl _ _ (by simp; omega)
    · rw [dec_f hi]
      exact go h hl _ _ (by simp)
  | false =>
    simp only [cond_false]
    cases hq : hasPre d [97, 115, 115, 101, 116, 58] with
    | false => exact ⟨_, _, _, rfl, rfl⟩
    | true =>
      have hq2 := hq
      unfold hasPre at hq2
      simp only [Bool.and_eq_true, decide_eq_true_eq, List.length_cons, List.length_nil] at hq2
      have ck : cutOk d.length (some 6) none = true := cutOk_lo (i := 6) hq2.1
      have hd2 : [97, 115, 115, 101, 116, 58] ++ d.drop 6 = d := by
        conv => rhs; rw [← List.take_append_drop 6 d]
        rw [show d.take 6 = [97, 115, 115, 101, 116, 58] from hq2.2]
      rw [ck, show cutL d (some 6) none = d.drop 6 from rfl, lim_t (by simp; omega), hd2, r40 _ hl, r42 _ hl]
      simp only [opt_s, List.getD_cons_zero, cond_true]
      have hfo : ∀ l : List D, (∀ x ∈ l, (D.toList (D.cell x 6)).length ≤ 1048576) → (D.toList (D.cell (fo d l) 5)).length ≤ 1048576 := by
        intro l
        induction l with
        | nil => intro _; exact Nat.zero_le _
        | cons x r ih =>
          intro hx
          unfold fo
          cases decide (D.toStr (D.cell x 0) = d) with
          | true => rw [cond_true, vl_cell _ (by omega)]; exact hx x List.mem_cons_self
          | false => exact ih fun y hy => hx y (List.mem_cons_of_mem _ hy)
      have hv := hfo _ hK
      generalize fo d (D.toList (D.cell h 1)) = v at hv ⊢
      obtain ⟨u, h41, h43⟩ := item [117, 114, 108] v hv
      unfold pf
      by_cases h8 : D.toInt (D.cell v 0) = 8
      · obtain ⟨u2, g41, g43⟩ := item [117, 114, 108] nilV (Nat.zero_le _)
        rw [dec_t h8]
        simp only [cond_true]
        rw [g41, h43, dec_f (p := D.toInt (D.cell v 0) = 6) (by omega)]
        exact ⟨_, _, _, rfl, rfl⟩
      · rw [dec_f h8]
        simp only [cond_false]
        rw [h41, h43]
        simp only [opt_s, List.getD_cons_zero]
        cases decide (D.toInt (D.cell v 0) = 6) <;> cases decide (D.toInt (D.cell u 0) = 3) <;> exact ⟨_, _, _, rfl, rfl⟩
include hl hK in
theorem law (d : List UInt8) (hd : d.length ≤ 1048576) : RUN E 6 [h, .str d] = some [.bool true] := by
  obtain ⟨s, n, b, h1, h2⟩ := both h hl hK d hd
  rw [enter6, h1, h2]
  simp [opt_s, tS, tB]
end
theorem strs_rep {M : Mem} {v : Value} {d : D} (h : Rep tt M (.slice 9) v d) (hm : dmass d ≤ 1048576) : (D.toList d).length ≤ 1048576 := by
  have h9 : lk 9 tt = some (⟨.str, [.str], [], 16⟩ : TI) := by kernel_rfl
  have m := Nat.le_trans (toList_le d) hm
  obtain ⟨a, cap, _, _, _, _, hp⟩ := Rep.inv_slice (e := 9) h
  have key : ∀ l : List D, (∀ x ∈ l, 1 ≤ dmass x) → l.length ≤ dmass.dmAll l := by
    intro l
    induction l with
    | nil => intro _; exact Nat.zero_le _
    | cons x l ih =>
      intro h
      have h1 := h x List.mem_cons_self
      have h2 := ih fun y hy => h y (List.mem_cons_of_mem _ hy)
      simp only [dmass.dmAll, List.length_cons]; omega
  refine Nat.le_trans (key _ fun x hx => ?_) m
  obtain ⟨i, hi, rfl⟩ := List.getElem_of_mem hx
  obtain ⟨ei, ad, vs, _, he, _, _, _, hq⟩ := hp (by omega)
  rw [h9] at he; injection he with he; subst he
  obtain ⟨s, _, e, _⟩ := Rep.inv_str (hq i hi)
  rw [e]
  show 1 ≤ s.data.toList.length + 1
  omega
theorem cell_getElem {d : D} {i : Nat} (h : i < d.cells.length) : D.cell d i = d.cells[i] := by
  unfold D.cell
  rw [List.getD_eq_getElem?_getD, List.getElem?_eq_getElem h]; rfl
theorem lawR {M M' : Mem} {v v' : Value} {c : D} {d : List UInt8} (h : Rep E.tt M (.agg 46) v c) (_ : Rep E.tt M' .str v' (.str d)) (hb : dmass.dmAll [c, .str d] ≤ 1048576) : RUN E 6 [c, .str d] = some [.bool true] := by
  have h46 : lk 46 tt = some (⟨.agg 46, [.slice 159, .slice 33, .str], [(0, 44), (1, 22), (2, 9)], 64⟩ : TI) := by kernel_rfl
  have h33 : lk 33 tt = some (⟨.agg 33, [.str, .int .i64, .bool, .int .i64, .str, .slice 29, .slice 9], [(0, 9), (1, 29)], 104⟩ : TI) := by kernel_rfl
  have hc : dmass c ≤ 1048576 := by simp only [dmass.dmAll] at hb; omega
  have hd : d.length ≤ 1048576 := by simp only [dmass.dmAll, dmass] at hb; omega
  obtain ⟨ti, cs, _, _, ht, _, hcs, hds, hr⟩ := Rep.inv_agg h
  have ht : lk 46 tt = some ti := ht
  rw [h46] at ht; injection ht with ht; subst ht
  have e1 : D.cell c 1 = c.cells[1]'(by rw [hds]; decide) := cell_getElem (by rw [hds]; decide)
  have m1 := Nat.le_trans (toList_le (D.cell c 1)) (Nat.le_trans (mass_cell c 1) hc)
  have key : ∀ x ∈ D.toList (D.cell c 1), (D.toList (D.cell x 6)).length ≤ 1048576 ∧ 1 ≤ dmass x := by
    intro x hx
    have r1 := hr 1 (by decide) (by rw [hcs]; decide) (by rw [hds]; decide)
    obtain ⟨a, cap, _, _, _, _, hp⟩ := Rep.inv_slice (e := 33) r1
    rw [← e1] at hp
    have hxm := Nat.le_trans (mass_mem hx) m1
    obtain ⟨i, hi, rfl⟩ := List.getElem_of_mem hx
    obtain ⟨ei, ad, vs, _, he, _, _, _, hq⟩ := hp (by omega)
    have he : lk 33 tt = some ei := he
    rw [h33] at he; injection he with he; subst he
    obtain ⟨ti, cs2, _, ex, ht, _, hcs2, hds2, hr2⟩ := Rep.inv_agg (t := 33) (hq i hi)
    have ht : lk 33 tt = some ti := ht
    rw [h33] at ht; injection ht with ht; subst ht
    have r6 := hr2 6 (by decide) (by rw [hcs2]; decide) (by rw [hds2]; decide)
    have r0 := hr2 0 (by decide) (by rw [hcs2]; decide) (by rw [hds2]; decide)
    have e6 := cell_getElem (d := (D.toList (D.cell c 1))[i]) (i := 6) (by rw [hds2]; decide)
    refine ⟨?_, ?_⟩
    · rw [e6]
      exact strs_rep r6 (by rw [← e6]; exact Nat.le_trans (mass_cell _ 6) hxm)
    · obtain ⟨s, _, e0, _⟩ := Rep.inv_str r0
      have h1 := mass_mem (List.getElem_mem (show 0 < ((D.toList (D.cell c 1))[i]).cells.length by rw [hds2]; decide))
      rw [e0] at h1
      rw [ex]
      have : 1 ≤ dmass (.str s.data.toList) := by show 1 ≤ s.data.toList.length + 1; omega
      exact Nat.le_trans this h1
  have hlen : ∀ l : List D, (∀ x ∈ l, 1 ≤ dmass x) → l.length ≤ dmass.dmAll l := by
    intro l
    induction l with
    | nil => intro _; exact Nat.zero_le _
    | cons x l ih =>
      intro h
      have h1 := h x List.mem_cons_self
      have h2 := ih fun y hy => h y (List.mem_cons_of_mem _ hy)
      simp only [dmass.dmAll, List.length_cons]; omega
  exact law c (Nat.le_trans (hlen _ fun x hx => (key x hx).2) m1) (fun x hx => (key x hx).1) d hd
end targ
end Go.Proofs.YtjofkhdnidjleabDoor.tg
