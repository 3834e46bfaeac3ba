/- Rows: the operations. -/
import Derived.Test.YtjofkhdnidjleabDoorDsN
set_option linter.unusedVariables false
set_option linter.unusedSimpArgs false
namespace Go.Proofs.YtjofkhdnidjleabDoor.DS
open Go.RowKit

section
variable {P : Program} {E : Env} (hT : TTok P E.tt) {draw : Bool} {st : St} {ops : List Oper} {L : List (Nat × Bool)} {a : Act} {w w0 : World} {X : Nat → Prop} {Mx : Mem} {ι : Nat → Value} {M : Mem}
  (hev : ∀ x s, ev st ops L x = some s → SVRel E.tt ι M s (a.eval x))
  (H : HRel E.tt X w0 Mx ι M st.objs w) (hwf : WF st)

include hT hev in
theorem elems_fill {e : TypeId} {ei : TI} (hei : lk e E.tt = some ei) (parts : List (Nat × Operand)) : ∀ (n : Nat) (cells : Array Value) (ds : List D), elemsD st ops L ei.kt n parts = some ds → (n + parts.length) * ei.cells.length ≤ cells.size →
    ds.length = parts.length ∧ ∃ cells', ∃ vs : Nat → Value, Instr.fill (fun i => some (i * ei.cells.length, ei.cells.length)) cells (parts.map fun (i, x) => (i, a.eval x)) = some cells' ∧ cells'.size = cells.size ∧ (∀ k, k < n * ei.cells.length → cells'[k]? = cells[k]?) ∧
      ∀ i (h : i < ds.length), (vs i).cells.size = ei.cells.length ∧ (∀ j u, (vs i).cells[j]? = some u → cells'[(n + i) * ei.cells.length + j]? = some u) ∧ Rep E.tt M ei.kt (vs i) ds[i] := by
  induction parts with
  | nil => intro n cells ds h _; injection h with h; subst h; exact ⟨rfl, cells, fun _ => undef, rfl, rfl, fun _ _ => rfl, fun i h => absurd h (by simp)⟩
  | cons p r ih =>
    obtain ⟨i0, x⟩ := p
    intro n cells ds h hsz
    simp only [elemsD] at h
    replace h := cond_some.1 h
    obtain ⟨hn, h⟩ := h
    have hn := beq_iff.1 hn
    subst hn
    replace h := opt_some.1 h
    obtain ⟨s, hs, h⟩ := h
    replace h := opt_some.1 h
    obtain ⟨d, hd, h⟩ := h
    replace h := opt_some.1 h
    obtain ⟨ds', hds', h⟩ := h
    injection h with h; subst h
    have hrep := svD_rel hd (hev x s hs)
    obtain ⟨k1, k2, k3⟩ := hrep.kt_cells hT hei
    simp only [List.length_cons] at hsz
    have hle : (i0 + 1) * ei.cells.length ≤ cells.size := Nat.le_trans (Nat.mul_le_mul_right _ (by omega)) hsz
    have hle' := hle
    rw [Nat.add_mul, Nat.one_mul] at hle'
    obtain ⟨q1, cells', vs, q2, q3, q4, q5⟩ := ih (i0 + 1) ((a.eval x).cells.zipIdx.foldl (fun cs (c, j) => cs.setIfInBounds (i0 * ei.cells.length + j) c) cells) ds' hds' (by
      rw [← Array.foldl_toList, Array.toList_zipIdx, foldl_set_size]; rw [show i0 + 1 + r.length = i0 + (r.length + 1) by omega]; exact hsz)
    refine ⟨by simp [q1], cells', fun i => match i with | 0 => a.eval x | i + 1 => vs i, ?_, ?_, ?_, ?_⟩
    · simp only [List.map_cons, Instr.fill]
      rw [if_neg (by simp; omega)]
      exact q2
    · rw [q3, ← Array.foldl_toList, Array.toList_zipIdx, foldl_set_size]
    · intro k hk
      rw [q4 k (by rw [Nat.add_mul]; omega), ← Array.foldl_toList, Array.toList_zipIdx, foldl_set_get, if_neg (by omega)]
    · intro i hi
      cases i with
      | zero =>
        refine ⟨k1, ?_, hrep⟩
        intro j u hu
        have hj : j < (a.eval x).cells.size := (Array.getElem?_eq_some_iff.1 hu).1
        rw [Nat.add_zero, q4 _ (by rw [Nat.add_mul]; omega), ← Array.foldl_toList, Array.toList_zipIdx, foldl_set_get, if_pos ⟨by omega, by rw [Array.length_toList]; omega, by omega⟩, Nat.add_zero, Nat.add_sub_cancel_left, Array.getElem?_toList]
        exact hu
      | succ i =>
        obtain ⟨z1, z2, z3⟩ := q5 i (by simpa using hi)
        refine ⟨z1, ?_, by simpa using z3⟩
        intro j u hu
        have := z2 j u hu
        rw [show i0 + (i + 1) = i0 + 1 + i by omega]; exact this

include hT hev H hwf in
theorem buildSlice_sound {o : Oper} {t : TypeId} {n : Nat} {ps : Array (Nat × Operand)} (ho : o.op = .buildSlice t n ps) {c : Bool} {id : Nat} {ob : Obj} {scr : Bool} {v : SV} (h : buildSliceO E st ops L o.dst t n ps.toList = some (.ob c id ob scr v)) : Does P E.tt X w0 Mx ι M a w o st (obSt st id ob scr) v := by
  unfold buildSliceO at h
  replace h := opt_some.1 h
  obtain ⟨ti, ht, h⟩ := h
  have hu := (hT t ti ht).under
  split at h
  · rename_i e hk
    rw [hk] at hu
    replace h := opt_some.1 h
    obtain ⟨ei, hei, h⟩ := h
    replace h := opt_some.1 h
    obtain ⟨ds, hds, h⟩ := h
    replace h := cond_some.1 h
    obtain ⟨hb, h⟩ := h
    simp only [Bool.and_eq_true] at hb
    have hlen := beq_iff.1 hb.1
    have hmax := Nat.le_of_ble_eq_true hb.2.1
    have hpos : 0 < ei.cells.length := Nat.le_of_ble_eq_true hb.2.2
    obtain ⟨hd, hf, rfl, rfl, rfl, rfl⟩ := withObj_st h
    obtain ⟨inf, hinf, hsz, _⟩ := (hT e ei hei).info
    obtain ⟨inf', z, hinf', hz, hzs, _⟩ := (hT e ei hei).zero
    rw [hinf] at hinf'; cases hinf'
    let cells0 : Array Value := (Array.range (n * inf.size)).map ((if n * inf.size = 0 then #[] else z.cells)[· % (if n * inf.size = 0 then #[] else z.cells).size]!)
    have hc0 : cells0.size = n * ei.cells.length := by simp [cells0, hsz]
    have hpl : ds.length = ps.toList.length ∧ _ := elems_fill (M := M) hT hev hei ps.toList 0 cells0 ds hds (by
      have : ds.length = ps.toList.length := by
        have key : ∀ (l : List (Nat × Operand)) (m : Nat) (ds : List D), elemsD st ops L ei.kt m l = some ds → ds.length = l.length := by
          intro l
          induction l with
          | nil => intro m ds h; injection h with h; subst h; rfl
          | cons p r ih =>
            obtain ⟨i, x⟩ := p
            intro m ds h
            simp only [elemsD] at h
            replace h := cond_some.1 h
            replace h := opt_some.1 h.2
            obtain ⟨_, _, h⟩ := h
            replace h := opt_some.1 h
            obtain ⟨_, _, h⟩ := h
            replace h := opt_some.1 h
            obtain ⟨ds', h1, h⟩ := h
            injection h with h; subst h
            simp [ih _ _ h1]
        exact key _ _ _ hds
      rw [hc0, Nat.zero_add, ← this, hlen]; exact Nat.le_refl _)
    obtain ⟨hl2, cells', vs, q2, q3, q4, q5⟩ := hpl
    refine ⟨.slice (some ⟨w.heap.size, 0, none⟩) n n, w.alloc (.cells cells' e), .inl (execOp_value (s := Instr.buildSlice t n (ps.map fun (i, x) => (i, a.eval x))) (by simp [execOp, ho]) ?_), ?_⟩
    · have hle : ¬ n * inf.size > 2 ^ 24 := by rw [hsz]; omega
      have hzr : (if n * inf.size = 0 then pure #[] else do pure (← zeroValue e).cells : Sem (Array Value)).run P w = .ok (if n * inf.size = 0 then #[] else z.cells) w := by
        split
        · simp
        · simp [zeroValue, run_info hinf, hz]
      have e2 : (ps.map fun (i, x) => (i, a.eval x)).toList = ps.toList.map fun (i, x) => (i, a.eval x) := by simp
      rw [hsz] at hle hzr
      simp only [Instr.buildSlice, Sem.run_bind, run_underlying hu.1, Result.andThen_ok, run_size hinf, hsz]
      rw [if_neg hle]
      have hz2 : (zeroValue e).run P w = .ok z w := by simp [zeroValue, run_info hinf, hz]
      by_cases h0 : n * ei.cells.length = 0
      · have e3 : (Array.range (n * ei.cells.length)).map (((#[] : Array Value)[· % (#[] : Array Value).size]!)) = cells0 := by simp only [cells0, hsz, h0]; simp
        simp only [h0, if_true]
        simp only [h0] at e3
        simp only [pure_bind, e2, e3, q2]
        simp [newRow]
      · have e3 : (Array.range (n * ei.cells.length)).map ((z.cells[· % z.cells.size]!)) = cells0 := by simp only [cells0, hsz, if_neg h0]
        simp only [h0, if_false]
        simp only [Sem.run_bind, hz2, Result.andThen_ok, pure_bind, e2, e3, q2]
        simp [newRow]
    · refine new_step (row := none) H hwf hf (grown_alloc w _) (x := .slice (some ⟨w.heap.size, 0, none⟩) n n) (fun b hb => ?_) ?_ (fun i hi => by simp [objRefs0] at hi) ?_ (fun i hi => ?_)
      · simp only [blockOf, Option.some.injEq] at hb; omega
      · refine ⟨ei, hei, hpos, .inr ⟨w.heap.size, n, cells', e, (0, 0), vs, by rw [put_same, hlen], heap_alloc_new w _, by omega, ?_, by rw [q3, hc0], .inr (Nat.le_refl _), ?_⟩⟩
        · have : n * 1 ≤ n * ei.cells.length := Nat.mul_le_mul_left _ hpos
          unfold maxLen; omega
        · intro i hi
          obtain ⟨z1, z2, z3⟩ := q5 i hi
          exact ⟨z1, fun j u hu => by have := z2 j u hu; rwa [Nat.zero_add] at this, z3⟩
      · exact ⟨by rw [put_same], _, _, _, put_same _ _ _⟩
      · simpa [refsOf, refs0] using hi
  · cases h

include hT hev H hwf in
theorem makeSlice_sound {o : Oper} {t : TypeId} {x y : Operand} (ho : o.op = .makeSlice t x y) {c : Bool} {id : Nat} {ob : Obj} {scr : Bool} {v : SV} (h : makeSliceO E st ops L o.dst t x y = some (.ob c id ob scr v)) (hc : c = true) : Does P E.tt X w0 Mx ι M a w o st (obSt st id ob scr) v := by
  unfold makeSliceO at h
  replace h := opt_some.1 h
  obtain ⟨ti, ht, h⟩ := h
  replace h := opt_some.1 h
  obtain ⟨n, hn, h⟩ := h
  replace h := opt_some.1 h
  obtain ⟨m, hm, h⟩ := h
  have hu := (hT t ti ht).under
  obtain ⟨kn, hvn⟩ := evInt_sound hev hn
  obtain ⟨km, hvm⟩ := evInt_sound hev hm
  split at h
  · rename_i e hk
    rw [hk] at hu
    replace h := opt_some.1 h
    obtain ⟨ei, hei, h⟩ := h
    split at h
    · cases h
    · cases h
    · rename_i hks hkp
      replace h := cond_some.1 h
      obtain ⟨hb, h⟩ := h
      have hb := Nat.le_of_ble_eq_true hb
      obtain ⟨hd, hf, hcc, rfl, rfl, rfl⟩ := withObj_st h
      rw [hcc] at hc
      simp only [Bool.and_eq_true, decide_eq_true_eq] at hc
      obtain ⟨h0, h1, h2⟩ := hc
      have hks' : ei.kt.single = true := by cases hkk : ei.kt <;> first | rfl | exact absurd hkk (hks _)
      have hc1 := (hT e ei hei).cells_of_single hks'
      have hl1 : ei.cells.length = 1 := by rw [hc1]; rfl
      obtain ⟨inf, hinf, hsz, hby⟩ := (hT e ei hei).info
      obtain ⟨inf', z, hinf', hz, hcr⟩ := zero_rep (M := M) hT hei (fun k hk => by rw [hc1] at hk; simp at hk; subst hk; exact hkp)
      rw [hinf] at hinf'; cases hinf'
      obtain ⟨g1, g2, g3⟩ := hcr
      have hzr : Rep E.tt M ei.kt z (zeroD ei.kt) ∧ z.cells = #[z] := by
        obtain ⟨_, z', hz1, hz2, _, _, hz5, _⟩ := (hT e ei hei).zero
        rw [hinf] at hz1; cases hz1
        rw [hz] at hz2; cases hz2
        have := hz5 hks'
        exact ⟨g3 0 ei.kt z (zeroD ei.kt) (by rw [hc1]; rfl) (by rw [this]; rfl) (by rw [hc1]; rfl), this⟩
      have hlim : (lim : Int) = 68719476736 := rfl
      have hwrap : ∀ q : Int, 0 ≤ q → q ≤ 68719476736 → IntKind.i64.wrap q = q := by
        intro q h1 h2
        unfold IntKind.wrap
        have e1 : (2 : Int) ^ IntKind.i64.bits = 18446744073709551616 := by decide
        have e2 : (2 : Int) ^ (IntKind.i64.bits - 1) = 9223372036854775808 := by decide
        simp only [e1, e2]
        rw [Int.emod_eq_of_lt h1 (by omega)]
        rw [if_neg]
        simp; omega
      have wn := hwrap n h0 (by omega)
      have wm := hwrap m (by omega) (by omega)
      have hbz : ¬ ((inf.bytes : Int) * m > 2 ^ 48) := by
        have : (inf.bytes : Int) * m ≤ 2048 * 68719476736 := Int.mul_le_mul (by rw [hby]; omega) (by omega) (by omega) (by omega)
        have e1 : (2 : Int) ^ 48 = 281474976710656 := by decide
        omega
      have hcellsE : (Array.range (m.toNat * inf.size)).map ((if m.toNat * inf.size = 0 then #[] else z.cells)[· % (if m.toNat * inf.size = 0 then #[] else z.cells).size]!) = Array.replicate m.toNat z := by
        apply Array.ext
        · simp [hsz, hl1]
        · intro i h1 h2
          have h3 : i < m.toNat := by simpa using h2
          have h4 : ¬ m.toNat * inf.size = 0 := by rw [hsz, hl1]; omega
          simp only [Array.getElem_map, Array.getElem_range, Array.getElem_replicate, if_neg h4, hzr.2]
          simp [Nat.mod_one]
      refine ⟨.slice (some ⟨w.heap.size, 0, none⟩) n.toNat m.toNat, w.alloc (.cells (Array.replicate m.toNat z) e), .inl (execOp_value (s := Instr.makeSlice t (a.eval x) (a.eval y)) (by simp [execOp, ho]) ?_), ?_⟩
      · have hzr2 : (if m.toNat * inf.size = 0 then pure #[] else do pure (← zeroValue e).cells : Sem (Array Value)).run P w = .ok (if m.toNat * inf.size = 0 then #[] else z.cells) w := by
          split
          · simp
          · simp [zeroValue, run_info hinf, hz]
        have t1 : (decide (m < 0) || decide ((inf.bytes : Int) * m > 2 ^ 48)) = false := by
          rw [decide_eq_false (show ¬ m < 0 by omega), decide_eq_false hbz]; rfl
        have t2 : ¬ (((decide (m < 0) || decide ((inf.bytes : Int) * m > 2 ^ 48)) || decide (n < 0) || decide (n > m)) = true) := by
          rw [t1, decide_eq_false (show ¬ n < 0 by omega), decide_eq_false (show ¬ n > m by omega)]; decide
        rw [hvn, hvm]
        simp only [Instr.makeSlice, Sem.run_bind, run_underlying hu.1, Result.andThen_ok, asInt, asIntOf, Sem.run_pure, run_info hinf, wn, wm]
        rw [if_neg t2]
        have hz2 : (zeroValue e).run P w = .ok z w := by simp [zeroValue, run_info hinf, hz]
        simp only [Sem.run_pure, Result.andThen_ok, Sem.run_bind, run_askRoom, run_size hinf]
        by_cases h0 : m.toNat * inf.size = 0
        · have hm0 : m.toNat = 0 := by rw [hsz, hl1] at h0; omega
          simp [h0, newRow, hm0]
          congr 2
          apply Array.ext <;> simp
        · rw [if_neg h0]
          rw [if_neg h0] at hcellsE
          simp only [Sem.run_bind, hz2, Result.andThen_ok, pure_bind, hcellsE]
          simp [newRow]
      · refine new_step (row := none) H hwf hf (grown_alloc w _) (x := .slice (some ⟨w.heap.size, 0, none⟩) n.toNat m.toNat) (fun b hb => ?_) ?_ (fun i hi => by simp [objRefs0] at hi) ?_ (fun i hi => ?_)
        · simp only [blockOf, Option.some.injEq] at hb; omega
        · refine ⟨ei, hei, by omega, .inr ⟨w.heap.size, m.toNat, _, e, (0, 0), fun _ => z, by rw [put_same, List.length_replicate], heap_alloc_new w _, by rw [List.length_replicate]; omega, by unfold maxLen; omega, by simp [hl1], .inr (Nat.le_refl _), ?_⟩⟩
          intro i hi
          rw [List.length_replicate] at hi
          refine ⟨by rw [hzr.2, hl1]; rfl, ?_, ?_⟩
          · intro j u hu
            rw [hzr.2] at hu
            cases j with
            | zero =>
              simp at hu; subst hu
              rw [hl1, Nat.mul_one, Nat.add_zero, Array.getElem?_replicate, if_pos (by omega)]
            | succ j => simp at hu
          · rw [List.getElem_replicate]; exact hzr.1
        · exact ⟨by rw [put_same], _, _, _, put_same _ _ _⟩
        · simpa [refsOf, refs0] using hi
  · cases h

end
end Go.Proofs.YtjofkhdnidjleabDoor.DS
