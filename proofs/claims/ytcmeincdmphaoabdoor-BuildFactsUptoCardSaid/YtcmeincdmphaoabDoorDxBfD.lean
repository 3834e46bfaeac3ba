/- A part of the proof. -/
import Derived.Test.YtcmeincdmphaoabDoorDxBfC
set_option linter.unusedVariables false
set_option linter.unusedSimpArgs false
namespace Go.Proofs.YtcmeincdmphaoabDoor.bf
open Go.Proofs.YtcmeincdmphaoabDoor.DS
namespace fct
/-! ### Typed values -/
inductive TV : D → Prop
  | mk (v : D) (hm : dmass.dmAll (it v) + dmass.dmAll (ks v) + 6 ≤ dmass v) (hk : (ks v).length ≤ dmass.dmAll (ks v)) (hi : ∀ x ∈ it v, TV x) : TV v
theorem mass_pos {v : D} (h : TV v) : 6 ≤ dmass v := by cases h with | mk _ hm _ => omega
theorem len_massT : ∀ l : List D, (∀ x ∈ l, TV x) → l.length ≤ dmass.dmAll l := by
  intro l
  induction l with
  | nil => intro _; exact Nat.zero_le _
  | cons x l ih =>
    intro h
    have h1 := mass_pos (h x List.mem_cons_self)
    have h2 := ih fun y hy => h y (List.mem_cons_of_mem _ hy)
    simp only [dmass.dmAll, List.length_cons]; omega
theorem bv {v : D} (h : TV v) (hm : dmass v ≤ 1048576) : BV v := by
  induction h with
  | mk v hmv hk hi ih =>
    have := len_massT (it v) hi
    exact .mk v (by omega) (by omega) (fun x hx => ih x hx (Nat.le_trans (mass_mem hx) (by omega)))
theorem pos : posTT tt = true := by kernel_rfl
theorem tv_cells {M : Mem} {d0 d1 d2 d3 d4 d5 : D} {c0 c1 c2 c3 c4 c5 : Value} (r0 : Rep tt M (.int .i64) c0 d0) (r1 : Rep tt M .bool c1 d1) (r2 : Rep tt M (.int .i64) c2 d2) (r3 : Rep tt M .str c3 d3) (r4 : Rep tt M (.slice 29) c4 d4) (r5 : Rep tt M (.slice 9) c5 d5)
    (i4 : ∀ x ∈ d4.toList, TV x) : TV (.agg [d0, d1, d2, d3, d4, d5]) := by
  have hk := rep_len' pos r5
  obtain ⟨_, q0, _⟩ := Rep.inv_int r0
  obtain ⟨_, q1⟩ := Rep.inv_bool r1
  obtain ⟨_, q2, w2⟩ := Rep.inv_int (k := .i64) r2
  obtain ⟨s3, _, q3, _⟩ := Rep.inv_str r3
  obtain ⟨_, _, _, q4, _⟩ := Rep.inv_slice r4
  obtain ⟨_, _, _, q5, _⟩ := Rep.inv_slice r5
  rw [q0, q1, q2, q3, q4, q5]
  refine .mk _ ?_ hk i4
  show dmass.dmAll d4.toList + dmass.dmAll d5.toList + 6 ≤ 1 + (1 + (1 + ((s3.data.toList.length + 1) + ((dmass.dmAll d4.toList + 1) + ((dmass.dmAll d5.toList + 1) + 0)))))
  omega
theorem tv_rep {M : Mem} {k : KT} {v : Value} {d : D} (h : Rep tt M k v d) : (k = .agg 29 → TV d) ∧ (k = .slice 29 → ∀ x ∈ d.toList, TV x) := by
  have h29 : lk 29 tt = some (⟨.agg 29, [.int .i64, .bool, .int .i64, .str, .slice 29, .slice 9], [(0, 3), (1, 4), (2, 3), (3, 9), (4, 27), (5, 24)], 88⟩ : TI) := by kernel_rfl
  induction h with
  | bool b => exact ⟨fun e => (by cases e), fun e => (by cases e)⟩
  | any v => exact ⟨fun e => (by cases e), fun e => (by cases e)⟩
  | int k n h => exact ⟨fun e => (by cases e), fun e => (by cases e)⟩
  | str s h => exact ⟨fun e => (by cases e), fun e => (by cases e)⟩
  | nil e a cap h => exact ⟨fun e => (by cases e), fun _ x hx => (by cases hx)⟩
  | slice e ei ad cap xs vs h0 hc hm he hs hz hMM hr ih =>
    refine ⟨fun e => (by cases e), fun e1 x hx => ?_⟩
    injection e1 with e1
    subst e1
    rw [h29] at he; injection he with he; subst he
    obtain ⟨i, hi, rfl⟩ := List.getElem_of_mem hx
    exact (ih i hi).1 rfl
  | agg t ti cs ds ht hk hl hd hr ih =>
    refine ⟨fun e1 => ?_, fun e1 => (by cases e1)⟩
    injection e1 with e1
    subst e1
    rw [h29] at ht; injection ht with ht; subst ht
    match ds, cs, hd, hl, hr, ih with
    | [d0, d1, d2, d3, d4, d5], [c0, c1, c2, c3, c4, c5], _, _, hr, ih =>
      exact tv_cells (hr 0 (by decide) (by simp) (by simp)) (hr 1 (by decide) (by simp) (by simp)) (hr 2 (by decide) (by simp) (by simp)) (hr 3 (by decide) (by simp) (by simp)) (hr 4 (by decide) (by simp) (by simp)) (hr 5 (by decide) (by simp) (by simp)) ((ih 4 (by decide) (by simp) (by simp)).2 rfl)
theorem fact {M : Mem} {v : Value} {f : D} (h : Rep tt M (.agg 33) v f) : TV (val f) ∧ dmass (val f) ≤ dmass f := by
  have h33 : lk 33 tt = some (⟨.agg 33, [.str, .int .i64, .bool, .int .i64, .str, .slice 29, .slice 9], [(0, 9), (1, 29)], 104⟩ : TI) := by kernel_rfl
  cases h with
  | agg t ti cs ds ht hk hl hd hr =>
    rw [h33] at ht; injection ht with ht; subst ht
    match ds, cs, hd, hl, hr with
    | [dn, d0, d1, d2, d3, d4, d5], [cn, c0, c1, c2, c3, c4, c5], _, _, hr =>
      have r4 := hr 5 (by decide) (by simp) (by simp)
      refine ⟨tv_cells (hr 1 (by decide) (by simp) (by simp)) (hr 2 (by decide) (by simp) (by simp)) (hr 3 (by decide) (by simp) (by simp)) (hr 4 (by decide) (by simp) (by simp)) r4 (hr 6 (by decide) (by simp) (by simp)) ((tv_rep r4).2 rfl), ?_⟩
      simp only [val, D.cells, List.drop, List.take, dmass, dmass.dmAll]; omega
theorem facts {M : Mem} {v : Value} {l : List D} (h : Rep tt M (.slice 33) v (.list l)) (hm : dmass.dmAll l ≤ 1048576) : ∀ f ∈ l, BV (val f) := by
  cases h with
  | nil e a cap h => intro f hf; cases hf
  | slice e ei ad cap xs vs h0 hc hm2 he hs hz hMM hr =>
    have h33 : lk 33 tt = some (⟨.agg 33, [.str, .int .i64, .bool, .int .i64, .str, .slice 29, .slice 9], [(0, 9), (1, 29)], 104⟩ : TI) := by kernel_rfl
    rw [h33] at he; injection he with he; subst he
    intro f hf
    obtain ⟨i, hi, rfl⟩ := List.getElem_of_mem hf
    obtain ⟨a, b⟩ := fact (hr i hi)
    exact bv a (Nat.le_trans b (Nat.le_trans (mass_mem hf) hm))
theorem cont {M : Mem} {v : Value} {c : D} (h : Rep tt M (.agg 26) v c) : (D.toList (D.cell c 3)).length ≤ dmass c := by
  have h26 : lk 26 tt = some (⟨.agg 26, [.str, .str, .str, .slice 45, .int .i64, .slice 9, .slice 9], [(0, 9), (1, 9), (2, 9), (3, 23), (4, 3), (5, 24), (6, 24)], 128⟩ : TI) := by kernel_rfl
  cases h with
  | agg t ti cs ds ht hk hl hd hr =>
    rw [h26] at ht; injection ht with ht; subst ht
    match ds, cs, hd, hl, hr with
    | [d0, d1, d2, d3, d4, d5, d6], [c0, c1, c2, c3, c4, c5, c6], _, _, hr =>
      have r3 := hr 3 (by decide) (by simp) (by simp)
      have h1 := rep_len' pos r3
      have h2 := toList_le d3
      show d3.toList.length ≤ dmass (.agg [d0, d1, d2, d3, d4, d5, d6])
      simp only [dmass, dmass.dmAll] at *
      simp only [List.getElem_cons_zero, List.getElem_cons_succ] at h1
      omega
theorem lawR {M : Mem} {v0 v1 v2 v3 v4 : Value} {l : List D} {s : List UInt8} {c a b : D} (h0 : Rep E.tt M (.slice 33) v0 (.list l)) (h1 : Rep E.tt M .str v1 (.str s)) (h2 : Rep E.tt M (.agg 26) v2 c) (h3 : Rep E.tt M (.agg 29) v3 a) (h4 : Rep E.tt M (.agg 29) v4 b)
    (hb : dmass.dmAll [.list l, .str s, c, a, b] ≤ 1048576) : RUN E 3 [.list l, .str s, c, a, b] = some [.bool true] := by
  have hl := rep_len (tt := tt) pos h0
  have hc := cont (show Rep tt M (.agg 26) v2 c from h2)
  simp only [mass_list, mass_str, dmass.dmAll, dmass] at hb
  exact law (by omega) (facts (show Rep tt M (.slice 33) v0 (.list l) from h0) (by omega)) (by omega) (bv ((tv_rep (show Rep tt M (.agg 29) v3 a from h3)).1 rfl) (by omega))
set_option maxRecDepth 100000 in
theorem tab {W : World} (hL : laidMetH Tryd.prog Rows.buildFactsUptoRow.laid W) : Lib.TabIs Tryd.prog W "strings.asciiSpace" .u8 Lib.asciiSpaceTab := by
  rw [MakeChecks.laidMetH_plain _ _ _ (by kernel_rfl)] at hL
  have h1 : laidMet Tryd.prog (("strings.asciiSpace", Lib.tabData .u8 Lib.asciiSpaceTab) :: []) W := laidMet.tail hL
  exact Lib.tabIs_of_head (g := 0) (t := 85) (e := 5) (n := 256) (by kernel_rfl) (by kernel_rfl) (by kernel_rfl) (by kernel_rfl) (by kernel_rfl) (by kernel_rfl) h1
end fct
end Go.Proofs.YtcmeincdmphaoabDoor.bf
