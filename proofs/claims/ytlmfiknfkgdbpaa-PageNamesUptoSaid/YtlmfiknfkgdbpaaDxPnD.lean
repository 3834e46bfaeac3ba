/- Names of shortcodes: the law. -/
import Derived.Test.YtlmfiknfkgdbpaaDxPnB
import Derived.Test.YtlmfiknfkgdbpaaF8
import Derived.Sort.Walk0
set_option linter.unusedVariables false
set_option linter.unusedSimpArgs false
namespace Go.Proofs.Ytlmfiknfkgdbpaa.pn
open Go.Proofs.Ytlmfiknfkgdbpaa.DS
namespace nms

abbrev B := List UInt8
abbrev SS (l : List B) : Prop := l.Pairwise (· < ·)
theorem getB (A : List B) {i : Nat} (hi : i < A.length) : D.toStr ((A.map D.str).getD i .no) = A[i] := by
  simp [List.getD_eq_getElem?_getD, hi, D.toStr]
theorem uniq : ∀ (a b : List B), SS a → SS b → (∀ x, x ∈ a ↔ x ∈ b) → a = b := by
  intro a
  induction a with
  | nil =>
    intro b _ _ h
    cases b with
    | nil => rfl
    | cons y s => exact absurd ((h y).2 List.mem_cons_self) (by simp)
  | cons x r ih =>
    intro b ha hb h
    cases b with
    | nil => exact absurd ((h x).1 List.mem_cons_self) (by simp)
    | cons y s =>
      obtain ⟨a1, a2⟩ := List.pairwise_cons.1 ha
      obtain ⟨b1, b2⟩ := List.pairwise_cons.1 hb
      have e : x = y := by
        rcases List.mem_cons.1 ((h x).1 List.mem_cons_self) with e | e
        · exact e
        · rcases List.mem_cons.1 ((h y).2 List.mem_cons_self) with e' | e'
          · exact e'.symm
          · exact absurd (List.lt_trans (b1 x e) (a1 y e')) (List.lt_irrefl _)
      subst e
      rw [ih s a2 b2 fun z => ?_]
      constructor
      · intro hz
        rcases List.mem_cons.1 ((h z).1 (List.mem_cons_of_mem _ hz)) with e | e
        · subst e; exact absurd (a1 z hz) (List.lt_irrefl _)
        · exact e
      · intro hz
        rcases List.mem_cons.1 ((h z).2 (List.mem_cons_of_mem _ hz)) with e | e
        · subst e; exact absurd (b1 z hz) (List.lt_irrefl _)
        · exact e
theorem copy_ins (L : List D) (z d : D) {k : Nat} (hk : k ≤ L.length) : (copyL (L ++ [z]) (k + 1) k).set k d = L.take k ++ d :: L.drop k := by
  have hm : min ((L ++ [z]).length - k) ((L ++ [z]).length - (k + 1)) = L.length - k := by simp only [List.length_append, List.length_cons, List.length_nil]; omega
  unfold copyL
  rw [hm]
  have h1 : (L ++ [z]).drop (k + 1 + (L.length - k)) = [] := List.drop_eq_nil_of_le (by simp; omega)
  have h2 : ((L ++ [z]).drop k).take (L.length - k) = L.drop k := by
    rw [List.drop_append_of_le_length hk, List.take_append_of_le_length (by rw [List.length_drop]; omega), List.take_of_length_le (by rw [List.length_drop]; omega)]
  rw [h1, h2, List.append_nil]
  apply List.ext_getElem?
  intro i
  have hl : ((L ++ [z]).take (k + 1)).length = k + 1 := by rw [List.length_take]; simp; omega
  have hl2 : (L.take k).length = k := by rw [List.length_take]; omega
  by_cases hik : i = k
  · subst hik
    rw [List.getElem?_set_self (by rw [List.length_append, hl]; omega), List.getElem?_append_right (by omega), hl2]; simp
  · rw [List.getElem?_set_ne (fun e => hik e.symm)]
    by_cases hlt : i < k
    · rw [List.getElem?_append_left (by omega), List.getElem?_take_of_lt (by omega), List.getElem?_append_left (by omega), List.getElem?_append_left (by omega), List.getElem?_take_of_lt hlt]
    · rw [List.getElem?_append_right (by omega), hl, List.getElem?_append_right (by omega), hl2]
      have : i - k = (i - (k + 1)) + 1 := by omega
      rw [this, List.getElem?_cons_succ]
theorem insert (A : List B) (s : B) (hA : SS A) (hl : A.length ≤ 1048576) :
    ∃ A' : List B, RUN E 9 [.list (A.map .str), .str s] = some [.list (A'.map .str)] ∧ SS A' ∧ (∀ x, x ∈ A' ↔ x ∈ A ∨ x = s) ∧ A'.length ≤ A.length + 1 := by
  have hd : ∀ (i j : Nat) (hij : i < j) (hj : j < A.length), A[i] < A[j] := fun i j hij hj => List.pairwise_iff_getElem.1 hA i j (by omega) hj hij
  have lp : ∀ n k : Nat, k + n = A.length → (∀ j (h : j < k) (h' : j < A.length), A[j] < s) →
      ∃ A' : List B, L9a s k (A.map .str) = some [.list (A'.map .str)] ∧ SS A' ∧ (∀ x, x ∈ A' ↔ x ∈ A ∨ x = s) ∧ A'.length ≤ A.length + 1 := by
    intro n
    induction n with
    | zero =>
      intro k hk hlow
      have hkA : k = A.length := by omega
      subst hkA
      refine ⟨A ++ [s], ?_, ?_, ?_, by simp⟩
      · rw [round9a, dec_f (by rw [List.length_map]; omega), List.length_map]
        have hin : inb (A.length : Int) A.length = false := by unfold inb; simp
        rw [hin]
        simp only [cond_true, cond_false]
        rw [fitL_le (by rw [lim_val]; simp; omega), nxt (by omega)]
        have hlen : (A.map D.str ++ [D.str []]).length = A.length + 1 := by simp
        rw [hlen, cutOk_lo (by omega), cutOk_lo (by omega), Int.toNat_natCast, Int.toNat_natCast]
        have hc := copyL_len (A.map D.str ++ [D.str []]) (A.length + 1) A.length (by rw [hlen]; omega) (by rw [hlen]; omega)
        rw [hc, hlen, inb_nat (by omega)]
        have := copy_ins (A.map D.str) (D.str []) (D.str s) (k := A.length) (by simp)
        simp only [cond_true]
        rw [this]
        have e1 : (A.map D.str).take A.length = A.map D.str := List.take_of_length_le (by simp)
        have e2 : (A.map D.str).drop A.length = [] := List.drop_eq_nil_of_le (by simp)
        rw [e1, e2]; simp
      · refine List.pairwise_append.2 ⟨hA, List.pairwise_singleton _ _, fun x hx y hy => ?_⟩
        rw [List.mem_singleton.1 hy]
        obtain ⟨j, hj, rfl⟩ := List.getElem_of_mem hx
        exact hlow j hj hj
      · intro x; simp
    | succ n ih =>
      intro k hk hlow
      have hkA : k < A.length := by omega
      have e9 : L9a s k (A.map .str) = _ := round9a _ _ _
      rw [List.length_map, inb_nat hkA, dec_t (p := (k : Int) < (A.length : Int)) (by omega), Int.toNat_natCast, getB A hkA, bytesLess_eq] at e9
      simp only [cond_true] at e9
      by_cases h1 : A[k] < s
      · rw [dec_t h1, nxt (by omega)] at e9
        obtain ⟨A', a1, a2⟩ := ih (k + 1) (by omega) fun j hj hj' => by
          rcases Nat.lt_or_ge j k with h | h
          · exact hlow j h hj'
          · have : j = k := by omega
            subst this; exact h1
        exact ⟨A', e9.trans a1, a2⟩
      · rw [dec_f h1] at e9
        by_cases h2 : A[k] = s
        · rw [dec_t h2] at e9
          refine ⟨A, e9, hA, fun x => ⟨.inl, fun h => h.elim id fun e => ?_⟩, by omega⟩
          rw [e, ← h2]; exact List.getElem_mem _
        · rw [dec_f h2] at e9
          simp only [cond_false] at e9
          have hlen : (A.map D.str ++ [D.str []]).length = A.length + 1 := by simp
          have hc := copyL_len (A.map D.str ++ [D.str []]) (k + 1) k (by rw [hlen]; omega) (by rw [hlen]; omega)
          rw [fitL_le (by rw [lim_val]; simp; omega), nxt (by omega), hlen, cutOk_lo (by omega), cutOk_lo (by omega), Int.toNat_natCast, hc, hlen, inb_nat (by omega), copy_ins (A.map D.str) (D.str []) (D.str s) (k := k) (by simp; omega)] at e9
          simp only [cond_true] at e9
          have hgt : s < A[k] := by
            have hle : s ≤ A[k] := List.not_lt.1 h1
            exact Classical.byContradiction fun h => h2 (List.le_antisymm (List.not_lt.1 h) hle)
          refine ⟨A.take k ++ s :: A.drop k, ?_, ?_, ?_, by simp; omega⟩
          · rw [e9]; simp
          · refine List.pairwise_append.2 ⟨hA.sublist (List.take_sublist _ _), List.pairwise_cons.2 ⟨fun y hy => ?_, hA.sublist (List.drop_sublist _ _)⟩, fun x hx y hy => ?_⟩
            · obtain ⟨j, hj, rfl⟩ := List.getElem_of_mem hy
              rw [List.length_drop] at hj
              rw [List.getElem_drop]
              rcases Nat.eq_zero_or_pos j with h0 | h0
              · subst h0; exact hgt
              · exact List.lt_trans hgt (hd k (k + j) (by omega) (by omega))
            · obtain ⟨i, hi, rfl⟩ := List.getElem_of_mem hx
              rw [List.length_take] at hi
              rw [List.getElem_take]
              have hxs := hlow i (by omega) (by omega)
              rcases List.mem_cons.1 hy with rfl | hy
              · exact hxs
              · obtain ⟨j, hj, rfl⟩ := List.getElem_of_mem hy
                rw [List.length_drop] at hj
                rw [List.getElem_drop]
                exact hd i (k + j) (by omega) (by omega)
          · intro x
            have hsplit : x ∈ A ↔ x ∈ A.take k ∨ x ∈ A.drop k := by
              rw [← List.mem_append, List.take_append_drop]
            rw [hsplit]
            simp only [List.mem_append, List.mem_cons]
            constructor
            · rintro (h | h | h)
              · exact .inl (.inl h)
              · exact .inr h
              · exact .inl (.inr h)
            · rintro ((h | h) | h)
              · exact .inl h
              · exact .inr (.inr h)
              · exact .inr (.inl h)
  rw [enter9]
  exact lp A.length 0 (Nat.zero_add _) fun j h => absurd h (Nat.not_lt_zero _)

theorem r13 (x : List D) (h : x.length ≤ 1048576) : RUN E 13 [.list x] = some [.list (srt x)] := by
  have : RUN E 13 [.list x] = cond (decide (x.length ≤ lim)) (some [.list (srt x)]) none := (RUN_eq _ _ _).trans (by kernel_rfl)
  rw [this, dec_t (by rw [lim_val]; omega)]; rfl
theorem srt_map (Bs : List B) : srt (Bs.map .str) = (srtS Bs).map .str := by
  unfold srt
  have : (Bs.map D.str).map D.toStr = Bs := by
    rw [List.map_map]
    have : (D.toStr ∘ D.str) = id := by funext x; rfl
    rw [this, List.map_id]
  rw [this]
theorem sorted (Bs : List B) (hl : Bs.length ≤ 1048576) : ∃ A : List B, RUN E 10 [.list (Bs.map .str)] = some [.list (A.map .str)] ∧ SS A ∧ (∀ x, x ∈ A ↔ x ∈ Bs) ∧ A.length ≤ Bs.length := by
  have hS : (srtS Bs).Pairwise (· ≤ ·) := by
    have := List.pairwise_mergeSort (le := fun x y : B => decide (x ≤ y)) (fun a b c h1 h2 => by
      simp only [decide_eq_true_eq] at *; exact List.le_trans h1 h2) (fun a b => by
      simp only [Bool.or_eq_true, decide_eq_true_eq]; exact List.le_total a b) Bs
    exact this.imp fun h => by simpa using h
  have hmem : ∀ x, x ∈ srtS Bs ↔ x ∈ Bs := fun x => (List.mergeSort_perm _ _).mem_iff
  have hlen : (srtS Bs).length = Bs.length := by simp [srtS]
  have e0 : RUN E 10 [.list (Bs.map .str)] = L10a ((srtS Bs).length : Int) ((0 : Nat) : Int) (([] : List B).map .str) ((srtS Bs).map .str) := by
    rw [enter10, r13 _ (by simp; omega), srt_map]
    simp only [opt_s, List.getD_cons_zero, tL, List.length_map]
    rfl
  generalize srtS Bs = S at *
  have lp : ∀ n i : Nat, i + n = S.length → ∀ out : List B, SS out → (∀ x, x ∈ out ↔ x ∈ S.take i) → out.length ≤ i →
      ∃ A : List B, L10a (S.length : Int) i (out.map .str) (S.map .str) = some [.list (A.map .str)] ∧ SS A ∧ (∀ x, x ∈ A ↔ x ∈ S) ∧ A.length ≤ S.length := by
    intro n
    induction n with
    | zero =>
      intro i hi out h1 h2 h3
      refine ⟨out, ?_, h1, fun x => by rw [h2, List.take_of_length_le (by omega)], by omega⟩
      rw [round10a, dec_f (by omega)]; rfl
    | succ n ih =>
      intro i hi out h1 h2 h3
      have hiS : i < S.length := by omega
      have htake : S.take (i + 1) = S.take i ++ [S[i]] := by rw [List.take_add_one]; simp [hiS]
      have e10 : L10a (S.length : Int) i (out.map .str) (S.map .str) = _ := round10a _ _ _ _
      rw [dec_t (by omega), List.length_map, inb_nat hiS, Int.toNat_natCast, getB S hiS] at e10
      have hg : (bif inb (IntKind.wrap IntKind.i64 ((i : Int) - 1)) S.length then true else bif bif decide ((i : Int) = 0) then false else true then false else true) = true := by
        rcases Nat.eq_zero_or_pos i with h0 | h0
        · subst h0; cases inb (IntKind.wrap IntKind.i64 (((0 : Nat) : Int) - 1)) S.length <;> rfl
        · rw [wrap_id (by omega) (by omega), show ((i : Int) - 1) = ((i - 1 : Nat) : Int) by omega, inb_nat (by omega)]; rfl
      rw [hg] at e10
      simp only [cond_true] at e10
      have push : (∀ x ∈ out, x < S[i]) → (L10a (S.length : Int) i (out.map .str) (S.map .str) = L10a (S.length : Int) ((i + 1 : Nat) : Int) (out.map .str ++ [.str S[i]]) (S.map .str)) →
          ∃ A : List B, L10a (S.length : Int) i (out.map .str) (S.map .str) = some [.list (A.map .str)] ∧ SS A ∧ (∀ x, x ∈ A ↔ x ∈ S) ∧ A.length ≤ S.length := by
        intro hlt he
        obtain ⟨A, a1, a2⟩ := ih (i + 1) (by omega) (out ++ [S[i]]) (List.pairwise_append.2 ⟨h1, List.pairwise_singleton _ _, fun x hx y hy => by rw [List.mem_singleton.1 hy]; exact hlt x hx⟩)
          (fun x => by rw [htake, List.mem_append, List.mem_append, h2]) (by simp; omega)
        refine ⟨A, ?_, a2⟩
        rw [he, ← a1]; simp
      have hpush : L10a (S.length : Int) ((i + 1 : Nat) : Int) (out.map .str ++ [.str S[i]]) (S.map .str) = cond (fitL (out.map D.str).length (List.length [D.str S[i]])) (L10a (S.length : Int) (IntKind.wrap IntKind.i64 ((i : Int) + 1)) (out.map .str ++ [.str S[i]]) (S.map .str)) none := by
        rw [fitL_le (by rw [lim_val]; simp; omega), nxt (by omega)]; rfl
      rcases Nat.eq_zero_or_pos i with h0 | h0
      · refine push (fun x hx => ?_) ?_
        · rw [h2, h0] at hx; cases hx
        · rw [e10, hpush, dec_t (p := (i : Int) = 0) (by omega)]; rfl
      · rw [dec_f (p := (i : Int) = 0) (by omega), wrap_id (i := (i : Int) - 1) (by omega) (by omega), show ((i : Int) - 1) = ((i - 1 : Nat) : Int) by omega, Int.toNat_natCast, getB S (by omega)] at e10
        simp only [cond_false] at e10
        by_cases he : S[i] = S[i - 1]
        · rw [dec_t he] at e10
          simp only [cond_true, cond_false] at e10
          rw [nxt (by omega)] at e10
          obtain ⟨A, a1, a2⟩ := ih (i + 1) (by omega) out h1 (fun x => by
            rw [htake, List.mem_append, h2]
            refine ⟨.inl, fun h => h.elim id fun h => ?_⟩
            rw [List.mem_singleton.1 h, he]
            exact List.mem_take_iff_getElem.2 ⟨i - 1, by omega, rfl⟩) (by omega)
          exact ⟨A, e10.trans a1, a2⟩
        · rw [dec_f he] at e10
          refine push (fun x hx => ?_) (by rw [e10, hpush]; rfl)
          rw [h2] at hx
          obtain ⟨j, hj, rfl⟩ := List.mem_take_iff_getElem.1 hx
          have hle : ∀ (a b : Nat) (hab : a < b) (hb : b < S.length), S[a] ≤ S[b] := fun a b hab hb => List.pairwise_iff_getElem.1 hS a b (by omega) hb hab
          have k1 : S[j] ≤ S[i - 1] := by
            rcases Nat.lt_or_ge j (i - 1) with h | h
            · exact hle j (i - 1) h (by omega)
            · have : j = i - 1 := by omega
              subst this; exact List.le_refl _
          have k2 : S[i - 1] < S[i] := Classical.byContradiction fun h => he (List.le_antisymm (List.not_lt.1 h) (hle (i - 1) i (by omega) hiS))
          exact List.lt_of_le_of_lt k1 k2
  obtain ⟨A, a1, a2, a3, a4⟩ := lp S.length 0 (Nat.zero_add _) [] List.Pairwise.nil (fun x => by simp) (Nat.le_refl _)
  exact ⟨A, e0.trans a1, a2, fun x => (a3 x).trans (hmem x), by omega⟩
end nms
end Go.Proofs.Ytlmfiknfkgdbpaa.pn

namespace Go.Proofs.Ytlmfiknfkgdbpaa.pn
open Go.Proofs.Ytlmfiknfkgdbpaa.DS
namespace nms

theorem mass_two (d : D) {i j : Nat} (hij : i < j) : dmass (d.cell i) + dmass (d.cell j) ≤ dmass d := by
  have key : ∀ (cs : List D) (i j : Nat), i < j → dmass (cs.getD i .no) + dmass (cs.getD j .no) ≤ dmass.dmAll cs := by
    intro cs
    induction cs with
    | nil => intro i j _; simp [dmass]
    | cons c r ih =>
      intro i j h
      cases j with
      | zero => omega
      | succ j =>
        rw [List.getD_cons_succ]
        simp only [dmass.dmAll]
        cases i with
        | zero => rw [List.getD_cons_zero]; have := mass_getD r j; omega
        | succ i => rw [List.getD_cons_succ]; have := ih i j (by omega); omega
  cases d with
  | agg cs => exact key cs i j hij
  | _ =>
    cases j with
    | zero => omega
    | succ j => cases i <;> simp [D.cell, D.cells, dmass]
theorem insAll (v8 : List D) (v9 v10 : Int) (r : List B) : ∀ k i : Nat, i + k = r.length → r.length ≤ 1048576 → ∀ A : List B, SS A → A.length + k ≤ 1048576 →
    ∃ A' : List B, L5c v8 v9 v10 (r.map .str) (r.length : Int) i (A.map .str) = L5a v8 v9 (IntKind.wrap IntKind.i64 (v10 + 1)) (A'.map .str) ∧ SS A' ∧ (∀ x, x ∈ A' ↔ x ∈ A ∨ x ∈ r.drop i) ∧ A'.length ≤ A.length + k := by
  intro k
  induction k with
  | zero =>
    intro i hi hr A hA hl
    refine ⟨A, ?_, hA, fun x => by rw [List.drop_eq_nil_of_le (by omega)]; simp, by omega⟩
    rw [round5c, dec_f (by omega)]; rfl
  | succ k ih =>
    intro i hi hr A hA hl
    have hir : i < r.length := by omega
    obtain ⟨A1, a1, a2, a3, a4⟩ := insert A r[i] hA (by omega)
    obtain ⟨A', b1, b2, b3, b4⟩ := ih (i + 1) (by omega) hr A1 a2 (by omega)
    refine ⟨A', ?_, b2, fun x => ?_, by omega⟩
    · rw [round5c, dec_t (by omega), List.length_map, inb_nat hir, Int.toNat_natCast, getB r hir, a1]
      simp only [cond_true, opt_s, List.getD_cons_zero, tL]
      rw [nxt (by omega)]
      exact b1
    · rw [b3, a3, List.drop_eq_getElem_cons hir, List.mem_cons]
      constructor
      · rintro ((h | h) | h)
        · exact .inl h
        · exact .inr (.inl h)
        · exact .inr (.inr h)
      · rintro (h | h | h)
        · exact .inl (.inl h)
        · exact .inl (.inr h)
        · exact .inr h
theorem t31 : lk 31 E.tt = some ⟨.agg 31, [.str, .str, .slice 80, .bool, .slice 31], [(0, 9), (1, 9), (2, 29), (3, 4), (4, 22)], 88⟩ := by kernel_rfl
theorem pos : posTT E.tt = true := by kernel_rfl
theorem key4 (d : D) (h : d = .list d.toList) : dmass d = dmass.dmAll d.toList + 1 := by
  cases d with
  | list xs => rfl
  | _ => cases h
theorem both {M : Mem} : ∀ (n : Nat) (l : List D), dmass.dmAll l ≤ n → n ≤ 1048576 → (∃ v, Rep E.tt M (.slice 31) v (.list l)) →
    ∃ r : List B, RUN E 5 [.list l] = some [.list (r.map .str)] ∧ RUN E 6 [.list l] = some [.list (r.map .str)] ∧ SS r ∧ r.length ≤ dmass.dmAll l ∧ ∀ s ∈ r, s.length ≤ 1048576 := by
  intro n
  induction n with
  | zero =>
    intro l hl _ ⟨v, hv⟩
    have h0 := rep_len pos hv
    have : l = [] := List.length_eq_zero_iff.1 (by omega)
    subst this
    refine ⟨[], ?_, ?_, List.Pairwise.nil, by simp, by simp⟩
    · rw [enter5, round5a]; rfl
    · obtain ⟨A, a1, _, _, a4⟩ := sorted [] (by simp)
      have : A = [] := List.length_eq_zero_iff.1 (by simpa using a4)
      subst this
      have a1' : RUN E 10 [.list []] = some [.list []] := a1
      rw [enter6, round6a, a1']; rfl
  | succ n ih =>
    intro l hl hn ⟨v, hv⟩
    have h0 := rep_len pos hv
    have lp : ∀ k i : Nat, i + k = l.length → ∀ (A Bs : List B) (c : Nat), SS A → (∀ x, x ∈ A ↔ x ∈ Bs) → A.length ≤ c → Bs.length ≤ c → c + dmass.dmAll (l.drop i) ≤ dmass.dmAll l → (∀ s ∈ Bs, s.length ≤ 1048576) →
        ∃ r : List B, L5a l (l.length : Int) i (A.map .str) = some [.list (r.map .str)] ∧ L6a l (l.length : Int) i (Bs.map .str) = some [.list (r.map .str)] ∧ SS r ∧ r.length ≤ dmass.dmAll l ∧ ∀ s ∈ r, s.length ≤ 1048576 := by
      intro k
      induction k with
      | zero =>
        intro i hi A Bs c hA hm h1 h2 hc hs
        obtain ⟨A', a1, a2, a3, a4⟩ := sorted Bs (by omega)
        have : A' = A := uniq _ _ a2 hA fun x => (a3 x).trans (hm x).symm
        subst this
        refine ⟨A', ?_, ?_, hA, by omega, fun s hsA => hs s ((hm s).1 hsA)⟩
        · rw [round5a, dec_f (by omega)]; rfl
        · rw [round6a, dec_f (by omega), a1]; rfl
      | succ k ihk =>
        intro i hi A Bs c hA hm h1 h2 hc hs
        have hil : i < l.length := by omega
        have hg : l.getD i .no = l[i] := by rw [List.getD_eq_getElem?_getD, List.getElem?_eq_getElem hil]; rfl
        rw [List.drop_eq_getElem_cons hil] at hc
        simp only [dmass.dmAll] at hc
        obtain ⟨u, hu⟩ := rep_elem t31 hv (i := i) hil
        have hu' : Rep E.tt M (.agg 31) u l[i] := by rw [← hg]; exact hu
        obtain ⟨u4, h4⟩ := rep_cell t31 hu' (i := 4) (by decide)
        have h4' : Rep E.tt M (.slice 31) u4 (D.cell l[i] 4) := h4
        obtain ⟨_, _, _, e4, _⟩ := h4'.inv_slice
        have hm4 : dmass (D.cell l[i] 4) = dmass.dmAll (D.toList (D.cell l[i] 4)) + 1 := key4 _ e4
        have hm2 := mass_two l[i] (i := 1) (j := 4) (by omega)
        have hname := toStr_le (D.cell l[i] 1)
        rw [e4] at h4'
        obtain ⟨r, r1, r2, r3, r4, r5⟩ := ih (D.toList (D.cell l[i] 4)) (by omega) (by omega) ⟨u4, h4'⟩
        have e5 : L5a l (l.length : Int) i (A.map .str) = _ := round5a _ _ _ _
        have e6 : L6a l (l.length : Int) i (Bs.map .str) = _ := round6a _ _ _ _
        rw [dec_t (by omega), inb_nat hil, Int.toNat_natCast, hg] at e5 e6
        rw [r2] at e6
        simp only [cond_true, opt_s, List.getD_cons_zero, tL] at e5 e6
        generalize hnm : D.toStr (D.cell l[i] 1) = name at *
        have cont : ∀ (A1 Bs1 : List B) (c1 : Nat), SS A1 → (∀ x, x ∈ A1 ↔ x ∈ Bs1) → A1.length ≤ c1 → Bs1.length ≤ c1 → c1 + (dmass.dmAll (D.toList (D.cell l[i] 4)) + dmass.dmAll (l.drop (i + 1))) ≤ dmass.dmAll l → (∀ s ∈ Bs1, s.length ≤ 1048576) →
            ∃ rr : List B, C5b l (l.length : Int) i (A1.map .str) l[i] = some [.list (rr.map .str)] ∧ L6a l (l.length : Int) (IntKind.wrap IntKind.i64 ((i : Int) + 1)) (Bs1.map .str ++ r.map .str) = some [.list (rr.map .str)] ∧ SS rr ∧ rr.length ≤ dmass.dmAll l ∧ ∀ s ∈ rr, s.length ≤ 1048576 := by
          intro A1 Bs1 c1 k1 k2 k3 k4 k5 k6
          obtain ⟨A2, a1, a2, a3, a4⟩ := insAll l (l.length : Int) i r r.length 0 (Nat.zero_add _) (by omega) A1 k1 (by omega)
          obtain ⟨rr, q1, q2, q3⟩ := ihk (i + 1) (by omega) A2 (Bs1 ++ r) (c1 + r.length) a2 (fun x => by rw [a3, List.drop_zero, List.mem_append, k2]) (by omega) (by rw [List.length_append]; omega) (by omega)
            (fun s hs => by
              rcases List.mem_append.1 hs with h | h
              · exact k6 s h
              · exact r5 s h)
          refine ⟨rr, ?_, ?_, q3⟩
          · rw [round5b, r1]
            simp only [opt_s, List.getD_cons_zero, tL, List.length_map]
            rw [nxt (show i ≤ 4611686018427387904 by omega)] at a1
            exact a1.trans q1
          · rw [nxt (show i ≤ 4611686018427387904 by omega), ← List.map_append]; exact q2
        by_cases he : name = []
        · rw [dec_t he] at e5 e6
          simp only [cond_false, cond_true] at e5 e6
          rw [fitL_le (by rw [lim_val]; simp; omega)] at e6
          obtain ⟨rr, q1, q2, q3⟩ := cont A Bs c hA hm h1 h2 (by omega) hs
          exact ⟨rr, e5.trans q1, e6.trans q2, q3⟩
        · have hnl : 1 ≤ name.length := by cases name with
            | nil => exact absurd rfl he
            | cons _ _ => simp
          rw [dec_f he] at e5 e6
          simp only [cond_true, cond_false] at e5 e6
          obtain ⟨A1, a1, a2, a3, a4⟩ := insert A name hA (by omega)
          rw [a1] at e5
          simp only [opt_s, List.getD_cons_zero, tL] at e5
          rw [fitL_le (by rw [lim_val]; simp; omega), fitL_le (by rw [lim_val]; simp; omega)] at e6
          obtain ⟨rr, q1, q2, q3⟩ := cont A1 (Bs ++ [name]) (c + 1) a2 (fun x => by rw [a3, List.mem_append, List.mem_singleton, hm]) (by omega) (by simp; omega) (by omega)
            (fun s hs' => by
              rcases List.mem_append.1 hs' with h | h
              · exact hs s h
              · rw [List.mem_singleton.1 h]; omega)
          refine ⟨rr, e5.trans q1, e6.trans ?_, q3⟩
          simpa using q2
    rw [enter5, enter6]
    exact lp l.length 0 (Nat.zero_add _) [] [] 0 List.Pairwise.nil (fun x => Iff.rfl) (by simp) (by simp) (by simp) (by simp)

theorem has (s : List D) (hs : s.length ≤ 1048576) (nm : B) : ∃ b : Bool, RUN E 11 [.list s, .str nm] = some [.bool b] ∧ RUN E 12 [.list s, .str nm] = some [.bool b] := by
  have lp : ∀ k i : Nat, i + k = s.length → ∃ b : Bool, L11a nm s (s.length : Int) i = some [.bool b] ∧ L12a nm s (s.length : Int) i = some [.bool b] := by
    intro k
    induction k with
    | zero => intro i hi; exact ⟨false, by rw [round11a, dec_f (by omega)]; rfl, by rw [round12a, dec_f (by omega)]; rfl⟩
    | succ k ih =>
      intro i hi
      rw [round11a, round12a, dec_t (by omega), inb_nat (by omega), Int.toNat_natCast]
      simp only [cond_true]
      by_cases h : D.toStr (D.cell (s.getD i .no) 0) = nm
      · rw [dec_t h]; exact ⟨true, rfl, rfl⟩
      · rw [dec_f h, nxt (by omega)]; exact ih (i + 1) (by omega)
  rw [enter11, enter12]
  exact lp s.length 0 (Nat.zero_add _)
theorem same4 (l : List D) (h : l.length ≤ 1048576) : RUN E 4 [.list l, .list l] = some [.bool true] := by
  have lp : ∀ k i : Nat, i + k = l.length → L4a l l (l.length : Int) i = some [.bool true] := by
    intro k
    induction k with
    | zero => intro i hi; rw [round4a, dec_f (by omega)]; rfl
    | succ k ih =>
      intro i hi
      rw [round4a, dec_t (by omega), inb_nat (by omega), dec_t rfl, nxt (by omega)]
      exact ih (i + 1) (by omega)
  rw [enter4, dec_t rfl]
  exact lp _ 0 (Nat.zero_add _)
theorem missing (s : List D) (hs : s.length ≤ 1048576) (r : List B) (hr : r.length ≤ 1048576) (hb : ∀ x ∈ r, x.length ≤ 1048576) : ∀ k i : Nat, i + k = r.length → ∀ out : List D, out.length ≤ i →
    ∃ t : List D, L7a s (r.map .str) (r.length : Int) i out = some [.list t] ∧ L8a s (r.map .str) (r.length : Int) i out = some [.list t] ∧ t.length ≤ 1048576 := by
  intro k
  induction k with
  | zero =>
    intro i hi out ho
    exact ⟨out, by rw [round7a, dec_f (by omega)]; rfl, by rw [round8a, dec_f (by omega)]; rfl, by omega⟩
  | succ k ih =>
    intro i hi out ho
    have hir : i < r.length := by omega
    have hbl := hb r[i] (List.getElem_mem _)
    obtain ⟨b, b1, b2⟩ := has s hs (([115, 104, 111, 114, 116, 47] : B) ++ r[i])
    rw [round7a, round8a, dec_t (by omega), List.length_map, inb_nat hir, Int.toNat_natCast, getB r hir, dec_t (by rw [lim_val]; simp; omega), b1, b2, fitL_le (by rw [lim_val]; simp; omega), nxt (by omega)]
    simp only [cond_true, opt_s, List.getD_cons_zero, D.toBool]
    cases b with
    | true => exact ih (i + 1) (by omega) out (by omega)
    | false => exact ih (i + 1) (by omega) _ (by simp; omega)
theorem lawR {M M' : Mem} {v v' : Value} {l s : List D} (h0 : Rep E.tt M (.slice 31) v (.list l)) (h1 : Rep E.tt M' (.slice 37) v' (.list s)) (hb : dmass.dmAll [.list l, .list s] ≤ 1048576) : RUN E 3 [.list l, .list s] = some [.bool true] := by
  simp only [dmass.dmAll, dmass] at hb
  obtain ⟨r, r1, r2, _, r4, r5⟩ := both (M := M) (dmass.dmAll l) l (Nat.le_refl _) (by omega) ⟨v, h0⟩
  have hs := rep_len pos h1
  obtain ⟨t, t1, t2, t3⟩ := missing s (by omega) r (by omega) r5 r.length 0 (Nat.zero_add _) [] (Nat.le_refl _)
  have e7 : RUN E 7 [.list l, .list s] = some [.list t] := by
    rw [enter7, r1]
    simp only [opt_s, List.getD_cons_zero, tL, List.length_map]
    exact t1
  have e8 : RUN E 8 [.list l, .list s] = some [.list t] := by
    rw [enter8, r2]
    simp only [opt_s, List.getD_cons_zero, tL, List.length_map]
    exact t2
  rw [enter3, r1, r2]
  simp only [opt_s, List.getD_cons_zero, tL]
  rw [same4 _ (by simp; omega)]
  simp only [opt_s, List.getD_cons_zero, tL, D.toBool, cond_true]
  rw [e7, e8]
  simp only [opt_s, List.getD_cons_zero, tL, D.toBool, cond_true]
  rw [same4 t t3]
  rfl
end nms
end Go.Proofs.Ytlmfiknfkgdbpaa.pn
