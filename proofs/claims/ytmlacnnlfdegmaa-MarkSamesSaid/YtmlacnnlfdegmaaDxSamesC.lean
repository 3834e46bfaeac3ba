import Derived.Test.YtmlacnnlfdegmaaDxSamesB
import Derived.Test.YtmlacnnlfdegmaaDtH
set_option linter.unusedVariables false
set_option linter.unusedSimpArgs false
namespace Go.Proofs.Ytmlacnnlfdegmaa.markSames
open Go.Proofs.Ytmlacnnlfdegmaa.DS

def resF (xs ys : List D) (B : Nat → Bool) : Nat → Nat → Bool
  | 0, _ => true
  | j + 1, i => cond (p5 (xs.getD i .no) (ys.getD i .no)) false (cond (B i) (resF xs ys B j (i + 1)) false)

theorem loop_gen {f : Nat} {callk : Nat → List D → R} {xs ys : List D} {B : Nat → Bool} (hl : xs.length = ys.length) (hb : xs.length ≤ maxLen) (g : Nat → Int → R)
    (hg : ∀ m i, g (m + 1) i = cond (decide (i < (xs.length : Int))) (rnd f callk xs ys i (g m (IntKind.i64.wrap (i + 1)))) (some [.bool true]))
    (hB : ∀ i, i < xs.length → callk f [.list ((xs.getD i .no).cell 5).toList, .list ((ys.getD i .no).cell 5).toList] = some [.bool (B i)]) :
    ∀ j i m, i + j = xs.length → j < m → g m (i : Int) = some [.bool (resF xs ys B j i)] := by
  intro j
  induction j with
  | zero =>
    intro i m hi hm
    obtain ⟨m, rfl⟩ : ∃ k, m = k + 1 := ⟨m - 1, by omega⟩
    rw [hg]
    have : decide ((i : Int) < (xs.length : Int)) = false := by simp; omega
    rw [this]; rfl
  | succ j ih =>
    intro i m hi hm
    obtain ⟨m, rfl⟩ : ∃ k, m = k + 1 := ⟨m - 1, by omega⟩
    have hilt : i < xs.length := by omega
    rw [hg]
    have h1 : decide ((i : Int) < (xs.length : Int)) = true := by simp; omega
    have h2 : inb (i : Int) xs.length = true := by unfold inb; simp; omega
    have h3 : inb (i : Int) ys.length = true := by unfold inb; simp; omega
    have h4 : IntKind.i64.wrap ((i : Int) + 1) = ((i + 1 : Nat) : Int) := by
      unfold maxLen at hb
      rw [wrap64 (by omega) (by omega)]; simp
    have h5 : (i : Int).toNat = i := by simp
    rw [h1, cond_true]
    unfold rnd
    rw [h2, h3, cond_true, cond_true, h5, h4, ih (i + 1) m (by omega) (by omega)]
    simp only [resF]
    cases hp : p5 (xs.getD i .no) (ys.getD i .no) with
    | true => rfl
    | false =>
      have : boolEqB false false = true := rfl
      rw [this, cond_true, hB i hilt]
      cases B i <;> rfl

theorem p5_self (x : D) : p5 x x = false := by simp [p5, ne1, neS]
theorem resF_self (xs : List D) (B : Nat → Bool) : ∀ j i, (∀ k, i ≤ k → k < i + j → B k = true) → resF xs xs B j i = true := by
  intro j
  induction j with
  | zero => intro i _; rfl
  | succ j ih =>
    intro i h
    simp only [resF, p5_self, cond_false, h i (Nat.le_refl _) (by omega), cond_true]
    exact ih (i + 1) (fun k h1 h2 => h k (by omega) (by omega))

theorem main : ∀ s xs ys, SizeOf.sizeOf xs < s → LB (.list xs) → LB (.list ys) →
    ∃ b k0, (∀ k, k0 ≤ k → run E k 11 [.list xs, .list ys] = some [.bool b] ∧ run E k 12 [.list xs, .list ys] = some [.bool b]) ∧ (xs = ys → b = true) := by
  intro s
  induction s with
  | zero => intro xs ys h; omega
  | succ s ih =>
    intro xs ys hsz hx hy
    by_cases hl : xs.length = ys.length
    · have hk : ∀ i, i < xs.length → ∃ b k0, (∀ k, k0 ≤ k → run E k 11 [.list ((xs.getD i .no).cell 5).toList, .list ((ys.getD i .no).cell 5).toList] = some [.bool b] ∧
          run E k 12 [.list ((xs.getD i .no).cell 5).toList, .list ((ys.getD i .no).cell 5).toList] = some [.bool b]) ∧ (xs = ys → b = true) := by
        intro i hi
        have hxi : LB (xs.getD i .no) := by
          rw [List.getD_eq_getElem?_getD, List.getElem?_eq_getElem hi]; exact hx.list_inv.2 _ (List.getElem_mem hi)
        have hyi : LB (ys.getD i .no) := by
          rw [List.getD_eq_getElem?_getD, List.getElem?_eq_getElem (by omega)]; exact hy.list_inv.2 _ (List.getElem_mem _)
        obtain ⟨b, k0, h1, h2⟩ := ih _ _ (by have := size_kids hi 5; omega) (hxi.cell 5).toList (hyi.cell 5).toList
        exact ⟨b, k0, h1, fun e => h2 (by rw [e])⟩
      obtain ⟨B, K, hB⟩ := choose_all (P := fun i (b : Bool) k0 => (∀ k, k0 ≤ k → run E k 11 [.list ((xs.getD i .no).cell 5).toList, .list ((ys.getD i .no).cell 5).toList] = some [.bool b] ∧
          run E k 12 [.list ((xs.getD i .no).cell 5).toList, .list ((ys.getD i .no).cell 5).toList] = some [.bool b]) ∧ (xs = ys → b = true)) (fun i b k k' hkk h => ⟨fun q hq => h.1 q (by omega), h.2⟩) xs.length hk
      refine ⟨resF xs ys B xs.length 0, max K xs.length + 3, fun k hk => ?_, ?_⟩
      · obtain ⟨m, rfl⟩ : ∃ m, k = m + 2 := ⟨k - 2, by omega⟩
        have hd : (!decide ((xs.length : Int) = (ys.length : Int))) = false := by simp; omega
        have hKm : K ≤ m + 1 := by omega
        have hmm : xs.length < m := by omega
        rw [enter11, enter12, hd, cond_false, cond_false]
        exact ⟨loop_gen hl hx.list_inv.1 (fun m i => G 11 Try.f11 (run E (_ + 1)) _ m (markSames.hd xs ys xs.length i)) (fun m i => round11 _ _ m xs ys _ i) (fun i hi => ((hB i hi).1 _ hKm).1) xs.length 0 m (by omega) hmm,
          loop_gen hl hx.list_inv.1 (fun m i => G 12 Try.f12 (run E (_ + 1)) _ m (markSames.hd xs ys xs.length i)) (fun m i => round12 _ _ m xs ys _ i) (fun i hi => ((hB i hi).1 _ hKm).2) xs.length 0 m (by omega) hmm⟩
      · intro e
        subst e
        exact resF_self xs B _ 0 (fun k _ hk => (hB k (by omega)).2 rfl)
    · refine ⟨false, 2, fun k hk => ?_, fun e => absurd (by rw [e]) hl⟩
      obtain ⟨m, rfl⟩ : ∃ m, k = m + 2 := ⟨k - 2, by omega⟩
      have hd : (!decide ((xs.length : Int) = (ys.length : Int))) = true := by simp; omega
      rw [enter11, enter12, hd]
      exact ⟨rfl, rfl⟩

theorem law {xs ys : List D} (hx : LB (.list xs)) (hy : LB (.list ys)) : ∃ k, run E k 3 [.list xs, .list ys] = some [.bool true] := by
  obtain ⟨b, k1, h1, _⟩ := main _ xs ys (Nat.lt_succ_self _) hx hy
  obtain ⟨b2, k2, h2, h3⟩ := main _ xs xs (Nat.lt_succ_self _) hx hx
  have := h3 rfl
  subst this
  refine ⟨max k1 k2 + 1, ?_⟩
  rw [enter3, (h1 _ (Nat.le_max_left _ _)).1, (h1 _ (Nat.le_max_left _ _)).2, (h2 _ (Nat.le_max_right _ _)).1]
  cases b <;> rfl

end Go.Proofs.Ytmlacnnlfdegmaa.markSames
