import Derived.Test.YthempoaickahcaaDxCmpB
set_option linter.unusedVariables false
set_option linter.unusedSimpArgs false
namespace Go.Proofs.Ythempoaickahcaa.tm
open Go.Proofs.Ythempoaickahcaa.DS
namespace compares

theorem opt_s {α β : Type} (a : α) (f : α → Option β) : opt (some a) f = f a := rfl
theorem kinds (k : Int) : k = 0 ∨ k = 1 ∨ k = 2 ∨ k = 3 ∨ k = 4 ∨ k = 7 ∨ (k ≠ 0 ∧ k ≠ 1 ∧ k ≠ 2 ∧ k ≠ 3 ∧ k ≠ 4 ∧ k ≠ 7 ∧ 0 ≠ k ∧ 1 ≠ k ∧ 2 ≠ k ∧ 3 ≠ k ∧ 4 ≠ k ∧ 7 ≠ k) := by omega
theorem order_eq (m n : Int) : RUN E 14 [.bool (decide (m < n)), .bool (decide (n < m))] = RUN E 18 [.int m, .int n] := by
  exact (enter14 _ _).trans (enter18 _ _).symm
set_option maxHeartbeats 4000000 in
theorem law (a b : D) : RUN E 3 [a, b] = some [.bool true] := by
  rw [enter3, enter6, enter7]
  simp only [order_eq]
  simp only [enter14, enter15, enter16, enter17]
  have hx : ∃ c : Int, RUN E 18 [.int (a.cell 2).toInt, .int (b.cell 2).toInt] = some [.int c] := by
    rw [enter18]
    by_cases h1 : (a.cell 2).toInt < (b.cell 2).toInt
    · exact ⟨-1, by simp [h1]⟩
    · by_cases h2 : (b.cell 2).toInt < (a.cell 2).toInt
      · exact ⟨1, by simp [h1, h2]⟩
      · exact ⟨0, by simp [h1, h2]⟩
  obtain ⟨c, hc⟩ := hx
  rw [hc]
  generalize (a.cell 0).toInt = ka
  generalize (b.cell 0).toInt = kb
  generalize (a.cell 1).toBool = xa
  generalize (b.cell 1).toBool = xb
  rcases kinds ka with h | h | h | h | h | h | ⟨h1, h2, h3, h4, h5, h6, i1, i2, i3, i4, i5, i6⟩ <;> rcases kinds kb with g | g | g | g | g | g | ⟨g1, g2, g3, g4, g5, g6, j1, j2, j3, j4, j5, j6⟩ <;> cases xa <;> cases xb <;>
    simp [*, opt_s, D.toInt, D.toBool]
  all_goals (by_cases hk : ka = kb <;> simp [hk, opt_s])
end compares
end Go.Proofs.Ythempoaickahcaa.tm
