/- Splitting at one byte; loops over rows; how great the parts of data are. -/
import Derived.Test.YthbncndefigidaaDoorDtQ
import Derived.Lib.Bytealg
set_option linter.unusedVariables false
set_option linter.unusedSimpArgs false
namespace Go.Proofs.YthbncndefigidaaDoor.DS

/-! ### Cutting at a byte -/
def cuts (c : UInt8) : List UInt8 → List UInt8 → List (List UInt8)
  | w, [] => [w]
  | w, b :: r => bif b == c then w :: cuts c [] r else cuts c (w ++ [b]) r
def splitC (c : UInt8) (s : List UInt8) : List (List UInt8) := cuts c [] s
theorem cuts_none {c : UInt8} : ∀ (s w : List UInt8), c ∉ s → cuts c w s = [w ++ s] := by
  intro s
  induction s with
  | nil => intro w _; simp [cuts]
  | cons b r ih =>
    intro w h
    have hb : (b == c) = false := by
      rw [← Bool.not_eq_true, beq_iff_eq]; intro e; subst e; exact h List.mem_cons_self
    simp only [cuts, hb, cond_false]
    rw [ih _ (fun hr => h (List.mem_cons_of_mem _ hr))]; simp
theorem cuts_one {c : UInt8} (post : List UInt8) : ∀ (pre w : List UInt8), c ∉ pre → cuts c w (pre ++ c :: post) = (w ++ pre) :: cuts c [] post := by
  intro pre
  induction pre with
  | nil => intro w _; simp [cuts]
  | cons b r ih =>
    intro w h
    have hb : (b == c) = false := by
      rw [← Bool.not_eq_true, beq_iff_eq]; intro e; subst e; exact h List.mem_cons_self
    simp only [List.cons_append, cuts, hb, cond_false]
    rw [ih _ (fun hr => h (List.mem_cons_of_mem _ hr))]; simp
theorem idx_cases (c : UInt8) : ∀ s : List UInt8, (Lib.indexByte s c = -1 ∧ c ∉ s) ∨ ∃ pre post, s = pre ++ c :: post ∧ c ∉ pre ∧ Lib.indexByte s c = (pre.length : Int) := by
  intro s
  induction s with
  | nil => exact .inl ⟨rfl, by simp⟩
  | cons b r ih =>
    unfold Lib.indexByte
    cases hb : b == c with
    | true =>
      have := beq_iff_eq.1 hb; subst this
      exact .inr ⟨[], r, rfl, by simp, by simp⟩
    | false =>
      have hne : b ≠ c := by intro e; subst e; simp at hb
      rcases ih with ⟨h1, h2⟩ | ⟨pre, post, h1, h2, h3⟩
      · left
        refine ⟨by simp [h1], ?_⟩
        simp only [List.mem_cons, not_or]
        exact ⟨fun e => hne e.symm, h2⟩
      · right
        refine ⟨b :: pre, post, by rw [h1]; rfl, ?_, ?_⟩
        · simp only [List.mem_cons, not_or]
          exact ⟨fun e => hne e.symm, h2⟩
        · rw [h3]
          have : ((pre.length : Int) == -1) = false := by rw [← Bool.not_eq_true, beq_iff_eq]; omega
          simp [this]
theorem splitC_none {c : UInt8} {s : List UInt8} (h : c ∉ s) : splitC c s = [s] := by unfold splitC; rw [cuts_none _ _ h]; rfl
theorem splitC_one {c : UInt8} {pre : List UInt8} (post : List UInt8) (h : c ∉ pre) : splitC c (pre ++ c :: post) = pre :: splitC c post := by unfold splitC; rw [cuts_one _ _ _ h]; rfl
theorem split_len (c : UInt8) : ∀ n (s : List UInt8), s.length ≤ n → (splitC c s).length = s.count c + 1 ∧ ∀ x ∈ splitC c s, x.length ≤ s.length := by
  intro n
  induction n with
  | zero =>
    intro s h
    have : s = [] := List.length_eq_zero_iff.1 (by omega)
    subst this
    exact ⟨rfl, fun x hx => by simp [splitC, cuts] at hx; subst hx; simp⟩
  | succ n ih =>
    intro s h
    rcases idx_cases c s with ⟨_, h2⟩ | ⟨pre, post, h1, h2, _⟩
    · rw [splitC_none h2, List.count_eq_zero.2 h2]
      exact ⟨rfl, fun x hx => by simp at hx; subst hx; exact Nat.le_refl _⟩
    · subst h1
      simp at h
      obtain ⟨q1, q2⟩ := ih post (by omega)
      rw [splitC_one _ h2]
      refine ⟨by simp [q1, List.count_eq_zero.2 h2], fun x hx => ?_⟩
      rcases List.mem_cons.1 hx with rfl | hx
      · simp
      · have := q2 x hx; simp; omega

theorem take_set_self {α : Type} (x : α) : ∀ (a : List α) (i : Nat), (a.set i x).take i = a.take i := by
  intro a
  induction a with
  | nil => intro i; rfl
  | cons b r ih => intro i; cases i with
    | zero => rfl
    | succ i => simp [ih]
theorem split_loop {L : List UInt8 → Int → Int → List D → R} {X : List UInt8 → R} {c : UInt8} (hX : ∀ s, s.length ≤ 4194304 → X s = some [.int (Lib.indexByte s c)]) (hL : ∀ (s0 : List UInt8) (n3 i10 : Int) (a9s : List D), L s0 n3 i10 a9s =
    cond (decide (i10 < n3))
      (opt (X s0) fun r1 =>
        cond (decide (D.toInt (List.getD r1 0 D.no) < 0))
          (cond (inb i10 (List.length a9s))
            (cond (cutOk (List.length (List.set a9s (Int.toNat i10) (D.str s0))) none (some (IntKind.wrap IntKind.i64 (i10 + 1))))
              (some [D.list (cutL (List.set a9s (Int.toNat i10) (D.str s0)) none (some (IntKind.wrap IntKind.i64 (i10 + 1))))])
              (none))
            (none))
          (cond (cutOk (List.length s0) none (some (IntKind.wrap IntKind.i64 (D.toInt (List.getD r1 0 D.no) + 0))))
            (cond (inb i10 (List.length a9s))
              (cond (cutOk (List.length s0) (some (IntKind.wrap IntKind.i64 (D.toInt (List.getD r1 0 D.no) + (↑(List.length [c]) : Int)))) none)
                (L (cutL s0 (some (IntKind.wrap IntKind.i64 (D.toInt (List.getD r1 0 D.no) + (↑(List.length [c]) : Int)))) none) n3 (IntKind.wrap IntKind.i64 (i10 + 1)) (List.set a9s (Int.toNat i10) (D.str (cutL s0 none (some (IntKind.wrap IntKind.i64 (D.toInt (List.getD r1 0 D.no) + 0)))))))
                (none))
              (none))
            (none)))
      (cond (inb i10 (List.length a9s))
        (cond (cutOk (List.length (List.set a9s (Int.toNat i10) (D.str s0))) none (some (IntKind.wrap IntKind.i64 (i10 + 1))))
          (some [D.list (cutL (List.set a9s (Int.toNat i10) (D.str s0)) none (some (IntKind.wrap IntKind.i64 (i10 + 1))))])
          (none))
        (none))) : ∀ (n : Nat) (s : List UInt8), s.length ≤ n → n ≤ 4194304 → ∀ (i : Nat) (a : List D), i + s.count c ≤ 4194304 → a.length = i + s.count c + 1 → L s ((i + s.count c : Nat) : Int) (i : Int) a = some [.list (a.take i ++ (splitC c s).map .str)] := by
  intro n
  induction n with
  | zero =>
    intro s h _ i a hb ha
    have : s = [] := List.length_eq_zero_iff.1 (by omega)
    subst this
    rw [hL, dec_f (by simp), nxt (by omega), inb_nat (by omega), Int.toNat_natCast, cutOk_hi (by rw [List.length_set]; omega), cut_hi]
    simp only [cond_true, cond_false]
    rw [take_snoc .no (by rw [List.length_set]; omega)]
    simp only [List.count_nil, Nat.add_zero] at ha
    simp [splitC, cuts, List.getD_eq_getElem?_getD, List.getElem?_set, ha, take_set_self]
  | succ n ih =>
    intro s h hn i a hb ha
    have hin : inb (i : Int) a.length = true := inb_nat (by omega)
    have hx := hX s (by omega)
    rcases idx_cases c s with ⟨_, h2⟩ | ⟨pre, post, h1, h2, h3⟩
    · have hc : s.count c = 0 := List.count_eq_zero.2 h2
      rw [hc] at ha ⊢
      rw [hL, dec_f (by omega), nxt (by omega), hin, Int.toNat_natCast, cutOk_hi (by rw [List.length_set]; omega), cut_hi, splitC_none h2]
      simp only [cond_true, cond_false]
      rw [take_snoc .no (by rw [List.length_set]; omega)]
      simp [List.getD_eq_getElem?_getD, List.getElem?_set, ha, take_set_self]
    · have hcs : s.count c = post.count c + 1 := by rw [h1]; simp [List.count_eq_zero.2 h2]
      have hl : s.length = pre.length + 1 + post.length := by rw [h1]; simp; omega
      rw [hL, dec_t (by omega), hx, opt_s, List.getD_cons_zero, tI, h3, dec_f (by omega), nxt (by omega), hin, Int.toNat_natCast]
      have w0 : IntKind.wrap IntKind.i64 ((pre.length : Int) + 0) = (pre.length : Int) := wrap_id (by omega) (by omega)
      have w1 : IntKind.wrap IntKind.i64 ((pre.length : Int) + (↑(List.length [c]) : Int)) = ((pre.length + 1 : Nat) : Int) := nxt (by omega)
      have e1 : s.take pre.length = pre := by rw [h1]; simp
      have e2 : s.drop (pre.length + 1) = post := by rw [h1]; simp [List.drop_append]
      have k1 : cutOk s.length none (some (pre.length : Int)) = true := cutOk_hi (by omega)
      have k2 : cutOk s.length (some ((pre.length + 1 : Nat) : Int)) none = true := cutOk_lo (by omega)
      simp only [w0, w1, k1, k2, cut_lo, cut_hi, e1, e2, cond_true, cond_false]
      have := ih post (by omega) (by omega) (i + 1) (a.set i (.str pre)) (by omega) (by rw [List.length_set]; omega)
      rw [show i + 1 + post.count c = i + s.count c by omega] at this
      rw [this, h1, splitC_one _ h2, take_snoc .no (by rw [List.length_set]; omega)]
      have hlt : i < i + s.count c + 1 := by omega
      simp [List.getD_eq_getElem?_getD, List.getElem?_set, ha, take_set_self, hlt]

/-! ### A loop that asks all -/
theorem all_loop {L : Int → R} {xs : List D} {p : D → Bool} (hend : L (xs.length : Nat) = some [.bool true]) (hL : ∀ i : Nat, i < xs.length → L i = cond (p (xs.getD i .no)) (L ((i + 1 : Nat) : Int)) (some [.bool false])) : L 0 = some [.bool (xs.all p)] := by
  have key : ∀ n i : Nat, i + n = xs.length → L i = some [.bool ((xs.drop i).all p)] := by
    intro n
    induction n with
    | zero =>
      intro i hi
      have : i = xs.length := by omega
      subst this
      rw [hend, List.drop_length]; rfl
    | succ n ih =>
      intro i hi
      have hil : i < xs.length := by omega
      rw [hL i hil, ih (i + 1) (by omega), drop_cons .no hil]
      simp only [List.all_cons]
      cases p (xs.getD i .no) <;> rfl
  have := key xs.length 0 (by omega)
  rwa [List.drop_zero] at this
theorem all_loopS {L : Int → R} {s : List UInt8} {p : UInt8 → Bool} (hend : L (s.length : Nat) = some [.bool true]) (hL : ∀ i : Nat, i < s.length → L i = cond (p (s.getD i 0)) (L ((i + 1 : Nat) : Int)) (some [.bool false])) : L 0 = some [.bool (s.all p)] := by
  have key : ∀ n i : Nat, i + n = s.length → L i = some [.bool ((s.drop i).all p)] := by
    intro n
    induction n with
    | zero =>
      intro i hi
      have : i = s.length := by omega
      subst this
      rw [hend, List.drop_length]; rfl
    | succ n ih =>
      intro i hi
      have hil : i < s.length := by omega
      rw [hL i hil, ih (i + 1) (by omega), drop_cons 0 hil]
      simp only [List.all_cons]
      cases p (s.getD i 0) <;> rfl
  have := key s.length 0 (by omega)
  rwa [List.drop_zero] at this

/-! ### How great parts are -/
theorem mass_mem {l : List D} {x : D} (h : x ∈ l) : dmass x ≤ dmass.dmAll l := by
  induction l with
  | nil => cases h
  | cons y r ih =>
    simp only [dmass.dmAll]
    rcases List.mem_cons.1 h with rfl | h
    · omega
    · have := ih h; omega
theorem mass_getD (l : List D) (i : Nat) : dmass (l.getD i .no) ≤ dmass.dmAll l := by
  by_cases h : i < l.length
  · rw [getD_eq l i .no h]; exact mass_mem (List.getElem_mem h)
  · rw [List.getD_eq_getElem?_getD, List.getElem?_eq_none (by omega)]; simp [dmass]
theorem mass_cell (d : D) (i : Nat) : dmass (d.cell i) ≤ dmass d := by
  cases d with
  | agg cs => exact mass_getD cs i
  | _ => cases i <;> simp [D.cell, D.cells, dmass]
theorem toStr_le (d : D) : d.toStr.length ≤ dmass d := by cases d <;> simp [D.toStr, dmass]
theorem cellS_le (d : D) (i : Nat) : (D.toStr (d.cell i)).length ≤ dmass d := Nat.le_trans (toStr_le _) (mass_cell d i)
/-- The cells of a listed table. -/
def flatV : DataW Unit → List Value
  | .lit (.int k n) => [.int k n]
  | .lit (.bool b) => [.bool b]
  | .lit (.string s) => [.string ⟨s.toArray⟩]
  | .agg l => flatAll l
  | _ => []
where flatAll : List (DataW Unit) → List Value
  | [] => []
  | d :: r => flatV d ++ flatAll r
theorem toList_le (d : D) : dmass.dmAll d.toList ≤ dmass d := by cases d <;> simp [D.toList, dmass, dmass.dmAll]
end Go.Proofs.YthbncndefigidaaDoor.DS
