/- The law TmplExprs. -/
import Derived.Test.YtcmeincdmphaoaaGreatDoorDxExJ
import Derived.Lib.LaidTab
import Derived.MakeChecks
set_option linter.unusedVariables false
set_option linter.unusedSimpArgs false
namespace Go.Proofs.YtcmeincdmphaoaaGreatDoor.ex
open Go.Proofs.YtcmeincdmphaoaaGreatDoor.DS
namespace exx
theorem ax43 (s : B) (i : Int) (b : Bool) (k : Int) (n : B) (v2 : Int) (v3 : Bool) (v4 : Int) (v5 : B) (xs : List D) : L43ax s i b 0 [] 0 false 0 [] k n v2 v3 v4 v5 [] xs = L43a s i b 0 [] 0 false 0 [] (.agg [.int k, .str n, .int v2, .bool v3, .int v4, .str v5, .list [], .list [], .list xs]) [] := by
  rw [round43ax, round43a]
theorem ax23 (s : B) (i : Int) (b : Bool) (k : Int) (n : B) (v2 : Int) (v3 : Bool) (v4 : Int) (v5 : B) (xs : List D) : L23ax s i b 0 [] 0 false 0 [] k n v2 v3 v4 v5 [] xs = L23a s i b 0 [] 0 false 0 [] (.agg [.int k, .str n, .int v2, .bool v3, .int v4, .str v5, .list [], .list [], .list xs]) [] := by
  rw [round23ax, round23a]
theorem ax27 (kind : Int) (op : B) (s : B) (i : Int) (b : Bool) (k : Int) (n : B) (v2 : Int) (v3 : Bool) (v4 : Int) (v5 : B) (xs : List D) : L27ax kind op s i b 0 [] 0 false 0 [] k n v2 v3 v4 v5 [] xs = L27a kind op s i b 0 [] 0 false 0 [] (.agg [.int k, .str n, .int v2, .bool v3, .int v4, .str v5, .list [], .list [], .list xs]) [] := by
  rw [round27ax, round27a]
theorem bad43 (s : B) (i : Nat) (x : D) : L43a s (i : Int) true 0 [] 0 false 0 [] x [] = some [x, PS s i true] := by rw [round43a]; rfl
theorem bad23 (s : B) (i : Nat) (x : D) : L23a s (i : Int) true 0 [] 0 false 0 [] x [] = some [x, PS s i true] := by rw [round23a]; rfl
section
variable {s : B} (hs : s.length ≤ 1048576)
include hs
theorem dead27 {j : Nat} {b : Bool} (hd : Dead s j b) (kind : Int) {op : B} (hop : op ≠ []) (x : D) : L27a kind op s (j : Int) b 0 [] 0 false 0 [] x [] = some [x, PS s j b] := by
  rw [round27a, skip28 hs hd.le, show sk s j = j from hd.sk]
  simp only [opt_s, List.getD_cons_zero, List.getD_cons_succ, D.cell, D.cells, tS, tI, tB, cond_true, cond_false]
  rw [r48 hs hd.le, hd.word]
  simp only [opt_s, List.getD_cons_zero, List.getD_cons_succ, D.cell, D.cells, tS, tI, tB, cond_true, cond_false]
  rw [dec_f (show ¬ ([] : B) = op from fun e => hop e.symm)]
  rfl
/-- What follows the word, in the reference, where it has failed. -/
theorem deadStep {j : Nat} {b : Bool} (hd : Dead s j b) (kind : Int) {op : B} (hop : op ≠ []) (x y : D) :
    (cond b (some [.agg [.int kind, .str [], .int 0, .bool false, .int 0, .str [], .list [], .list [], .list [x, y]], PS s j b]) (L27ax kind op s (j : Int) b 0 [] 0 false 0 [] kind [] 0 false 0 [] [] [x, y])) = some [.agg [.int kind, .str [], .int 0, .bool false, .int 0, .str [], .list [], .list [], .list [x, y]], PS s j b] := by
  cases b with
  | true => rfl
  | false =>
    show L27ax kind op s (j : Int) false 0 [] 0 false 0 [] kind [] 0 false 0 [] [] [x, y] = _
    rw [ax27, dead27 hs hd kind hop]
omit hs in
theorem r47a {s : B} (i : Nat) (b : Bool) : RUN E 47 [PS s i b, .int 8] = rew (RUN E 71 [PS s i b]) := by rw [enter47]; rfl
omit hs in
theorem r47o {s : B} (i : Nat) (b : Bool) : RUN E 47 [PS s i b, .int 9] = rew (RUN E 27 [PS s i b, .int 8, .str [97, 110, 100]]) := by rw [enter47]; rfl
theorem and_loop (t0 : Nat) (hnot : ∀ k, t0 < k → k ≤ s.length → Out s k (RUN E 68 [PS s k false]) (RUN E 71 [PS s k false])) :
    ∀ m t : Nat, s.length - t < m → t0 ≤ t → t ≤ s.length → ∀ x, Gd x → Out s t (L43a s (t : Int) false 0 [] 0 false 0 [] x []) (L27a 8 [97, 110, 100] s (t : Int) false 0 [] 0 false 0 [] x []) := by
  intro m
  induction m with
  | zero => intro t h; omega
  | succ m ih =>
    intro t hm h0 ht x hx
    have hu : sk s t ≤ s.length := runTo_le gp ht
    have hu1 : t ≤ sk s t := runTo_ge gp s t
    rw [round43a, round27a, r44 hs ht, skip28 hs ht]
    simp only [opt_s, List.getD_cons_zero, List.getD_cons_succ, D.cell, D.cells, tS, tI, tB, cond_true, cond_false]
    rw [r48 hs hu]
    simp only [opt_s, List.getD_cons_zero, List.getD_cons_succ, D.cell, D.cells, tS, tI, tB, cond_true, cond_false]
    generalize sk s t = u at *
    by_cases hw : rw0 s u = [97, 110, 100]
    · have hp := (word_eq (s := s) (i := u) (w := [97, 110, 100]) rfl).2 hw
      have hl := rw0_len hu
      rw [hw] at hl
      replace hl : u + 3 ≤ s.length := hl
      rw [dec_t hp, dec_t hw]
      simp only [opt_s, List.getD_cons_zero, List.getD_cons_succ, D.cell, D.cells, tS, tI, tB, cond_true, cond_false]
      rw [wrapAdd (show u + ([97, 110, 100] : B).length ≤ _ by show u + 3 ≤ _; omega), show u + ([97, 110, 100] : B).length = u + 3 from rfl, r47a]
      rcases hnot (u + 3) (by omega) hl with ⟨y, i', hp, hq, h1, h2, hg⟩ | ⟨y, i', z, j, b, hp, h2, hq, hd⟩
      · rw [hp, hq]
        simp only [opt_s, List.getD_cons_zero, List.getD_cons_succ, D.cell, D.cells, tS, tI, tB, cond_true, cond_false]
        rw [ax43, ax27]
        exact (ih i' (by omega) (by omega) h2 _ (gd2 hx hg 8 [])).mono (by omega)
      · rw [hp, hq]
        simp only [opt_s, List.getD_cons_zero, List.getD_cons_succ, D.cell, D.cells, tS, tI, tB, cond_true, cond_false]
        rw [ax43, bad43]
        exact .inr ⟨_, i', _, j, b, rfl, h2, deadStep hs hd 8 (by simp) x z, hd⟩
    · rw [dec_f (fun e => hw ((word_eq (s := s) (i := u) (w := [97, 110, 100]) rfl).1 e)), dec_f hw]
      exact .inl ⟨x, u, rfl, rfl, hu1, hu, hx⟩
theorem or_loop (t0 : Nat) (hand : ∀ k, t0 < k → k ≤ s.length → Out s k (RUN E 43 [PS s k false]) (RUN E 27 [PS s k false, .int 8, .str [97, 110, 100]])) :
    ∀ m t : Nat, s.length - t < m → t0 ≤ t → t ≤ s.length → ∀ x, Gd x → Out s t (L23a s (t : Int) false 0 [] 0 false 0 [] x []) (L27a 9 [111, 114] s (t : Int) false 0 [] 0 false 0 [] x []) := by
  intro m
  induction m with
  | zero => intro t h; omega
  | succ m ih =>
    intro t hm h0 ht x hx
    have hu : sk s t ≤ s.length := runTo_le gp ht
    have hu1 : t ≤ sk s t := runTo_ge gp s t
    rw [round23a, round27a, r44 hs ht, skip28 hs ht]
    simp only [opt_s, List.getD_cons_zero, List.getD_cons_succ, D.cell, D.cells, tS, tI, tB, cond_true, cond_false]
    rw [r48 hs hu]
    simp only [opt_s, List.getD_cons_zero, List.getD_cons_succ, D.cell, D.cells, tS, tI, tB, cond_true, cond_false]
    generalize sk s t = u at *
    by_cases hw : rw0 s u = [111, 114]
    · have hp := (word_eq (s := s) (i := u) (w := [111, 114]) rfl).2 hw
      have hl := rw0_len hu
      rw [hw] at hl
      replace hl : u + 2 ≤ s.length := hl
      rw [dec_t hp, dec_t hw]
      simp only [opt_s, List.getD_cons_zero, List.getD_cons_succ, D.cell, D.cells, tS, tI, tB, cond_true, cond_false]
      rw [wrapAdd (show u + ([111, 114] : B).length ≤ _ by show u + 2 ≤ _; omega), show u + ([111, 114] : B).length = u + 2 from rfl, r47o]
      rcases hand (u + 2) (by omega) hl with ⟨y, i', hp, hq, h1, h2, hg⟩ | ⟨y, i', z, j, b, hp, h2, hq, hd⟩
      · rw [hp, hq]
        simp only [opt_s, List.getD_cons_zero, List.getD_cons_succ, D.cell, D.cells, tS, tI, tB, cond_true, cond_false]
        rw [ax23, ax27]
        exact (ih i' (by omega) (by omega) h2 _ (gd2 hx hg 9 [])).mono (by omega)
      · rw [hp, hq]
        simp only [opt_s, List.getD_cons_zero, List.getD_cons_succ, D.cell, D.cells, tS, tI, tB, cond_true, cond_false]
        rw [ax23, bad23]
        exact .inr ⟨_, i', _, j, b, rfl, h2, deadStep hs hd 9 (by simp) x z, hd⟩
    · rw [dec_f (fun e => hw ((word_eq (s := s) (i := u) (w := [111, 114]) rfl).1 e)), dec_f hw]
      exact .inl ⟨x, u, rfl, rfl, hu1, hu, hx⟩
theorem ands {i : Nat} (hi : i ≤ s.length) (hnot : ∀ k, i ≤ k → k ≤ s.length → Out s k (RUN E 68 [PS s k false]) (RUN E 71 [PS s k false])) : Out s i (RUN E 43 [PS s i false]) (RUN E 27 [PS s i false, .int 8, .str [97, 110, 100]]) := by
  rw [enter43, enter27, r47a]
  rcases hnot i (Nat.le_refl _) hi with ⟨x, i', hp, hq, h1, h2, hg⟩ | ⟨x, i', y, j, b, hp, h2, hq, hd⟩
  · rw [hp, hq]
    simp only [opt_s, List.getD_cons_zero, List.getD_cons_succ, D.cell, D.cells, tS, tI, tB, cond_true, cond_false]
    exact (and_loop hs i (fun k h3 h4 => hnot k (by omega) h4) (s.length + 1) i' (by omega) h1 h2 x hg).mono h1
  · rw [hp, hq]
    simp only [opt_s, List.getD_cons_zero, List.getD_cons_succ, D.cell, D.cells, tS, tI, tB, cond_true, cond_false]
    rw [bad43, dead27 hs hd 8 (by simp)]
    exact .inr ⟨x, i', y, j, b, rfl, h2, rfl, hd⟩
theorem ors {i : Nat} (hi : i ≤ s.length) (hand : ∀ k, i ≤ k → k ≤ s.length → Out s k (RUN E 43 [PS s k false]) (RUN E 27 [PS s k false, .int 8, .str [97, 110, 100]])) : Out s i (RUN E 23 [PS s i false]) (RUN E 27 [PS s i false, .int 9, .str [111, 114]]) := by
  rw [enter23, enter27, r47o]
  rcases hand i (Nat.le_refl _) hi with ⟨x, i', hp, hq, h1, h2, hg⟩ | ⟨x, i', y, j, b, hp, h2, hq, hd⟩
  · rw [hp, hq]
    simp only [opt_s, List.getD_cons_zero, List.getD_cons_succ, D.cell, D.cells, tS, tI, tB, cond_true, cond_false]
    exact (or_loop hs i (fun k h3 h4 => hand k (by omega) h4) (s.length + 1) i' (by omega) h1 h2 x hg).mono h1
  · rw [hp, hq]
    simp only [opt_s, List.getD_cons_zero, List.getD_cons_succ, D.cell, D.cells, tS, tI, tB, cond_true, cond_false]
    rw [bad23, dead27 hs hd 9 (by simp)]
    exact .inr ⟨x, i', y, j, b, rfl, h2, rfl, hd⟩
theorem parse : ∀ m i : Nat, s.length - i < m → i ≤ s.length → Out s i (RUN E 68 [PS s i false]) (RUN E 71 [PS s i false]) ∧ Out s i (RUN E 43 [PS s i false]) (RUN E 27 [PS s i false, .int 8, .str [97, 110, 100]]) ∧ Out s i (RUN E 23 [PS s i false]) (RUN E 27 [PS s i false, .int 9, .str [111, 114]]) := by
  intro m
  induction m with
  | zero => intro i h; omega
  | succ m ih =>
    intro i hm hi
    have hN := nots hs hi (fun k h1 h2 => (ih k (by omega) h2).2.2) (fun k h1 h2 => (ih k (by omega) h2).1)
    have hA := ands hs hi (fun k h1 h2 => by
      rcases Nat.lt_or_ge i k with h | h
      · exact (ih k (by omega) h2).1
      · rw [show k = i by omega]; exact hN)
    refine ⟨hN, hA, ors hs hi (fun k h1 h2 => ?_)⟩
    rcases Nat.lt_or_ge i k with h | h
    · exact (ih k (by omega) h2).2.1
    · rw [show k = i by omega]; exact hA
end
end exx
end Go.Proofs.YtcmeincdmphaoaaGreatDoor.ex

namespace Go.Proofs.YtcmeincdmphaoaaGreatDoor.ex
open Go.Proofs.YtcmeincdmphaoaaGreatDoor.DS
namespace exx
theorem dTrue (i : Decidable True) : @decide True i = true := decide_eq_true trivial
theorem getD_mem {l : List D} {i : Nat} (h : i < l.length) : l.getD i .no ∈ l := by rw [List.getD_eq_getElem?_getD, List.getElem?_eq_getElem h]; exact List.getElem_mem h
theorem depths {x : D} (h : Gd x) : ∃ d, RUN E 12 [x] = some [.int d] ∧ RUN E 15 [x] = some [.int d] := by
  induction h with
  | mk k n v2 v3 v4 v5 xs h hl hf ih =>
    have key : ∀ m i : Nat, i + m = xs.length → ∀ d : Int, ∃ e, L12a d xs (xs.length : Int) (i : Int) = some [.int e] ∧ L15a d xs (xs.length : Int) (i : Int) = some [.int e] := by
      intro m
      induction m with
      | zero =>
        intro i hi d
        rw [round12a, round15a, dF (by omega)]
        exact ⟨_, rfl, rfl⟩
      | succ m im =>
        intro i hi d
        have hil : i < xs.length := by omega
        obtain ⟨e, e1, e2⟩ := ih _ (getD_mem hil)
        obtain ⟨e', q1, q2⟩ := im (i + 1) (by omega) (mmInt true d e)
        rw [round12a, round15a, dT hil, inb_nat hil, Int.toNat_natCast, nxt (by omega), e1, e2]
        exact ⟨e', q1, q2⟩
    rw [enter12, enter15]
    exact key xs.length 0 (by omega) 0
theorem unknowns {x : D} (h : Gd x) : ∃ b, RUN E 25 [x] = some [.bool b] ∧ RUN E 29 [x] = some [.bool b] := by
  induction h with
  | mk k n v2 v3 v4 v5 xs h hl hf ih =>
    have key : ∀ m i : Nat, i + m = xs.length → ∃ b, L25a xs (xs.length : Int) (i : Int) = some [.bool b] ∧ L29a xs (xs.length : Int) (i : Int) = some [.bool b] := by
      intro m
      induction m with
      | zero =>
        intro i hi
        rw [round25a, round29a, dF (by omega)]
        exact ⟨_, rfl, rfl⟩
      | succ m im =>
        intro i hi
        have hil : i < xs.length := by omega
        obtain ⟨b, e1, e2⟩ := ih _ (getD_mem hil)
        obtain ⟨b', q1, q2⟩ := im (i + 1) (by omega)
        rw [round25a, round29a, dT hil, inb_nat hil, Int.toNat_natCast, nxt (by omega), e1, e2]
        cases b with
        | true => exact ⟨true, rfl, rfl⟩
        | false => exact ⟨b', q1, q2⟩
    obtain ⟨b, q1, q2⟩ := key xs.length 0 (by omega)
    replace q1 : L25a xs (xs.length : Int) 0 = _ := q1
    replace q2 : L29a xs (xs.length : Int) 0 = _ := q2
    rw [enter25, enter29]
    simp only [opt_s, List.getD_cons_zero, List.getD_cons_succ, D.cell, D.cells, tS, tI, tB, tL, cond_true, cond_false]
    rw [r46, r50]
    by_cases hk : k = 6
    · have hne := List.length_pos_iff.2 (hf hk)
      rw [dec_t hk]
      simp only [opt_s, List.getD_cons_zero, List.getD_cons_succ, D.cell, D.cells, tS, tI, tB, tL, cond_true, cond_false]
      by_cases h0 : fnd n K46 = 0
      · rw [dec_t h0]
        simp only [opt_s, List.getD_cons_zero, List.getD_cons_succ, D.cell, D.cells, tS, tI, tB, tL, cond_true, cond_false]
        rw [dec_f (show ¬ fnd n K46 = (xs.length : Int) by omega)]
        exact ⟨true, rfl, rfl⟩
      · rw [dec_f h0]
        simp only [opt_s, List.getD_cons_zero, List.getD_cons_succ, D.cell, D.cells, tS, tI, tB, tL, cond_true, cond_false]
        by_cases h1 : fnd n K46 = (xs.length : Int)
        · rw [dec_t h1]
          exact ⟨b, q1, q2⟩
        · rw [dec_f h1]
          exact ⟨true, rfl, rfl⟩
    · rw [dec_f hk]
      simp only [opt_s, List.getD_cons_zero, List.getD_cons_succ, D.cell, D.cells, tS, tI, tB, tL, cond_true, cond_false]
      cases decide (D.toInt (List.getD ([] : List D) 0 D.no) = 0) <;> exact ⟨b, q1, q2⟩
theorem same30 (v2 : Int) (v3 : Bool) (v4 : Int) (v5 : B) : RUN E 30 [.agg [.int v2, .bool v3, .int v4, .str v5, .list [], .list []], .agg [.int v2, .bool v3, .int v4, .str v5, .list [], .list []]] = some [.bool true] := by
  have e1 : L30a 0 0 (.agg [.int v2, .bool v3, .int v4, .str v5, .list [], .list []]) (.agg [.int v2, .bool v3, .int v4, .str v5, .list [], .list []]) = some [.bool true] := by
    rw [round30a]
    show L30b 0 0 _ _ = _
    rw [round30b]; rfl
  rw [enter30]
  simp only [opt_s, List.getD_cons_zero, List.getD_cons_succ, D.cell, D.cells, tS, tI, tB, tL, cond_true, cond_false]
  simp only [dTrue, beq_self_eq_true, cond_true, cond_false]
  exact e1
theorem sames {x : D} (h : Gd x) : RUN E 10 [x, x] = some [.bool true] := by
  induction h with
  | mk k n v2 v3 v4 v5 xs h hl hf ih =>
    have key : ∀ m i : Nat, i + m = xs.length → L10a (xs.length : Int) (i : Int) (.agg [.int k, .str n, .int v2, .bool v3, .int v4, .str v5, .list [], .list [], .list xs]) (.agg [.int k, .str n, .int v2, .bool v3, .int v4, .str v5, .list [], .list [], .list xs]) = some [.bool true] := by
      intro m
      induction m with
      | zero =>
        intro i hi
        rw [round10a, dF (by omega)]; rfl
      | succ m im =>
        intro i hi
        have hil : i < xs.length := by omega
        rw [round10a, dT hil]
        simp only [opt_s, List.getD_cons_zero, List.getD_cons_succ, D.cell, D.cells, tS, tI, tB, tL, cond_true, cond_false]
        rw [inb_nat hil, Int.toNat_natCast, nxt (by omega), ih _ (getD_mem hil), im (i + 1) (by omega)]
        rfl
    have e30 := same30 v2 v3 v4 v5
    rw [enter10]
    simp only [opt_s, List.getD_cons_zero, List.getD_cons_succ, D.cell, D.cells, tS, tI, tB, tL, cond_true, cond_false]
    simp only [dTrue, cond_true, cond_false]
    refine Eq.trans (congrArg (fun r => opt r _) (show _ = some [.bool true] from e30)) ?_
    simp only [opt_s, List.getD_cons_zero, List.getD_cons_succ, D.cell, D.cells, tS, tI, tB, tL, cond_true, cond_false]
    try simp only [dTrue, cond_true, cond_false]
    exact key xs.length 0 (by omega)
theorem gdZ : Gd exprZ := .mk 0 [] 0 false 0 [] [] (fun a h => by cases h) (by decide) (fun h => by cases h)
theorem main (s : B) : ∃ x e, RUN E 8 [.str s] = some [x, .int e] ∧ RUN E 9 [.str s] = some [x, .int e] ∧ Gd x := by
  rw [enter8, enter9]
  by_cases hL : 20000 < (s.length : Int)
  · rw [enter26, dec_t hL]
    exact ⟨exprZ, 4, rfl, rfl, gdZ⟩
  have hs : s.length ≤ 1048576 := by omega
  rw [r22 s hs, r26 s hs, dec_f hL]
  simp only [opt_s, List.getD_cons_zero, List.getD_cons_succ, D.cell, D.cells, tS, tI, tB, tL, cond_true, cond_false]
  cases hb : s.any bad with
  | true => exact ⟨exprZ, 9, rfl, rfl, gdZ⟩
  | false =>
    simp only [opt_s, List.getD_cons_zero, List.getD_cons_succ, D.cell, D.cells, tS, tI, tB, tL, cond_true, cond_false]
    simp only [dTrue, cond_true, cond_false]
    have hp := (parse hs (s.length + 1) 0 (by omega) (Nat.zero_le _)).2.2
    rcases hp with ⟨x, i', hp, hq, h1, h2, hg⟩ | ⟨x, i', y, j, b, hp, h2, hq, hd⟩
    · rw [show RUN E 23 [D.agg [D.str s, D.int 0, D.bool false]] = _ from hp, show RUN E 27 [D.agg [D.str s, D.int 0, D.bool false], D.int 9, D.str [111, 114]] = _ from hq]
      simp only [opt_s, List.getD_cons_zero, List.getD_cons_succ, D.cell, D.cells, tS, tI, tB, tL, cond_true, cond_false]
      rw [skip24 hs h2, skip28 hs h2]
      simp only [opt_s, List.getD_cons_zero, List.getD_cons_succ, D.cell, D.cells, tS, tI, tB, tL, cond_true, cond_false]
      obtain ⟨d, d1, d2⟩ := depths hg
      obtain ⟨u, u1, u2⟩ := unknowns hg
      rw [d1, d2, u1, u2]
      simp only [opt_s, List.getD_cons_zero, List.getD_cons_succ, D.cell, D.cells, tS, tI, tB, tL, cond_true, cond_false]
      cases decide (((sk s i' : Nat) : Int) < (s.length : Int)) with
      | true => exact ⟨exprZ, 8, rfl, rfl, gdZ⟩
      | false =>
        cases decide (12 < d) with
        | true => exact ⟨exprZ, 13, rfl, rfl, gdZ⟩
        | false =>
          cases u with
          | true => exact ⟨exprZ, 12, rfl, rfl, gdZ⟩
          | false => exact ⟨x, 0, rfl, rfl, hg⟩
    · rw [show RUN E 23 [D.agg [D.str s, D.int 0, D.bool false]] = _ from hp, show RUN E 27 [D.agg [D.str s, D.int 0, D.bool false], D.int 9, D.str [111, 114]] = _ from hq]
      simp only [opt_s, List.getD_cons_zero, List.getD_cons_succ, D.cell, D.cells, tS, tI, tB, tL, cond_true, cond_false]
      rw [skip24 hs h2, skip28 hs hd.le, show sk s j = j from hd.sk]
      simp only [opt_s, List.getD_cons_zero, List.getD_cons_succ, D.cell, D.cells, tS, tI, tB, tL, cond_true, cond_false]
      refine ⟨exprZ, 8, rfl, ?_, gdZ⟩
      rcases hd with ⟨rfl, _⟩ | ⟨rfl, hj, _⟩
      · rfl
      · rw [dT hj]; rfl
theorem law0 (s : B) : RUN E 4 [.str s] = some [.bool true] := by
  obtain ⟨x, e, h8, h9, hg⟩ := main s
  rw [enter4, h8, h9]
  simp only [opt_s, List.getD_cons_zero, List.getD_cons_succ, D.cell, D.cells, tS, tI, tB, tL, cond_true, cond_false]
  simp only [dTrue, cond_true, cond_false]
  rw [sames hg]
  rfl
theorem law {M : Mem} {v : Value} {l : B} (_ : Rep E.tt M .str v (.str l)) : RUN E 4 [.str l] = some [.bool true] := law0 l
end exx
end Go.Proofs.YtcmeincdmphaoaaGreatDoor.ex
