/- Comparisons, not, and, or: the two parsers alike. -/
import Derived.Test.YtcmeincdmphaoaaGreatDoorDxExF
set_option linter.unusedVariables false
set_option linter.unusedSimpArgs false
namespace Go.Proofs.YtcmeincdmphaoaaGreatDoor.ex
open Go.Proofs.YtcmeincdmphaoaaGreatDoor.DS
namespace exx

/-! ### Where the reference has failed -/
section
variable {s : B} {j : Nat} {b : Bool} (h : Dead s j b)
include h
theorem Dead.le : j ≤ s.length := by
  rcases h with ⟨_, rfl⟩ | ⟨_, h, _⟩
  · exact Nat.le_refl _
  · omega
theorem Dead.sk : sk s j = j := by
  rcases h with ⟨_, rfl⟩ | ⟨_, h1, h2, _⟩
  · exact runTo_end gp (Nat.le_refl _)
  · exact runTo_no h1 (by rw [h2]; rfl)
theorem Dead.word : rw0 s j = [] := by
  unfold rw0
  rcases h with ⟨_, rfl⟩ | ⟨_, h1, h2, _⟩
  · rw [List.drop_length]; rfl
  · rw [drop_cons 0 h1, List.takeWhile_cons, h2]; rfl
theorem Dead.has {c : UInt8} {t : B} (hc : c ≠ 46) : hasAt s j (c :: t) = false := by
  rcases h with ⟨_, rfl⟩ | ⟨_, h1, h2, _⟩
  · exact hasAt_end (Nat.le_refl _) (by simp)
  · unfold hasAt
    rw [drop_cons 0 h1, h2]
    refine dec_f fun e => ?_
    injection e with e1 _
    exact hc e1.symm
end
theorem getD_end {s : B} {i : Nat} (h : s.length ≤ i) : s.getD i 0 = 0 := by rw [List.getD_eq_getElem?_getD, List.getElem?_eq_none (by omega)]; rfl

/-! ### A function's arguments -/
theorem args_loop {s : B} (hs : s.length ≤ 1048576) (k0 : Nat) (hor : ∀ i, k0 < i → i ≤ s.length → Out s i (RUN E 23 [PS s i false]) (RUN E 27 [PS s i false, .int 9, .str [111, 114]])) (w : B) :
    ∀ m q : Nat, s.length - q < m → k0 ≤ q → q < s.length → ∀ xs : List D, xs.length ≤ q → (∀ x ∈ xs, Gd x) →
      Out s q (L158b s (q : Int) false 0 [] 0 false 0 [] 6 w 0 false 0 [] [] xs) (L154b s ((q + 1 : Nat) : Int) false 0 [] 0 false 0 [] 6 w 0 false 0 [] [] xs) := by
  intro m
  induction m with
  | zero => intro q h; omega
  | succ m ih =>
    intro q hm hk hq xs hxl hxs
    rw [round158b, round154b, nxt (by omega)]
    have hfit : ∀ x : D, fitL xs.length [x].length = true := fun x => fit_t (by simp only [List.length_singleton]; omega)
    simp only [hfit, cond_true, cond_false]
    rcases hor (q + 1) (by omega) (by omega) with ⟨x, i', hp, hq2, h1, h2, hg⟩ | ⟨x, i', y, j, b, hp, h2, hq2, hd⟩
    · rw [hp, hq2]
      simp only [opt_s, List.getD_cons_zero, List.getD_cons_succ, D.cell, D.cells, tS, tI, tB, cond_true, cond_false]
      rw [skip24 hs h2, skip28 hs h2]
      simp only [opt_s, List.getD_cons_zero, List.getD_cons_succ, D.cell, D.cells, tS, tI, tB, cond_true, cond_false]
      have ht : sk s i' ≤ s.length := runTo_le gp h2
      have ht1 : i' ≤ sk s i' := runTo_ge gp s i'
      generalize sk s i' = t at *
      rw [r137, r98 hs ht]
      simp only [opt_s, List.getD_cons_zero, List.getD_cons_succ, D.cell, D.cells, tS, tI, tB, cond_true, cond_false]
      rw [r137, r138]
      simp only [opt_s, List.getD_cons_zero, List.getD_cons_succ, D.cell, D.cells, tS, tI, tB, cond_true, cond_false]
      have hgs : ∀ z ∈ xs ++ [x], Gd z := fun z hz => by
        rcases List.mem_append.1 hz with hz | hz
        · exact hxs z hz
        · rw [List.mem_singleton.1 hz]; exact hg
      rcases Nat.lt_or_ge t s.length with htl | htl
      · by_cases h41 : s.getD t 0 = 41
        · have e1 : hasAt s t [41] = true := by rw [hasAt_one htl, dec_t h41]
          rw [e1, h41]
          refine .inl ⟨.agg [.int 6, .str w, .int 0, .bool false, .int 0, .str [], .list [], .list [], .list (xs ++ [x])], t + 1, ?_, ?_, by omega, by omega, .mk 6 w 0 false 0 [] _ hgs (by simp; omega) (fun _ => by simp)⟩
          · rw [show decide (((41 : UInt8).toNat : Int) = 44) = false from rfl, show decide (((41 : UInt8).toNat : Int) = 41) = true from rfl]
            simp only [opt_s, List.getD_cons_zero, List.getD_cons_succ, D.cell, D.cells, tS, tI, tB, cond_true, cond_false]
            rw [r137, h41]
            simp only [opt_s, List.getD_cons_zero, List.getD_cons_succ, D.cell, D.cells, tS, tI, tB, cond_true, cond_false]
            rw [nxt (by omega)]; rfl
          · rfl
        · have e1 : hasAt s t [41] = false := by rw [hasAt_one htl, dec_f h41]
          rw [e1]
          simp only [cond_false, opt_s, List.getD_cons_zero, List.getD_cons_succ, D.cell, D.cells, tS, tI, tB]
          rw [r98 hs ht]
          have n41 : decide (((s.getD t 0).toNat : Int) = 41) = false := by rw [show (41 : Int) = ((41 : Nat) : Int) from rfl, byte_int _ 41 (by decide)]; exact dec_f h41
          by_cases h44 : s.getD t 0 = 44
          · have e2 : hasAt s t [44] = true := by rw [hasAt_one htl, dec_t h44]
            have n44 : decide (((s.getD t 0).toNat : Int) = 44) = true := by rw [h44]; rfl
            rw [e2, n41, n44]
            simp only [opt_s, List.getD_cons_zero, List.getD_cons_succ, D.cell, D.cells, tS, tI, tB, cond_true, cond_false]
            exact (ih t (by omega) (by omega) htl (xs ++ [x]) (by simp; omega) hgs).mono (by omega)
          · have e2 : hasAt s t [44] = false := by rw [hasAt_one htl, dec_f h44]
            have n44 : decide (((s.getD t 0).toNat : Int) = 44) = false := by rw [show (44 : Int) = ((44 : Nat) : Int) from rfl, byte_int _ 44 (by decide)]; exact dec_f h44
            rw [e2, n41, n44]
            simp only [opt_s, List.getD_cons_zero, List.getD_cons_succ, D.cell, D.cells, tS, tI, tB, cond_true, cond_false]
            rw [r130, r138]
            exact .fail rfl rfl ht
      · have e1 : hasAt s t [41] = false := hasAt_end htl (by simp)
        have e2 : hasAt s t [44] = false := hasAt_end htl (by simp)
        rw [e1, getD_end htl]
        simp only [cond_false, opt_s, List.getD_cons_zero, List.getD_cons_succ, D.cell, D.cells, tS, tI, tB]
        rw [r98 hs ht, e2, show decide (((0 : UInt8).toNat : Int) = 44) = false from rfl, show decide (((0 : UInt8).toNat : Int) = 41) = false from rfl]
        simp only [opt_s, List.getD_cons_zero, List.getD_cons_succ, D.cell, D.cells, tS, tI, tB, cond_true, cond_false]
        rw [r130, r138]
        exact .fail rfl rfl ht
    · rw [hp, hq2]
      simp only [opt_s, List.getD_cons_zero, List.getD_cons_succ, D.cell, D.cells, tS, tI, tB, cond_true, cond_false]
      rw [skip24 hs h2, skip28 hs hd.le, show sk s j = j from hd.sk]
      simp only [opt_s, List.getD_cons_zero, List.getD_cons_succ, D.cell, D.cells, tS, tI, tB, cond_true, cond_false]
      rw [r98 hs hd.le, hd.has (by decide)]
      simp only [opt_s, List.getD_cons_zero, List.getD_cons_succ, D.cell, D.cells, tS, tI, tB, cond_true, cond_false]
      rw [r98 hs hd.le, hd.has (by decide)]
      simp only [opt_s, List.getD_cons_zero, List.getD_cons_succ, D.cell, D.cells, tS, tI, tB, cond_true, cond_false]
      rw [r138, r130]
      exact .fail rfl rfl (runTo_le gp h2)
theorem wrapAdd {i n : Nat} (h : i + n ≤ 4611686018427387904) : IntKind.wrap .i64 ((i : Int) + (n : Int)) = ((i + n : Nat) : Int) := by rw [wrap_id (by omega) (by omega)]; omega
/-- A constant that is a word, or a function. -/
theorem named {s : B} (hs : s.length ≤ 1048576) {k : Nat} (hk : k ≤ s.length) (hor : ∀ i, k < i → i ≤ s.length → Out s i (RUN E 23 [PS s i false]) (RUN E 27 [PS s i false, .int 9, .str [111, 114]])) :
    Out s k (RUN E 158 [PS s k false]) (RUN E 154 [PS s k false]) := by
  have hl := rw0_len hk
  have hlp := pw0_len hk
  have w1 : decide (pw0 s k = [116, 114, 117, 101]) = decide (rw0 s k = [116, 114, 117, 101]) := by
    by_cases h : rw0 s k = [116, 114, 117, 101]
    · rw [dec_t h, dec_t ((word_eq rfl).2 h)]
    · rw [dec_f h, dec_f (fun e => h ((word_eq rfl).1 e))]
  have w2 : decide (pw0 s k = [102, 97, 108, 115, 101]) = decide (rw0 s k = [102, 97, 108, 115, 101]) := by
    by_cases h : rw0 s k = [102, 97, 108, 115, 101]
    · rw [dec_t h, dec_t ((word_eq rfl).2 h)]
    · rw [dec_f h, dec_f (fun e => h ((word_eq rfl).1 e))]
  have w3 : decide (pw0 s k = [110, 105, 108]) = decide (rw0 s k = [110, 105, 108]) := by
    by_cases h : rw0 s k = [110, 105, 108]
    · rw [dec_t h, dec_t ((word_eq rfl).2 h)]
    · rw [dec_f h, dec_f (fun e => h ((word_eq rfl).1 e))]
  rw [enter158, enter154, r69 hs hk, r48 hs hk]
  simp only [opt_s, List.getD_cons_zero, List.getD_cons_succ, D.cell, D.cells, tS, tI, tB, cond_true, cond_false]
  rw [wrapAdd (by omega), wrapAdd (by omega), w1, w2, w3]
  simp only [enter165, enter163]
  simp only [opt_s, List.getD_cons_zero, List.getD_cons_succ, D.cell, D.cells, tS, tI, tB, cond_true, cond_false]
  by_cases h1 : rw0 s k = [116, 114, 117, 101]
  · have hp := (word_eq (s := s) (i := k) (w := [116, 114, 117, 101]) rfl).2 h1
    rw [dec_t h1, hp, h1]
    exact .inl ⟨_, k + 4, rfl, rfl, by omega, by rw [h1] at hl; exact hl, gd_const _ _ _ _⟩
  rw [dec_f h1]
  by_cases h2 : rw0 s k = [102, 97, 108, 115, 101]
  · have hp := (word_eq (s := s) (i := k) (w := [102, 97, 108, 115, 101]) rfl).2 h2
    rw [dec_t h2, hp, h2]
    exact .inl ⟨_, k + 5, rfl, rfl, by omega, by rw [h2] at hl; exact hl, gd_const _ _ _ _⟩
  rw [dec_f h2]
  by_cases h3 : rw0 s k = [110, 105, 108]
  · have hp := (word_eq (s := s) (i := k) (w := [110, 105, 108]) rfl).2 h3
    rw [dec_t h3, hp, h3]
    exact .inl ⟨_, k + 3, rfl, rfl, by omega, by rw [h3] at hl; exact hl, gd_const _ _ _ _⟩
  rw [dec_f h3]
  simp only [opt_s, List.getD_cons_zero, List.getD_cons_succ, D.cell, D.cells, tS, tI, tB, cond_true, cond_false]
  rw [round158a, round154a, r74 _ (by omega), r58 _ (by omega), nm_words]
  simp only [opt_s, List.getD_cons_zero, List.getD_cons_succ, D.cell, D.cells, tS, tI, tB, cond_true, cond_false]
  cases hn : nm (rw0 s k) with
  | false =>
    simp only [opt_s, List.getD_cons_zero, List.getD_cons_succ, D.cell, D.cells, tS, tI, tB, cond_true, cond_false]
    rw [r138, r130]
    exact .fail rfl rfl hlp
  | true =>
    have hpw := pw0_nm hn
    rw [hpw]
    simp only [opt_s, List.getD_cons_zero, List.getD_cons_succ, D.cell, D.cells, tS, tI, tB, cond_true, cond_false]
    rw [r137, r98 hs hl]
    simp only [opt_s, List.getD_cons_zero, List.getD_cons_succ, D.cell, D.cells, tS, tI, tB, cond_true, cond_false]
    rcases Nat.lt_or_ge (k + (rw0 s k).length) s.length with hq | hq
    · rw [hasAt_one hq, show (40 : Int) = ((40 : Nat) : Int) from rfl, byte_int _ 40 (by decide)]
      by_cases h40 : s.getD (k + (rw0 s k).length) 0 = 40
      · rw [dec_t h40, dec_t (show s.getD (k + (rw0 s k).length) 0 = (40 : Nat).toUInt8 from h40)]
        simp only [opt_s, List.getD_cons_zero, List.getD_cons_succ, D.cell, D.cells, tS, tI, tB, cond_true, cond_false]
        exact (args_loop hs k hor (rw0 s k) (s.length + 1) _ (by omega) (by omega) hq [] (Nat.zero_le _) (fun x hx => by cases hx)).mono (by omega)
      · rw [dec_f h40, dec_f (show ¬ s.getD (k + (rw0 s k).length) 0 = (40 : Nat).toUInt8 from h40)]
        simp only [opt_s, List.getD_cons_zero, List.getD_cons_succ, D.cell, D.cells, tS, tI, tB, cond_true, cond_false]
        rw [r138, r130]
        exact .fail rfl rfl hl
    · rw [hasAt_end hq (by simp), getD_end hq, show decide (((0 : UInt8).toNat : Int) = 40) = false from rfl]
      simp only [opt_s, List.getD_cons_zero, List.getD_cons_succ, D.cell, D.cells, tS, tI, tB, cond_true, cond_false]
      rw [r138, r130]
      exact .fail rfl rfl hl
end exx
end Go.Proofs.YtcmeincdmphaoaaGreatDoor.ex

namespace Go.Proofs.YtcmeincdmphaoaaGreatDoor.ex
open Go.Proofs.YtcmeincdmphaoaaGreatDoor.DS
namespace exx
/-- What a call hands back, handed on. -/
abbrev rew (p : R) : R := opt p fun ρ => some [List.getD ρ 0 D.no, D.agg [D.str (D.toStr (D.cell (List.getD ρ 1 D.no) 0)), D.int (D.toInt (D.cell (List.getD ρ 1 D.no) 1)), D.bool (D.toBool (D.cell (List.getD ρ 1 D.no) 2))]]
theorem Out.wrap {s : B} {i : Nat} {p q : R} (h : Out s i p q) : Out s i (rew p) (rew q) := by
  rcases h with ⟨x, i', h1, h2, h3⟩ | ⟨x, i', y, j, b, h1, h2, h3, h4⟩
  · rw [h1, h2]; exact .inl ⟨x, i', rfl, rfl, h3⟩
  · rw [h1, h3]; exact .inr ⟨x, i', y, j, b, rfl, h2, rfl, h4⟩
theorem named_end {s : B} (hs : s.length ≤ 1048576) : RUN E 158 [PS s s.length false] = some [exprZ, PS s s.length true] := by
  have hw : pw0 s s.length = [] := by unfold pw0; rw [getD_end (Nat.le_refl _)]; rfl
  rw [enter158, r69 hs (Nat.le_refl _), hw]
  simp only [opt_s, List.getD_cons_zero, List.getD_cons_succ, D.cell, D.cells, tS, tI, tB, cond_true, cond_false]
  rw [show decide (([] : B) = [116, 114, 117, 101]) = false from rfl, show decide (([] : B) = [102, 97, 108, 115, 101]) = false from rfl, show decide (([] : B) = [110, 105, 108]) = false from rfl]
  simp only [opt_s, List.getD_cons_zero, List.getD_cons_succ, D.cell, D.cells, tS, tI, tB, cond_true, cond_false]
  rw [round158a, r74 _ (by decide), show nm [] = false from rfl]
  simp only [opt_s, List.getD_cons_zero, List.getD_cons_succ, D.cell, D.cells, tS, tI, tB, cond_true, cond_false]
  rw [show IntKind.wrap IntKind.i64 ((s.length : Int) + (([] : B).length : Int)) = (s.length : Int) from by rw [show (s.length : Int) + (([] : B).length : Int) = (s.length : Int) from Int.add_zero _, wrap_id (by omega) (by omega)], r138]
  rfl
theorem gd_dot : Gd (.agg [.int 2, .str [], .int 0, .bool false, .int 0, .str [], .list [], .list [], .list []]) := .mk 2 [] 0 false 0 [] [] (fun a h => by cases h) (by decide) (fun h => by cases h)
theorem prim {s : B} (hs : s.length ≤ 1048576) {k : Nat} (hk : k ≤ s.length) (hsk : sk s k = k) (hor : ∀ i, k < i → i ≤ s.length → Out s i (RUN E 23 [PS s i false]) (RUN E 27 [PS s i false, .int 9, .str [111, 114]])) :
    Out s k (RUN E 136 [PS s k false]) (RUN E 129 [PS s k false]) := by
  rw [enter136, enter129, r137, skip28 hs hk, hsk]
  simp only [opt_s, List.getD_cons_zero, List.getD_cons_succ, D.cell, D.cells, tS, tI, tB, cond_true, cond_false]
  rw [r110]
  rcases Nat.lt_or_ge k s.length with hkl | hkl
  rotate_left
  · have : k = s.length := by omega
    subst this
    rw [dec_t (show (s.length : Int) ≤ (s.length : Int) by omega), getD_end hkl, show isDig 0 = false from rfl, named_end hs, r130]
    exact .fail rfl rfl hkl
  rw [dec_f (show ¬ (s.length : Int) ≤ (k : Int) by omega), inb_nat hkl, Int.toNat_natCast, r99]
  simp only [opt_s, List.getD_cons_zero, List.getD_cons_succ, D.cell, D.cells, tS, tI, tB, cond_true, cond_false]
  have t34 : decide (((s.getD k 0).toNat : Int) = 34) = decide (s.getD k 0 = 34) := byte_int _ 34 (by decide)
  have t45 : decide (((s.getD k 0).toNat : Int) = 45) = decide (s.getD k 0 = 45) := byte_int _ 45 (by decide)
  have t46 : decide (((s.getD k 0).toNat : Int) = 46) = decide (s.getD k 0 = 46) := byte_int _ 46 (by decide)
  have t36 : decide (((s.getD k 0).toNat : Int) = 36) = decide (s.getD k 0 = 36) := byte_int _ 36 (by decide)
  have t40 : decide (((s.getD k 0).toNat : Int) = 40) = decide (s.getD k 0 = 40) := byte_int _ 40 (by decide)
  rw [t34, t45, t46, t36, t40]
  by_cases h34 : s.getD k 0 = 34
  · rw [dec_t h34]; exact (texts hs hkl).wrap
  rw [dec_f h34]
  simp only [opt_s, List.getD_cons_zero, List.getD_cons_succ, D.cell, D.cells, tS, tI, tB, cond_true, cond_false]
  have hdig : ∀ (K1 K2 : Bool → R), (∀ d, Out s k (K1 d) (K2 d)) → Out s k (opt (cond (bif decide (s.getD k 0 = 45) then false else true) (some [.bool (isDig (s.getD k 0))]) (some [])) fun ρ => K1 (bif decide (s.getD k 0 = 45) then true else D.toBool (ρ.getD 0 .no)))
      (opt (cond (bif decide (s.getD k 0 = 45) then false else true) (some [.bool (isDig (s.getD k 0))]) (some [])) fun ρ => K2 (bif decide (s.getD k 0 = 45) then true else D.toBool (ρ.getD 0 .no))) := by
    intro K1 K2 h
    cases decide (s.getD k 0 = 45) with
    | true => exact h true
    | false => exact h (isDig (s.getD k 0))
  refine hdig (fun d => cond d _ _) (fun d => cond d _ _) (fun d => ?_)
  cases d with
  | true => exact (nums hs hkl).wrap
  | false =>
  simp only [opt_s, List.getD_cons_zero, List.getD_cons_succ, D.cell, D.cells, tS, tI, tB, cond_true, cond_false]
  rw [nxt (by omega)]
  by_cases h46 : s.getD k 0 = 46
  · have hl := rw0_len (s := s) (i := k + 1) (by omega)
    have hlp := pw0_len (s := s) (i := k + 1) (by omega)
    rw [dec_t h46, r69 hs (by omega), r48 hs (by omega)]
    simp only [opt_s, List.getD_cons_zero, List.getD_cons_succ, D.cell, D.cells, tS, tI, tB, cond_true, cond_false]
    rw [r74 _ (by omega), r58 _ (by omega), nm_words]
    simp only [opt_s, List.getD_cons_zero, List.getD_cons_succ, D.cell, D.cells, tS, tI, tB, cond_true, cond_false]
    cases hn : nm (rw0 s (k + 1)) with
    | true =>
      have hne : rw0 s (k + 1) ≠ [] := by intro e; rw [e] at hn; cases hn
      rw [pw0_nm hn, dec_f hne, wrapAdd (by omega)]
      simp only [opt_s, List.getD_cons_zero, List.getD_cons_succ, D.cell, D.cells, tS, tI, tB, cond_true, cond_false]
      exact .inl ⟨_, k + 1 + (rw0 s (k + 1)).length, rfl, rfl, by omega, hl, .mk 4 _ 0 false 0 [] _ (fun a h => by rw [List.mem_singleton.1 h]; exact gd_dot) (by decide) (fun h => by cases h)⟩
    | false =>
      refine .inl ⟨_, k + 1, rfl, ?_, by omega, by omega, gd_dot⟩
      cases decide (rw0 s (k + 1) = []) <;> rfl
  rw [dec_f h46]
  simp only [opt_s, List.getD_cons_zero, List.getD_cons_succ, D.cell, D.cells, tS, tI, tB, cond_true, cond_false]
  by_cases h36 : s.getD k 0 = 36
  · have hl := rw0_len (s := s) (i := k + 1) (by omega)
    have hlp := pw0_len (s := s) (i := k + 1) (by omega)
    rw [dec_t h36, r69 hs (by omega), r48 hs (by omega)]
    simp only [opt_s, List.getD_cons_zero, List.getD_cons_succ, D.cell, D.cells, tS, tI, tB, cond_true, cond_false]
    rw [r74 _ (by omega), r58 _ (by omega), nm_words]
    simp only [opt_s, List.getD_cons_zero, List.getD_cons_succ, D.cell, D.cells, tS, tI, tB, cond_true, cond_false]
    cases hn : nm (rw0 s (k + 1)) with
    | true =>
      rw [pw0_nm hn, wrapAdd (by omega)]
      simp only [opt_s, List.getD_cons_zero, List.getD_cons_succ, D.cell, D.cells, tS, tI, tB, cond_true, cond_false]
      exact .inl ⟨_, k + 1 + (rw0 s (k + 1)).length, rfl, rfl, by omega, hl, .mk 3 _ 0 false 0 [] [] (fun a h => by cases h) (by decide) (fun h => by cases h)⟩
    | false =>
      simp only [opt_s, List.getD_cons_zero, List.getD_cons_succ, D.cell, D.cells, tS, tI, tB, cond_true, cond_false]
      rw [r138, r130]
      exact .fail rfl rfl (by omega)
  rw [dec_f h36]
  simp only [opt_s, List.getD_cons_zero, List.getD_cons_succ, D.cell, D.cells, tS, tI, tB, cond_true, cond_false]
  rw [r98 hs hk, hasAt_one hkl]
  by_cases h40 : s.getD k 0 = 40
  · rw [dec_t h40]
    simp only [opt_s, List.getD_cons_zero, List.getD_cons_succ, D.cell, D.cells, tS, tI, tB, cond_true, cond_false]
    rw [show k + ([40] : B).length = k + 1 from rfl]
    rcases hor (k + 1) (by omega) (by omega) with ⟨x, i', hp, hq, h1, h2, hg⟩ | ⟨x, i', y, j, b, hp, h2, hq, hd⟩
    · rw [hp, hq]
      simp only [opt_s, List.getD_cons_zero, List.getD_cons_succ, D.cell, D.cells, tS, tI, tB, cond_true, cond_false]
      rw [skip24 hs h2, skip28 hs h2]
      simp only [opt_s, List.getD_cons_zero, List.getD_cons_succ, D.cell, D.cells, tS, tI, tB, cond_true, cond_false]
      have ht : sk s i' ≤ s.length := runTo_le gp h2
      have ht1 : i' ≤ sk s i' := runTo_ge gp s i'
      generalize sk s i' = t at *
      rw [r137, r98 hs ht]
      simp only [opt_s, List.getD_cons_zero, List.getD_cons_succ, D.cell, D.cells, tS, tI, tB, cond_true, cond_false]
      rcases Nat.lt_or_ge t s.length with htl | htl
      · rw [hasAt_one htl, show (41 : Int) = ((41 : Nat) : Int) from rfl, byte_int _ 41 (by decide)]
        by_cases h41 : s.getD t 0 = 41
        · rw [dec_t h41, dec_t (show s.getD t 0 = (41 : Nat).toUInt8 from h41)]
          simp only [opt_s, List.getD_cons_zero, List.getD_cons_succ, D.cell, D.cells, tS, tI, tB, cond_true, cond_false]
          rw [nxt (by omega)]
          exact .inl ⟨x, t + 1, rfl, rfl, by omega, by omega, hg⟩
        · rw [dec_f h41, dec_f (show ¬ s.getD t 0 = (41 : Nat).toUInt8 from h41)]
          simp only [opt_s, List.getD_cons_zero, List.getD_cons_succ, D.cell, D.cells, tS, tI, tB, cond_true, cond_false]
          rw [r138, r130]
          exact .fail rfl rfl ht
      · rw [hasAt_end htl (by simp), getD_end htl, show decide (((0 : UInt8).toNat : Int) = 41) = false from rfl]
        simp only [opt_s, List.getD_cons_zero, List.getD_cons_succ, D.cell, D.cells, tS, tI, tB, cond_true, cond_false]
        rw [r138, r130]
        exact .fail rfl rfl ht
    · rw [hp, hq]
      simp only [opt_s, List.getD_cons_zero, List.getD_cons_succ, D.cell, D.cells, tS, tI, tB, cond_true, cond_false]
      rw [skip24 hs h2, skip28 hs hd.le, show sk s j = j from hd.sk]
      simp only [opt_s, List.getD_cons_zero, List.getD_cons_succ, D.cell, D.cells, tS, tI, tB, cond_true, cond_false]
      rw [r98 hs hd.le, hd.has (by decide)]
      simp only [opt_s, List.getD_cons_zero, List.getD_cons_succ, D.cell, D.cells, tS, tI, tB, cond_true, cond_false]
      rw [r138, r130]
      exact .fail rfl rfl (runTo_le gp h2)
  · rw [dec_f h40]
    simp only [opt_s, List.getD_cons_zero, List.getD_cons_succ, D.cell, D.cells, tS, tI, tB, cond_true, cond_false]
    exact (named hs hk hor).wrap
end exx
end Go.Proofs.YtcmeincdmphaoaaGreatDoor.ex

namespace Go.Proofs.YtcmeincdmphaoaaGreatDoor.ex
open Go.Proofs.YtcmeincdmphaoaaGreatDoor.DS
namespace exx
theorem ax109 (s : B) (i : Int) (b : Bool) (k : Int) (n : B) (v2 : Int) (v3 : Bool) (v4 : Int) (v5 : B) (xs : List D) : L109ax s i b 0 [] 0 false 0 [] k n v2 v3 v4 v5 [] xs = L109a s i b 0 [] 0 false 0 [] (.agg [.int k, .str n, .int v2, .bool v3, .int v4, .str v5, .list [], .list [], .list xs]) [] := by
  rw [round109ax, round109a]
theorem ax97 (s : B) (i : Int) (b : Bool) (k : Int) (n : B) (v2 : Int) (v3 : Bool) (v4 : Int) (v5 : B) (xs : List D) : L97ax s i b 0 [] 0 false 0 [] k n v2 v3 v4 v5 [] xs = L97a s i b 0 [] 0 false 0 [] (.agg [.int k, .str n, .int v2, .bool v3, .int v4, .str v5, .list [], .list [], .list xs]) [] := by
  rw [round97ax, round97a]
theorem gd1 {x : D} (h : Gd x) (k : Int) (n : B) : Gd (.agg [.int k, .str n, .int 0, .bool false, .int 0, .str [], .list [], .list [], .list [x]]) := .mk k n 0 false 0 [] [x] (fun a ha => by rw [List.mem_singleton.1 ha]; exact h) (by simp) (fun _ => by simp)
theorem gd2 {x y : D} (h : Gd x) (h2 : Gd y) (k : Int) (n : B) : Gd (.agg [.int k, .str n, .int 0, .bool false, .int 0, .str [], .list [], .list [], .list [x, y]]) := .mk k n 0 false 0 [] [x, y] (fun a ha => by
  rcases List.mem_cons.1 ha with rfl | ha
  · exact h
  · rw [List.mem_singleton.1 ha]; exact h2) (by simp) (fun _ => by simp)
/-- The reference's test of a '.', and of what follows it. -/
theorem dot97 (s : B) (hs : s.length ≤ 1048576) (t : Nat) (K1 K2 : R) :
    (cond (bif inb (t : Int) s.length then true else bif bif decide (((t + 1 : Nat) : Int) < (s.length : Int)) then true else false then false else true)
      (cond (bif inb ((t + 1 : Nat) : Int) s.length then true else bif bif bif decide (((t + 1 : Nat) : Int) < (s.length : Int)) then decide (((s.getD t 0).toNat : Int) = 46) else false then true else false then false else true)
        (cond (bif inb ((t + 1 : Nat) : Int) s.length then true else bif bif bif bif decide (((t + 1 : Nat) : Int) < (s.length : Int)) then decide (((s.getD t 0).toNat : Int) = 46) else false then decide (97 ≤ ((s.getD (t + 1) 0).toNat : Int)) else false then true else false then false else true)
          (cond (bif bif bif decide (((t + 1 : Nat) : Int) < (s.length : Int)) then decide (((s.getD t 0).toNat : Int) = 46) else false then decide (97 ≤ ((s.getD (t + 1) 0).toNat : Int)) else false then decide (((s.getD (t + 1) 0).toNat : Int) ≤ 122) else false) K1 K2) none) none) none)
      = cond (decide (s.getD t 0 = 46) && sm ((s.getD (t + 1) 0).toNat : Int)) K1 K2 := by
  have t46 : decide (((s.getD t 0).toNat : Int) = 46) = decide (s.getD t 0 = 46) := byte_int _ 46 (by decide)
  rw [t46]
  rcases Nat.lt_or_ge (t + 1) s.length with h | h
  · rw [dT h, inb_nat h, inb_nat (show t < s.length by omega)]
    unfold sm
    cases decide (s.getD t 0 = 46) <;> cases decide (97 ≤ ((s.getD (t + 1) 0).toNat : Int)) <;> cases decide (((s.getD (t + 1) 0).toNat : Int) ≤ 122) <;> rfl
  · rw [dF h, inF h, getD_end h, show sm (((0 : UInt8).toNat : Nat) : Int) = false from rfl]
    cases inb (t : Int) s.length <;> cases decide (s.getD t 0 = 46) <;> rfl
theorem term_loop {s : B} (hs : s.length ≤ 1048576) (t0 : Nat) (hor : ∀ i, t0 < i → i ≤ s.length → Out s i (RUN E 23 [PS s i false]) (RUN E 27 [PS s i false, .int 9, .str [111, 114]])) :
    ∀ m t : Nat, s.length - t < m → t0 ≤ t → t ≤ s.length → ∀ x, Gd x → Out s t (L109a s (t : Int) false 0 [] 0 false 0 [] x []) (L97a s (t : Int) false 0 [] 0 false 0 [] x []) := by
  intro m
  induction m with
  | zero => intro t h; omega
  | succ m ih =>
    intro t hm h0 ht x hx
    rw [round109a, round97a, r137, nxt (by omega), Int.toNat_natCast, Int.toNat_natCast]
    simp only [opt_s, List.getD_cons_zero, List.getD_cons_succ, D.cell, D.cells, tS, tI, tB, cond_true, cond_false]
    rw [dot97 s hs, nxt (by omega)]
    rw [show decide (((s.getD t 0).toNat : Int) = 46) = decide (s.getD t 0 = 46) from byte_int _ 46 (by decide), show decide (((s.getD t 0).toNat : Int) = 91) = decide (s.getD t 0 = 91) from byte_int _ 91 (by decide)]
    by_cases h46 : s.getD t 0 = 46
    · have htl : t < s.length := by
        rcases Nat.lt_or_ge t s.length with h | h
        · exact h
        · rw [getD_end h] at h46; cases h46
      have hl := rw0_len (s := s) (i := t + 1) (by omega)
      have hlp := pw0_len (s := s) (i := t + 1) (by omega)
      rw [dec_t h46, r69 hs (by omega), r48 hs (by omega), r98 hs ht]
      simp only [opt_s, List.getD_cons_zero, List.getD_cons_succ, D.cell, D.cells, tS, tI, tB, cond_true, cond_false]
      rw [r74 _ (by omega), r58 _ (by omega), nm_words]
      simp only [opt_s, List.getD_cons_zero, List.getD_cons_succ, D.cell, D.cells, tS, tI, tB, cond_true, cond_false]
      cases hsm : sm ((s.getD (t + 1) 0).toNat : Int) with
      | false =>
        have hnm : nm (rw0 s (t + 1)) = false := by
          rw [← nm_words]; unfold pw0; rw [hsm]; rfl
        rw [hnm, hasAt_one htl, dec_f (show ¬ s.getD t 0 = 91 from fun e => by rw [h46] at e; cases e)]
        simp only [opt_s, List.getD_cons_zero, List.getD_cons_succ, D.cell, D.cells, tS, tI, tB, cond_true, cond_false]
        rw [r138]
        exact .inr ⟨exprZ, t + 1, x, t, false, rfl, by omega, rfl, .inr ⟨rfl, htl, h46, hsm⟩⟩
      | true =>
        cases hn : nm (rw0 s (t + 1)) with
        | false =>
          simp only [opt_s, List.getD_cons_zero, List.getD_cons_succ, D.cell, D.cells, tS, tI, tB, cond_true, cond_false]
          rw [r138, r130]
          exact .fail rfl rfl (by omega)
        | true =>
          rw [pw0_nm hn, wrapAdd (by omega)]
          simp only [Bool.and_self, cond_true, cond_false]
          rw [ax109, ax97]
          exact (ih (t + 1 + (rw0 s (t + 1)).length) (by omega) (by omega) hl _ (gd1 hx 4 _)).mono (by omega)
    rw [dec_f h46]
    simp only [Bool.false_and]
    simp only [opt_s, List.getD_cons_zero, List.getD_cons_succ, D.cell, D.cells, tS, tI, tB, cond_true, cond_false]
    rw [r98 hs ht]
    by_cases h91 : s.getD t 0 = 91
    · have htl : t < s.length := by
        rcases Nat.lt_or_ge t s.length with h | h
        · exact h
        · rw [getD_end h] at h91; cases h91
      rw [hasAt_one htl, dec_t h91]
      simp only [opt_s, List.getD_cons_zero, List.getD_cons_succ, D.cell, D.cells, tS, tI, tB, cond_true, cond_false]
      rw [show t + ([91] : B).length = t + 1 from rfl]
      rcases hor (t + 1) (by omega) (by omega) with ⟨y, i', hp, hq, h1, h2, hg⟩ | ⟨y, i', z, j, b, hp, h2, hq, hd⟩
      · rw [hp, hq]
        simp only [opt_s, List.getD_cons_zero, List.getD_cons_succ, D.cell, D.cells, tS, tI, tB, cond_true, cond_false]
        rw [skip24 hs h2, skip28 hs h2]
        simp only [opt_s, List.getD_cons_zero, List.getD_cons_succ, D.cell, D.cells, tS, tI, tB, cond_true, cond_false]
        have hu : sk s i' ≤ s.length := runTo_le gp h2
        have hu1 : i' ≤ sk s i' := runTo_ge gp s i'
        generalize sk s i' = u at *
        rw [r137, r98 hs hu]
        simp only [opt_s, List.getD_cons_zero, List.getD_cons_succ, D.cell, D.cells, tS, tI, tB, cond_true, cond_false]
        rcases Nat.lt_or_ge u s.length with hul | hul
        · rw [hasAt_one hul, show (93 : Int) = ((93 : Nat) : Int) from rfl, byte_int _ 93 (by decide)]
          by_cases h93 : s.getD u 0 = 93
          · rw [dec_t h93, dec_t (show s.getD u 0 = (93 : Nat).toUInt8 from h93)]
            simp only [opt_s, List.getD_cons_zero, List.getD_cons_succ, D.cell, D.cells, tS, tI, tB, cond_true, cond_false]
            rw [nxt (by omega), show u + ([93] : B).length = u + 1 from rfl, ax109, ax97]
            exact (ih (u + 1) (by omega) (by omega) (by omega) _ (gd2 hx hg 5 _)).mono (by omega)
          · rw [dec_f h93, dec_f (show ¬ s.getD u 0 = (93 : Nat).toUInt8 from h93)]
            simp only [opt_s, List.getD_cons_zero, List.getD_cons_succ, D.cell, D.cells, tS, tI, tB, cond_true, cond_false]
            rw [r138, r130]
            exact .fail rfl rfl hu
        · rw [hasAt_end hul (by simp), getD_end hul, show decide (((0 : UInt8).toNat : Int) = 93) = false from rfl]
          simp only [opt_s, List.getD_cons_zero, List.getD_cons_succ, D.cell, D.cells, tS, tI, tB, cond_true, cond_false]
          rw [r138, r130]
          exact .fail rfl rfl hu
      · rw [hp, hq]
        simp only [opt_s, List.getD_cons_zero, List.getD_cons_succ, D.cell, D.cells, tS, tI, tB, cond_true, cond_false]
        rw [skip24 hs h2, skip28 hs hd.le, show sk s j = j from hd.sk]
        simp only [opt_s, List.getD_cons_zero, List.getD_cons_succ, D.cell, D.cells, tS, tI, tB, cond_true, cond_false]
        rw [r98 hs hd.le, hd.has (by decide)]
        simp only [opt_s, List.getD_cons_zero, List.getD_cons_succ, D.cell, D.cells, tS, tI, tB, cond_true, cond_false]
        rw [r138, r130]
        exact .fail rfl rfl (runTo_le gp h2)
    · have e : hasAt s t [91] = false := by
        rcases Nat.lt_or_ge t s.length with h | h
        · rw [hasAt_one h, dec_f h91]
        · exact hasAt_end h (by simp)
      rw [e, dec_f h91]
      simp only [opt_s, List.getD_cons_zero, List.getD_cons_succ, D.cell, D.cells, tS, tI, tB, cond_true, cond_false]
      exact .inl ⟨x, t, rfl, rfl, Nat.le_refl _, ht, hx⟩
theorem dead97 {s : B} {j : Nat} {b : Bool} (hs : s.length ≤ 1048576) (hd : Dead s j b) (x : D) : L97a s (j : Int) b 0 [] 0 false 0 [] x [] = some [x, PS s j b] := by
  rw [round97a]
  rcases hd with ⟨rfl, rfl⟩ | ⟨rfl, h1, h2, h3⟩
  · rfl
  · rw [nxt (by omega), Int.toNat_natCast, Int.toNat_natCast]
    simp only [opt_s, List.getD_cons_zero, List.getD_cons_succ, D.cell, D.cells, tS, tI, tB, cond_true, cond_false]
    rw [dot97 s hs, h3, r98 hs (by omega), hasAt_one h1, dec_f (show ¬ s.getD j 0 = 91 from fun e => by rw [h2] at e; cases e), Bool.and_false]
    rfl
theorem terms {s : B} (hs : s.length ≤ 1048576) {i : Nat} (hi : i ≤ s.length) (hor : ∀ k, i < k → k ≤ s.length → Out s k (RUN E 23 [PS s k false]) (RUN E 27 [PS s k false, .int 9, .str [111, 114]])) :
    Out s i (RUN E 109 [PS s i false]) (RUN E 97 [PS s i false]) := by
  have hk : sk s i ≤ s.length := runTo_le gp hi
  have hk1 : i ≤ sk s i := runTo_ge gp s i
  have e129 : RUN E 129 [PS s i false] = RUN E 129 [PS s (sk s i) false] := by
    rw [enter129, enter129, skip28 hs hi, skip28 hs hk, show sk s (sk s i) = sk s i from runTo_idem gp hi]
  rw [enter109, enter97, skip24 hs hi, e129]
  simp only [opt_s, List.getD_cons_zero, List.getD_cons_succ, D.cell, D.cells, tS, tI, tB, cond_true, cond_false]
  rcases prim hs hk (runTo_idem gp hi) (fun k h1 h2 => hor k (by omega) h2) with ⟨x, i', hp, hq, h1, h2, hg⟩ | ⟨x, i', y, j, b, hp, h2, hq, hd⟩
  · rw [hp, hq]
    simp only [opt_s, List.getD_cons_zero, List.getD_cons_succ, D.cell, D.cells, tS, tI, tB, cond_true, cond_false]
    exact (term_loop hs i hor (s.length + 1) i' (by omega) (by omega) h2 x hg).mono (by omega)
  · rw [hp, hq]
    simp only [opt_s, List.getD_cons_zero, List.getD_cons_succ, D.cell, D.cells, tS, tI, tB, cond_true, cond_false]
    rw [dead97 hs hd, round109a]
    exact .inr ⟨x, i', y, j, b, rfl, h2, rfl, hd⟩
end exx
end Go.Proofs.YtcmeincdmphaoaaGreatDoor.ex

namespace Go.Proofs.YtcmeincdmphaoaaGreatDoor.ex
open Go.Proofs.YtcmeincdmphaoaaGreatDoor.DS
namespace exx
def cops : List B := [[61, 61], [33, 61], [60, 61], [62, 61], [60], [62]]
abbrev cvs : List D := [.str [61, 61], .str [33, 61], .str [60, 61], .str [62, 61], .str [60], .str [62]]
theorem cvs_at : ∀ k : Nat, k < 6 → D.toStr (cvs.getD k .no) = cops.getD k [] ∧ cops.getD k [] ≠ [] ∧ (cops.getD k []).length ≤ 2 ∧ (cops.getD k []).headD 0 ≠ 46 := by decide
theorem sub_has (s : B) (t : Nat) (o : B) : decide (sub s t (t + o.length) = o) = hasAt s t o := by
  unfold hasAt
  show decide ((s.take (t + o.length)).drop t = o) = _
  rw [List.drop_take, show t + o.length - t = o.length by omega]
theorem Out.wrapL {s : B} {i : Nat} {p q : R} (h : Out s i p q) : Out s i (rew p) q := by
  rcases h with ⟨x, i', h1, h2, h3⟩ | ⟨x, i', y, j, b, h1, h2, h3, h4⟩
  · rw [h1]; exact .inl ⟨x, i', rfl, h2, h3⟩
  · rw [h1]; exact .inr ⟨x, i', y, j, b, rfl, h2, h3, h4⟩
section
variable {s : B} (hs : s.length ≤ 1048576)
include hs
omit hs in
theorem op86 {op : B} (hop : op ≠ []) (x : D) {t : Nat} (ht : t ≤ s.length) : ∀ n k : Nat, k + n = 6 →
    L86a op cvs 6 (k : Int) s (t : Int) false 0 [] 0 false 0 [] x [] = opt (RUN E 109 [.agg [.str s, .int (IntKind.wrap .i64 ((t : Int) + (op.length : Int))), .bool false]]) fun ρ2 =>
      some [.agg [.int 10, .str op, .int 0, .bool false, .int 0, .str [], .list [], .list [], .list [x, ρ2.getD 0 .no]], .agg [.str (D.toStr (D.cell (ρ2.getD 1 .no) 0)), .int (D.toInt (D.cell (ρ2.getD 1 .no) 1)), .bool (D.toBool (D.cell (ρ2.getD 1 .no) 2))]] := by
  intro n
  induction n with
  | zero =>
    intro k hk
    rw [round86a, dec_f (show ¬ (k : Int) < 6 by omega), dec_f hop]; rfl
  | succ n ih =>
    intro k hk
    have hk6 : k < cvs.length := by show k < 6; omega
    rw [round86a, dec_t (show (k : Int) < 6 by omega), inb_nat hk6, Int.toNat_natCast, nxt (by omega), ih (k + 1) (by omega), dec_f hop]
    cases cutOk s.length (some (t : Int)) (some (IntKind.wrap IntKind.i64 ((t : Int) + ((D.toStr (cvs.getD k .no)).length : Int)))) <;> rfl
theorem cmps (x : D) (hx : Gd x) {t : Nat} (ht : t ≤ s.length) (htm : ∀ i, t < i → i ≤ s.length → Out s i (RUN E 109 [PS s i false]) (RUN E 97 [PS s i false])) : ∀ n k : Nat, k + n = 6 →
    Out s t (L86a [] cvs 6 (k : Int) s (t : Int) false 0 [] 0 false 0 [] x []) (L71a cvs 6 (k : Int) s (t : Int) false 0 [] 0 false 0 [] x []) := by
  intro n
  induction n with
  | zero =>
    intro k hk
    rw [round86a, round71a, dec_f (show ¬ (k : Int) < 6 by omega)]
    exact .inl ⟨x, t, rfl, rfl, Nat.le_refl _, ht, hx⟩
  | succ n ih =>
    intro k hk
    have hk6 : k < cvs.length := by show k < 6; omega
    obtain ⟨e1, e2, e3, e4⟩ := cvs_at k (by omega)
    have hi := ih (k + 1) (by omega)
    rw [round86a, round71a, dec_t (show (k : Int) < 6 by omega), inb_nat hk6, Int.toNat_natCast, nxt (by omega), e1, r98 hs ht]
    generalize cops.getD k [] = o at *
    rw [wrapAdd (by omega), wrap_id (i := (s.length : Int) - (t : Int)) (by omega) (by omega), cut_both, sub_has, show decide (([] : B) = []) = true from rfl]
    have hbig : (bif decide ((o.length : Int) ≤ (s.length : Int) - (t : Int)) then hasAt s t o else false) = hasAt s t o := by
      by_cases h : (o.length : Int) ≤ (s.length : Int) - (t : Int)
      · rw [dec_t h]; rfl
      · rw [dec_f h]
        cases hh : hasAt s t o with
        | false => rfl
        | true => have := hasAt_len ht hh; omega
    have hok : (bif cutOk s.length (some (t : Int)) (some ((t + o.length : Nat) : Int)) then true else bif bif decide ((o.length : Int) ≤ (s.length : Int) - (t : Int)) then true else false then false else true) = true := by
      by_cases h : (o.length : Int) ≤ (s.length : Int) - (t : Int)
      · rw [cutOk_both (by omega) (by omega)]; rfl
      · rw [dec_f h]; cases cutOk s.length (some (t : Int)) (some ((t + o.length : Nat) : Int)) <;> rfl
    simp only [cond_true]
    rw [hok, hbig]
    simp only [cond_true]
    cases hh : hasAt s t o with
    | false =>
      simp only [opt_s, List.getD_cons_zero, List.getD_cons_succ, D.cell, D.cells, tS, tI, tB, cond_true, cond_false]
      exact hi
    | true =>
      have hlen := hasAt_len ht hh
      have hpos : 0 < o.length := List.length_pos_iff.2 e2
      simp only [opt_s, List.getD_cons_zero, List.getD_cons_succ, D.cell, D.cells, tS, tI, tB, cond_true, cond_false]
      rw [op86 (s := s) e2 x ht n (k + 1) (by omega), wrapAdd (by omega)]
      rcases htm (t + o.length) (by omega) hlen with ⟨y, i', hp, hq, h1, h2, hg⟩ | ⟨y, i', z, j, b, hp, h2, hq, hd⟩
      · rw [hp, hq]
        exact .inl ⟨_, i', rfl, rfl, by omega, h2, gd2 hx hg 10 o⟩
      · rw [hp, hq]
        exact .inr ⟨_, i', _, j, b, rfl, h2, rfl, hd⟩
theorem dead71 {j : Nat} {b : Bool} (hd : Dead s j b) (x : D) : ∀ n k : Nat, k + n = 6 → L71a cvs 6 (k : Int) s (j : Int) b 0 [] 0 false 0 [] x [] = some [x, PS s j b] := by
  intro n
  induction n with
  | zero => intro k hk; rw [round71a, dec_f (show ¬ (k : Int) < 6 by omega)]; rfl
  | succ n ih =>
    intro k hk
    have hk6 : k < cvs.length := by show k < 6; omega
    obtain ⟨e1, e2, e3, e4⟩ := cvs_at k (by omega)
    have hi := ih (k + 1) (by omega)
    rw [round71a, dec_t (show (k : Int) < 6 by omega), inb_nat hk6, Int.toNat_natCast, nxt (by omega), e1, r98 hs hd.le]
    generalize cops.getD k [] = o at *
    cases o with
    | nil => exact absurd rfl e2
    | cons c r =>
      rw [hd.has (show c ≠ 46 from e4)]
      simp only [opt_s, List.getD_cons_zero, List.getD_cons_succ, D.cell, D.cells, tS, tI, tB, cond_true, cond_false]
      exact hi
theorem nots {i : Nat} (hi : i ≤ s.length) (hor : ∀ k, i < k → k ≤ s.length → Out s k (RUN E 23 [PS s k false]) (RUN E 27 [PS s k false, .int 9, .str [111, 114]]))
    (hnot : ∀ k, i < k → k ≤ s.length → Out s k (RUN E 68 [PS s k false]) (RUN E 71 [PS s k false])) : Out s i (RUN E 68 [PS s i false]) (RUN E 71 [PS s i false]) := by
  have hk : sk s i ≤ s.length := runTo_le gp hi
  have hk1 : i ≤ sk s i := runTo_ge gp s i
  rw [enter68, enter71, r44 hs hi, skip28 hs hi]
  simp only [opt_s, List.getD_cons_zero, List.getD_cons_succ, D.cell, D.cells, tS, tI, tB, cond_true, cond_false]
  rw [r48 hs hk]
  simp only [opt_s, List.getD_cons_zero, List.getD_cons_succ, D.cell, D.cells, tS, tI, tB, cond_true, cond_false]
  generalize sk s i = j at *
  by_cases hw : rw0 s j = [110, 111, 116]
  · have hp := (word_eq (s := s) (i := j) (w := [110, 111, 116]) rfl).2 hw
    have hl := rw0_len hk
    rw [hw] at hl
    replace hl : j + 3 ≤ s.length := hl
    rw [dec_t hp, dec_t hw]
    simp only [opt_s, List.getD_cons_zero, List.getD_cons_succ, D.cell, D.cells, tS, tI, tB, cond_true, cond_false]
    rw [show IntKind.wrap IntKind.i64 ((j : Int) + 3) = ((j + 3 : Nat) : Int) from by rw [wrap_id (by omega) (by omega)]; omega, show j + ([110, 111, 116] : B).length = j + 3 from rfl]
    rcases hnot (j + 3) (by omega) hl with ⟨y, i', hp, hq, h1, h2, hg⟩ | ⟨y, i', z, l, b, hp, h2, hq, hd⟩
    · rw [hp, hq]
      exact .inl ⟨_, i', rfl, rfl, by omega, h2, gd1 hg 7 []⟩
    · rw [hp, hq]
      exact .inr ⟨_, i', _, l, b, rfl, h2, rfl, hd⟩
  · rw [dec_f (fun e => hw ((word_eq (s := s) (i := j) (w := [110, 111, 116]) rfl).1 e)), dec_f hw]
    simp only [opt_s, List.getD_cons_zero, List.getD_cons_succ, D.cell, D.cells, tS, tI, tB, cond_true, cond_false]
    rw [enter86]
    have htm : ∀ t, j ≤ t → t ≤ s.length → Out s t (RUN E 109 [PS s t false]) (RUN E 97 [PS s t false]) := fun t h1 h2 => terms hs h2 (fun k h3 h4 => hor k (by omega) h4)
    rcases htm j (Nat.le_refl _) hk with ⟨x, i', hp, hq, h1, h2, hg⟩ | ⟨x, i', y, l, b, hp, h2, hq, hd⟩
    · rw [hp, hq]
      simp only [opt_s, List.getD_cons_zero, List.getD_cons_succ, D.cell, D.cells, tS, tI, tB, cond_true, cond_false]
      rw [skip24 hs h2, skip28 hs h2]
      simp only [opt_s, List.getD_cons_zero, List.getD_cons_succ, D.cell, D.cells, tS, tI, tB, cond_true, cond_false]
      have ht : sk s i' ≤ s.length := runTo_le gp h2
      have ht1 : i' ≤ sk s i' := runTo_ge gp s i'
      have := cmps hs x hg ht (fun t h3 h4 => htm t (by omega) h4) 6 0 rfl
      exact (this.mono (show i ≤ sk s i' by omega)).wrapL
    · rw [hp, hq]
      simp only [opt_s, List.getD_cons_zero, List.getD_cons_succ, D.cell, D.cells, tS, tI, tB, cond_true, cond_false]
      rw [skip28 hs hd.le, show sk s l = l from hd.sk]
      simp only [opt_s, List.getD_cons_zero, List.getD_cons_succ, D.cell, D.cells, tS, tI, tB, cond_true, cond_false]
      exact .inr ⟨x, i', y, l, b, rfl, h2, dead71 hs hd y 6 0 rfl, hd⟩
end
end exx
end Go.Proofs.YtcmeincdmphaoaaGreatDoor.ex
