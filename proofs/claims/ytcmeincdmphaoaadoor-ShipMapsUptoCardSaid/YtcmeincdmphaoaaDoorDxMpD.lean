/- The law ShipMaps in plain words. -/
import Derived.Test.YtcmeincdmphaoaaDoorDxMpC
set_option linter.unusedVariables false
set_option linter.unusedSimpArgs false
namespace Go.Proofs.YtcmeincdmphaoaaDoor.mp
open Go.Proofs.YtcmeincdmphaoaaDoor.DS
set_option linter.unusedVariables false
namespace mpx
open paths
theorem esc18 (s : B) (h : s.length ≤ 4194304) : RUN E 18 [.str s] = some [.str (escT s)] := by
  have key : ∀ n i : Nat, i + n = s.length → L18a s (escT (s.take i)) (i : Int) = some [.str (escT s)] := by
    intro n
    induction n with
    | zero =>
      intro i hi
      have : i = s.length := by omega
      subst this
      rw [round18a, dec_f (by omega), List.take_length]; rfl
    | succ n ih =>
      intro i hi
      have hil : i < s.length := by omega
      have ht := take_snoc (0 : UInt8) hil
      have hs : escT (s.take (i + 1)) = escT (s.take i) ++ escB (s.getD i 0) := by rw [ht]; simp [escT]
      have hl := escT_len (s.take i)
      rw [List.length_take] at hl
      have nx := ih (i + 1) (by omega)
      rw [hs] at nx
      rw [round18a, dec_t (by omega), inb_nat hil, Int.toNat_natCast, nxt (by omega), cutOk_both (by omega) (by omega), cut_both, sub_one 0 hil]
      generalize s.getD i 0 = c at *
      have hcc : ∀ k : UInt8, decide ((c.toNat : Int) = (k.toNat : Int)) = decide (c = k) := by
        intro k
        by_cases hk : c = k
        · subst hk; simp
        · rw [dec_f hk, dec_f]; intro e; exact hk (UInt8.toNat_inj.1 (by omega))
      rw [show (38 : Int) = ((38 : UInt8).toNat : Int) from rfl, show (60 : Int) = ((60 : UInt8).toNat : Int) from rfl, show (62 : Int) = ((62 : UInt8).toNat : Int) from rfl, show (34 : Int) = ((34 : UInt8).toNat : Int) from rfl, hcc, hcc, hcc, hcc]
      rw [lim_t (by simp; omega), lim_t (by simp; omega), lim_t (by simp; omega), lim_t (by simp; omega), lim_t (by simp; omega)]
      unfold escB at nx
      by_cases h1 : c = 38
      · rw [if_pos h1] at nx; rw [dec_t h1]; exact nx
      · rw [if_neg h1] at nx; rw [dec_f h1]
        by_cases h2 : c = 60
        · rw [if_pos h2] at nx; rw [dec_t h2]; exact nx
        · rw [if_neg h2] at nx; rw [dec_f h2]
          by_cases h3 : c = 62
          · rw [if_pos h3] at nx; rw [dec_t h3]; exact nx
          · rw [if_neg h3] at nx; rw [dec_f h3]
            by_cases h4 : c = 34
            · rw [if_pos h4] at nx; rw [dec_t h4]; exact nx
            · rw [if_neg h4] at nx; rw [dec_f h4]; exact nx
  rw [enter18]
  have := key s.length 0 (by omega)
  simpa [escT] using this
theorem esc12 (s : B) (h : s.length ≤ 4194304) : RUN E 12 [.str s] = some [.str (escT s)] := by
  have e : RUN E 12 [.str s] = xEscape [.str s] := (RUN_eq _ _ _).trans (by kernel_rfl)
  rw [e]
  show cond _ _ _ = _
  rw [dec_t (by omega)]; rfl
theorem wr (a t : B) (h : a.length + t.length ≤ 68719476736) : RUN E 9 [.agg [.no, .list (bytesD a)], .str t] = some [.int (t.length : Int), .no, .agg [.no, .list (bytesD (a ++ t))]] := by
  have e : RUN E 20 [.agg [.no, .list (bytesD a)]] = some [.agg [.no, .list (bytesD a)]] := (RUN_eq _ _ _).trans (by kernel_rfl)
  rw [enter9, e]
  show cond (fitL (bytesD a).length (bytesD t).length) _ _ = _
  rw [fit_t (by rw [bytesD_len, bytesD_len]; exact h), bytesD_append]; rfl
theorem str13 (a : B) : RUN E 13 [.agg [.no, .list (bytesD a)]] = some [.str a] := by
  have e : RUN E 13 [.agg [.no, .list (bytesD a)]] = some [.str (dBytes (bytesD a))] := (RUN_eq _ _ _).trans (by kernel_rfl)
  rw [e, dBytes_bytesD]
def html : B := [46, 104, 116, 109, 108]
theorem pg10 (p : B) (h : p.length ≤ 1048576) : RUN E 10 [.str p] = some [.bool (hasSuf p html)] := by
  rw [enter10, show RUN E 21 [D.str p, D.str (([46, 104, 116, 109, 108] : List UInt8))] = some [.bool (hasSuf p html)] from r30 p html (by omega) (by decide)]; rfl
theorem pg16 (x : D) (h : (pa x).length ≤ 1048576) : RUN E 16 [x] = some [.bool (hasSuf (pa x) html)] := by
  rw [enter16, show RUN E 21 [D.str (pa x), D.str (([46, 104, 116, 109, 108] : List UInt8))] = some [.bool (hasSuf (pa x) html)] from r30 (pa x) html (by omega) (by decide)]; rfl
theorem ad_len (p : B) : (ad p).length ≤ p.length + 1 := by
  unfold ad
  cases decide (p = idx) with
  | true => simp
  | false => cases hasSuf p (47 :: idx) <;> simp
def ctl (s : B) : Bool := s.any fun c => decide ((c.toNat : Int) < 32)
theorem r8 (s : B) (h : s.length ≤ 1048576) : ∀ n i : Nat, i + n = s.length → L8a s (i : Int) = some [.bool (ctl (s.drop i))] := by
  intro n
  induction n with
  | zero => intro i hi; rw [round8a, dec_f (by omega), List.drop_eq_nil_of_le (by omega)]; rfl
  | succ n ih =>
    intro i hi
    have hil : i < s.length := by omega
    rw [round8a, dec_t (by omega), inb_nat hil, Int.toNat_natCast, nxt (by omega), ih (i + 1) (by omega), drop_cons 0 hil]
    unfold ctl
    rw [List.any_cons]
    cases decide (((s.getD i 0).toNat : Int) < 32) <;> rfl
theorem head3 (s t : B) (l : List D) (e : Int) (h : s.length ≤ 1048576) : ∀ n i : Nat, i + n = s.length → L3a s l t e 0 (i : Int) = bif ctl (s.drop i) then some [.bool (bif decide (t = ([] : B)) then decide (e = 9) else false)] else (opt (RUN E 6 [D.str s, D.list l]) fun ρ2 => some [D.bool (bif decide (t = D.toStr (List.getD ρ2 0 D.no)) then decide (e = 0) else false)]) := by
  intro n
  induction n with
  | zero => intro i hi; rw [round3a, dec_f (by omega), List.drop_eq_nil_of_le (by omega)]; rfl
  | succ n ih =>
    intro i hi
    have hil : i < s.length := by omega
    rw [round3a, dec_t (p := (i : Int) < s.length) (by omega), inb_nat hil, Int.toNat_natCast, nxt (by omega), ih (i + 1) (by omega), drop_cons 0 hil]
    unfold ctl
    rw [List.any_cons]
    cases decide (((s.getD i 0).toNat : Int) < 32) with
    | false => rfl
    | true =>
      simp only [show decide ((0 : Int) = 0) = true from rfl, cond_true, Bool.true_or]
      rw [round3a]
      cases decide (((i + 1 : Nat) : Int) < s.length) <;> rfl
def line (base p : B) : B := ([60, 117, 114, 108, 62, 60, 108, 111, 99, 62] : B) ++ escT (base ++ ad p) ++ ([60, 47, 108, 111, 99, 62, 60, 47, 117, 114, 108, 62, 10] : B)
theorem line_len (base p : B) (hb : base.length ≤ 1048576) (hp : p.length ≤ 1048576) : (line base p).length ≤ 13000000 ∧ (escT (base ++ ad p)).length ≤ 12900000 := by
  have h1 := escT_len (base ++ ad p)
  have h2 := ad_len p
  unfold line
  simp only [List.length_append, List.length_cons, List.length_nil] at h1 ⊢
  omega
set_option maxRecDepth 10000 in
theorem both (base : B) (l : List D) (hb : base.length ≤ 1048576) (hl : dmass.dmAll l ≤ 1048576) (hg : paths.Good l 0) (h480 : l.length ≤ 480) : ∀ n i : Nat, ∀ a : B, i + n = l.length → a.length ≤ 100 + i * 13000000 →
    ∃ r : B, L4a base l l.length (i : Int) (bytesD a) = some [.str r, .int 0] ∧ L6a base a l l.length (i : Int) = some [.str r] := by
  intro n
  induction n with
  | zero =>
    intro i a hi ha
    rw [round4a, round6a, dec_f (by omega), wr a _ (by simp; omega), lim_t (by simp; omega)]
    refine ⟨a ++ ([60, 47, 117, 114, 108, 115, 101, 116, 62, 10] : B), ?_, rfl⟩
    show opt (RUN E 13 [D.agg [D.no, D.list (bytesD (a ++ ([60, 47, 117, 114, 108, 115, 101, 116, 62, 10] : B)))]]) _ = _
    rw [str13]; rfl
  | succ n ih =>
    intro i a hi ha
    have hil : i < l.length := by omega
    have hi480 : i * 13000000 ≤ 480 * 13000000 := Nat.mul_le_mul_right _ (by omega)
    obtain ⟨hp, _⟩ := hg i (Nat.zero_le _) hil
    have hpl : (pa (l.getD i .no)).length ≤ 1048576 := Nat.le_trans (cellS_le _ 0) (Nat.le_trans (mass_getD l i) hl)
    rw [round4a, round6a, dec_t (p := (i : Int) < (l.length : Int)) (by omega), inb_nat hil, Int.toNat_natCast, nxt (by omega)]
    obtain ⟨x, hx⟩ : ∃ x, l.getD i .no = x := ⟨_, rfl⟩
    rw [hx] at hp hpl ⊢
    have e10 : RUN E 10 [D.str (D.toStr (D.cell x 0))] = some [.bool (hasSuf (pa x) html)] := pg10 (pa x) hpl
    have e11 : RUN E 11 [D.str (D.toStr (D.cell x 0))] = some [.str (ad (pa x)), .int 0] := (addr (pa x) hpl hp).1
    have e17 : RUN E 17 [D.str (D.toStr (D.cell x 0))] = some [.str (ad (pa x)), .int 0] := (addr (pa x) hpl hp).2
    have hal := ad_len (pa x)
    have hll := line_len base (pa x) hb hpl
    rw [e10, pg16 x hpl, e11, e17]
    cases hasSuf (pa x) html with
    | false =>
      simp only [opt_s, List.getD_cons_zero, tB, cond_false]
      exact ih (i + 1) a (by omega) (Nat.le_trans ha (by rw [Nat.add_mul]; omega))
    | true =>
      simp only [opt_s, List.getD_cons_zero, tB, tS, cond_true]
      rw [lim_t (n := base.length) (by omega), cond_true, cond_true, esc12 (base ++ ad (pa x)) (by simp; omega), esc18 (base ++ ad (pa x)) (by simp; omega)]
      simp only [opt_s, List.getD_cons_zero, tS]
      have hline : ([60, 117, 114, 108, 62, 60, 108, 111, 99, 62] : B) ++ escT (base ++ ad (pa x)) ++ ([60, 47, 108, 111, 99, 62, 60, 47, 117, 114, 108, 62, 10] : B) = line base (pa x) := rfl
      rw [lim_t (m := (escT (base ++ ad (pa x))).length) (by simp; omega), lim_t (m := (([60, 47, 108, 111, 99, 62, 60, 47, 117, 114, 108, 62, 10] : B)).length) (by simp; omega), cond_true, cond_true, cond_true, cond_true, hline, wr a _ (by omega), lim_t (n := a.length) (by omega)]
      have := ih (i + 1) (a ++ line base (pa x)) (by omega) (by rw [List.length_append]; have h1 := hll.1; have h2 : (i + 1) * 13000000 = i * 13000000 + 13000000 := Nat.succ_mul i 13000000; omega)
      exact this
theorem law (base : B) (l : List D) (hb : base.length ≤ 1048576) (hl : dmass.dmAll l ≤ 1048576) : RUN E 3 [.str base, .list l] = some [.bool true] := by
  obtain ⟨e, h7, h5, hok⟩ := check l hl
  have c8 : RUN E 8 [.str base] = some [.bool (ctl base)] := by
    rw [enter8]; exact r8 base hb base.length 0 (by omega)
  rw [enter3, enter4, h7, h5]
  simp only [opt_s, List.getD_cons_zero, tI]
  by_cases he : e = 0
  · subst he
    obtain ⟨h480, hg⟩ := hok rfl
    have hd : ∀ t : B, ∀ q : Int, L3a base l t q 0 0 = bif ctl base then some [.bool (bif decide (t = ([] : B)) then decide (q = 9) else false)] else (opt (RUN E 6 [D.str base, D.list l]) fun ρ2 => some [D.bool (bif decide (t = D.toStr (List.getD ρ2 0 D.no)) then decide (q = 0) else false)]) := fun t q => head3 base t l q hb base.length 0 (by omega)
    simp only [decide_true, cond_true, cond_false]
    rw [c8]
    simp only [opt_s, List.getD_cons_zero, tB]
    cases hc : ctl base with
    | true =>
      simp only [cond_true, opt_s, List.getD_cons_zero, List.getD_cons_succ, tS, tI]
      rw [hd, hc]; rfl
    | false =>
      simp only [cond_false]
      have hw := wr [] ([60, 63, 120, 109, 108, 32, 118, 101, 114, 115, 105, 111, 110, 61, 34, 49, 46, 48, 34, 32, 101, 110, 99, 111, 100, 105, 110, 103, 61, 34, 117, 116, 102, 45, 56, 34, 63, 62, 10, 60, 117, 114, 108, 115, 101, 116, 62, 10] : B) (by decide)
      have hw' : RUN E 9 [D.agg [D.no, D.list []], D.str ([60, 63, 120, 109, 108, 32, 118, 101, 114, 115, 105, 111, 110, 61, 34, 49, 46, 48, 34, 32, 101, 110, 99, 111, 100, 105, 110, 103, 61, 34, 117, 116, 102, 45, 56, 34, 63, 62, 10, 60, 117, 114, 108, 115, 101, 116, 62, 10] : B)] = _ := hw
      rw [hw']
      obtain ⟨r, h4, h6⟩ := both base l hb hl hg h480 l.length 0 ([60, 63, 120, 109, 108, 32, 118, 101, 114, 115, 105, 111, 110, 61, 34, 49, 46, 48, 34, 32, 101, 110, 99, 111, 100, 105, 110, 103, 61, 34, 117, 116, 102, 45, 56, 34, 63, 62, 10, 60, 117, 114, 108, 115, 101, 116, 62, 10] : B) (by omega) (by decide)
      have h4' : L4a base l (l.length : Int) 0 (D.toList (D.cell (List.getD [D.int ((([60, 63, 120, 109, 108, 32, 118, 101, 114, 115, 105, 111, 110, 61, 34, 49, 46, 48, 34, 32, 101, 110, 99, 111, 100, 105, 110, 103, 61, 34, 117, 116, 102, 45, 56, 34, 63, 62, 10, 60, 117, 114, 108, 115, 101, 116, 62, 10] : B).length : Nat) : Int), D.no, D.agg [D.no, D.list (bytesD ([] ++ ([60, 63, 120, 109, 108, 32, 118, 101, 114, 115, 105, 111, 110, 61, 34, 49, 46, 48, 34, 32, 101, 110, 99, 111, 100, 105, 110, 103, 61, 34, 117, 116, 102, 45, 56, 34, 63, 62, 10, 60, 117, 114, 108, 115, 101, 116, 62, 10] : B)))]] 2 D.no) 1)) = some [.str r, .int 0] := h4
      simp only [opt_s]
      rw [h4']
      simp only [opt_s, List.getD_cons_zero, List.getD_cons_succ, tS, tI]
      have h6' : RUN E 6 [D.str base, D.list l] = some [.str r] := by rw [enter6]; exact h6
      rw [hd, hc, h6']
      simp [opt_s, tS]
  · rw [dec_f he]
    simp only [cond_false, cond_true, opt_s, List.getD_cons_zero, List.getD_cons_succ, tS, tI]
    rw [round3a, dec_f he]
    cases decide ((0 : Int) < (base.length : Int)) <;> simp
theorem lawR {M M' : Mem} {v v' : Value} {e : TypeId} {base : B} {l : List D} (_ : Rep E.tt M .str v (.str base)) (_ : Rep E.tt M' (.slice e) v' (.list l)) (hb : dmass.dmAll [.str base, .list l] ≤ 1048576) : RUN E 3 [.str base, .list l] = some [.bool true] := by
  rw [mass_str, mass_list, mass_nil] at hb
  exact law base l (by omega) (by omega)
end mpx
end Go.Proofs.YtcmeincdmphaoaaDoor.mp
