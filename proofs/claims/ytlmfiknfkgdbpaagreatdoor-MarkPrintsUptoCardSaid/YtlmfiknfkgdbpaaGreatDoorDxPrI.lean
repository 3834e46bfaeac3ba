/- Fences, blocks; the law. -/
import Derived.Test.YtlmfiknfkgdbpaaGreatDoorDxPrF
import Derived.Test.YtlmfiknfkgdbpaaGreatDoorF8
set_option linter.unusedVariables false
set_option linter.unusedSimpArgs false
namespace Go.Proofs.YtlmfiknfkgdbpaaGreatDoor.pr
open Go.Proofs.YtlmfiknfkgdbpaaGreatDoor.DS
namespace check
theorem valid {l : List D} (hN : AllN l) (hb : dmass.dmAll l ≤ 1048576) {p : Int} (h : RUN E 13 [.list l, .int p] = some [.int 0]) : ∀ j (hj : j < l.length), RUN E 25 [l[j], .int p] = some [.int 0] ∧ RUN E 13 [.list (kidsOf l[j]), .int (D.toInt (D.cell l[j] 0))] = some [.int 0] := by
  have hlen := len_le hN
  have loop : ∀ r i : Nat, i + r = l.length → L13a p l l.length i = some [.int 0] → ∀ j (hj : j < l.length), i ≤ j → RUN E 25 [l[j], .int p] = some [.int 0] ∧ RUN E 13 [.list (kidsOf l[j]), .int (D.toInt (D.cell l[j] 0))] = some [.int 0] := by
    intro r
    induction r with
    | zero => intro i hi _ j hj hij; omega
    | succ r ih =>
      intro i hi h j hj hij
      have hil : i < l.length := by omega
      have hx := hN l[i] (List.getElem_mem hil)
      have hdm := drop_mass hil
      have hdl := drop_le l i
      have hmx := mass_nd hx
      have hg : l.getD i .no = l[i] := getD_eq l i .no hil
      have hki : D.toList (D.cell l[i] 5) = kidsOf l[i] := rfl
      have hnext : IntKind.wrap .i64 ((i : Int) + 1) = ((i + 1 : Nat) : Int) := by rw [wrap_id (by omega) (by omega)]; omega
      obtain ⟨e1, g1, _⟩ := nodeEq2 hx (by omega) p
      obtain ⟨e2, g3, _⟩ := faults (kidsOf l[i]) hx.kids (by omega) (D.toInt (D.cell l[i] 0))
      rw [round13a, dec_t (show (i : Int) < (l.length : Int) by omega), inb_nat hil] at h
      simp only [cond_true, Int.toNat_natCast, hg, hki, g1, g3, opt_s, List.getD_cons_zero, tI, hnext] at h
      by_cases he1 : e1 = 0
      · by_cases he2 : e2 = 0
        · subst he1 he2
          simp only [dec_t, cond_true, cond_false] at h
          by_cases hij' : j = i
          · subst hij'; exact ⟨g1, g3⟩
          · exact ih (i + 1) (by omega) h j hj (by omega)
        · rw [dec_t he1, dec_f he2] at h
          simp only [cond_true, cond_false] at h
          injection h with h; injection h with h; injection h with h; exact absurd h he2
      · rw [dec_f he1] at h
        simp only [cond_true, cond_false] at h
        injection h with h; injection h with h; injection h with h; exact absurd h he1
  intro j hj
  rw [enter13] at h
  exact loop l.length 0 (by omega) h j hj (by omega)
end check
namespace chk
open check
theorem gprev {i n : Nat} (h : i ≤ n) (hn : n ≤ 4194304) : (bif inb (IntKind.wrap IntKind.i64 ((i : Int) - 1)) n then true else bif bif decide ((0 : Int) < (i : Int)) then true else false then false else true) = true := by
  by_cases h0 : i = 0
  · subst h0
    cases inb (IntKind.wrap IntKind.i64 (((0 : Nat) : Int) - 1)) n <;> rfl
  · rw [wrap_id (by omega) (by omega), show (i : Int) - 1 = ((i - 1 : Nat) : Int) by omega, inb_nat (by omega)]; rfl

theorem stepC {ks : List D} {w : D} {i : Nat} (hil : i < ks.length) (hl : ks.length ≤ 1048576) {pr c : Bool} (hp0 : i = 0 → pr = true) (hp : i ≠ 0 → RUN E 94 [ks.getD (i - 1) .no, ks.getD i .no] = some [.bool pr]) (hc : RUN E 95 [ks.getD i .no, w] = some [.bool c]) :
    L68a ks ks (ks.length : Int) i w = cond pr (cond c (L68a ks ks (ks.length : Int) ((i + 1 : Nat) : Int) w) (some [.bool false])) (some [.bool false]) := by
  rw [round68a, dec_t (by omega), inb_nat hil, gprev (by omega) (by omega), Int.toNat_natCast, nxt (by omega), hc]
  simp only [cond_true, opt_s, List.getD_cons_zero, tB]
  by_cases h0 : i = 0
  · rw [hp0 h0, dec_f (by omega)]
    cases c <;> rfl
  · rw [dec_t (by omega : (0 : Int) < (i : Int)), len1 h0 (by omega), Int.toNat_natCast, hp h0]
    simp only [cond_true, opt_s, List.getD_cons_zero, tB]
    cases pr <;> cases c <;> rfl
theorem stepR {ks : List D} {w : D} {p : Int} {i : Nat} (hil : i < ks.length) (hl : ks.length ≤ 1048576) {pr c : Bool} (hp0 : i = 0 → pr = true) (hp : i ≠ 0 → RUN E 76 [ks.getD (i - 1) .no, ks.getD i .no] = some [.bool pr]) (hc : RUN E 77 [ks.getD i .no, w] = some [.bool c]) :
    L46a ks p ks (ks.length : Int) i w = cond (((decide (i = 0) || decide (i + 1 = ks.length)) && !ok p (ks.getD i .no)) || (brk (D.toInt (D.cell (ks.getD i .no) 0)) && !D.toBool (D.cell w 4))) (some [.bool false]) (cond pr (cond c (L46a ks p ks (ks.length : Int) ((i + 1 : Nat) : Int) w) (some [.bool false])) (some [.bool false])) := by
  have d1 : decide ((i : Int) = 0) = decide (i = 0) := decide_eq_decide.2 (by omega)
  have d2 : decide ((i : Int) = ((ks.length - 1 : Nat) : Int)) = decide (i + 1 = ks.length) := decide_eq_decide.2 (by omega)
  rw [round46a, dec_t (by omega), inb_nat hil, gprev (by omega) (by omega), Int.toNat_natCast, nxt (by omega), hc, len1 (by omega : ks.length ≠ 0) (by omega), d1, d2]
  simp only [cond_true, opt_s, List.getD_cons_zero, tB, r93, r94]
  unfold ok
  have hpp : (opt (cond (bif decide ((0 : Int) < (i : Int)) then true else false) (RUN E 76 [ks.getD (Int.toNat (IntKind.wrap IntKind.i64 ((i : Int) - 1))) .no, ks.getD i .no]) (some [])) fun ρ8 =>
      cond (bif decide ((0 : Int) < (i : Int)) then bif D.toBool (List.getD ρ8 0 D.no) then false else true else false) (some [D.bool false]) (cond (bif c then false else true) (some [D.bool false]) (L46a ks p ks (ks.length : Int) ((i + 1 : Nat) : Int) w))) =
      cond pr (cond c (L46a ks p ks (ks.length : Int) ((i + 1 : Nat) : Int) w) (some [.bool false])) (some [.bool false]) := by
    by_cases h0 : i = 0
    · rw [hp0 h0, dec_f (by omega)]; cases c <;> rfl
    · rw [dec_t (by omega : (0 : Int) < (i : Int)), len1 h0 (by omega), Int.toNat_natCast, hp h0]
      simp only [cond_true, opt_s, List.getD_cons_zero, tB]
      cases pr <;> cases c <;> rfl
  rw [hpp]
  generalize (cond pr (cond c (L46a ks p ks (ks.length : Int) ((i + 1 : Nat) : Int) w) (some [D.bool false])) (some [D.bool false])) = X
  generalize decide (i = 0) = z1
  generalize decide (i + 1 = ks.length) = z2
  generalize brk (D.toInt (D.cell (ks.getD i .no) 0)) = B
  generalize star (D.toInt (D.cell (ks.getD i .no) 0)) = S
  generalize star p = P
  generalize D.toBool (D.cell w 4) = L
  cases z1 <;> cases z2 <;> cases B <;> cases S <;> cases P <;> cases L <;> rfl

theorem below : ∀ ks, AllN ks → dmass.dmAll ks ≤ 1048576 → ∀ p, par p → RUN E 13 [.list ks, .int p] = some [.int 0] → Below p ks := by
  refine doc_ind (S := fun ks => dmass.dmAll ks ≤ 1048576 → ∀ p, par p → RUN E 13 [.list ks, .int p] = some [.int 0] → Below p ks) fun ks hN hS hm p hp hv => ?_
  intro e s l kind
  have hlen : ks.length ≤ 1048576 := Nat.le_trans (len_le hN) hm
  have hval := valid hN hm hv
  have hel : ∀ i, i < ks.length → ∃ c' : Bool, RUN E 77 [ks.getD i .no, .agg [.bool e, .bool s, .bool l, .bool (decide (kind = 10)), .bool (decide (kind = 2))]] = some [.bool c'] ∧
      RUN E 95 [ks.getD i .no, .agg [.bool e, .bool s, .bool l, .int kind]] = some [.bool (c' && !(brk (D.toInt (D.cell (ks.getD i .no) 0)) && !decide (kind = 2)))] := by
    intro i hi
    obtain ⟨v1, v2⟩ := hval i hi
    have hg : ks.getD i .no = ks[i] := getD_eq ks i .no hi
    have hx := hN ks[i] (List.getElem_mem hi)
    have hdm : dmass ks[i] ≤ 1048576 := by rw [← hg]; exact Nat.le_trans (mass_getD ks i) hm
    have hmk := mass_nd hx
    have hSx := hS ks[i] (List.getElem_mem hi)
    rw [hg]
    generalize ks[i] = x at *
    cases hx with
    | mk k v t d ti kk hkk =>
      obtain ⟨o1, o2, o3, o4⟩ := okInl hp v1
      refine inl (x := .agg [.int k, .int v, .str t, .str d, .str ti, .list kk]) (k := k) rfl o1 o2 hdm o3 o4 (ks := kk) rfl ?_ ?_ e s l kind
      · have h1 : dmass.dmAll kk + 1 ≤ dmass (.agg [.int k, .int v, .str t, .str d, .str ti, .list kk]) := hmk
        have h2 : kk.length ≤ dmass.dmAll kk := len_le hkk
        omega
      · intro hk
        have h1 : dmass.dmAll kk + 1 ≤ dmass (.agg [.int k, .int v, .str t, .str d, .str ti, .list kk]) := hmk
        refine hSx (by show dmass.dmAll kk ≤ _; omega) k ?_ v2
        rcases hk with rfl | rfl | rfl
        · exact .inr (.inr (.inr (.inl rfl)))
        · exact .inr (.inr (.inr (.inr (.inl rfl))))
        · exact .inr (.inr (.inr (.inr (.inr rfl))))
  have hpair : ∀ i, i < ks.length → ∃ q : Bool, RUN E 94 [ks.getD (i - 1) .no, ks.getD i .no] = some [.bool q] ∧ RUN E 76 [ks.getD (i - 1) .no, ks.getD i .no] = some [.bool q] := fun i hi =>
    pairs _ _ (Nat.le_trans (mass_getD ks _) hm) (Nat.le_trans (mass_getD ks _) hm)
  have loop : ∀ n i : Nat, i + n = ks.length → ∃ b : Bool, L68a ks ks (ks.length : Int) i (.agg [.bool e, .bool s, .bool l, .int kind]) = some [.bool b] ∧
      (i < ks.length → L46a ks p ks (ks.length : Int) i (.agg [.bool e, .bool s, .bool l, .bool (decide (kind = 10)), .bool (decide (kind = 2))]) = some [.bool ((!decide (i = 0) || ok p (ks.getD 0 .no)) && (ok p (ks.getD (ks.length - 1) .no) && b))]) ∧
      (i = ks.length → L46a ks p ks (ks.length : Int) i (.agg [.bool e, .bool s, .bool l, .bool (decide (kind = 10)), .bool (decide (kind = 2))]) = some [.bool true] ∧ b = true) := by
    intro n
    induction n with
    | zero =>
      intro i hi
      have : i = ks.length := by omega
      subst this
      exact ⟨true, by rw [round68a, dec_f (by omega)]; rfl, fun h => absurd h (Nat.lt_irrefl _), fun _ => ⟨by rw [round46a, dec_f (by omega)]; rfl, rfl⟩⟩
    | succ n ih =>
      intro i hi
      have hil : i < ks.length := by omega
      obtain ⟨b1, g1, g2, g3⟩ := ih (i + 1) (by omega)
      obtain ⟨c', k1, k2⟩ := hel i hil
      obtain ⟨q, q1, q2⟩ := hpair i hil
      obtain ⟨pr, pr0, pr1, pr2⟩ : ∃ pr : Bool, (i = 0 → pr = true) ∧ (i ≠ 0 → RUN E 94 [ks.getD (i - 1) .no, ks.getD i .no] = some [.bool pr]) ∧ (i ≠ 0 → RUN E 76 [ks.getD (i - 1) .no, ks.getD i .no] = some [.bool pr]) := by
        by_cases h0 : i = 0
        · exact ⟨true, fun _ => rfl, fun h => absurd h0 h, fun h => absurd h0 h⟩
        · exact ⟨q, fun h => absurd h h0, fun _ => q1, fun _ => q2⟩
      have sC := stepC hil hlen pr0 pr1 k2
      have sR := stepR (p := p) hil hlen pr0 pr2 k1
      rw [g1] at sC
      refine ⟨pr && ((c' && !(brk (D.toInt (D.cell (ks.getD i .no) 0)) && !decide (kind = 2))) && b1), ?_, fun _ => ?_, fun h => absurd h (by omega)⟩
      · rw [sC]
        cases pr <;> cases (c' && !(brk (D.toInt (D.cell (ks.getD i .no) 0)) && !decide (kind = 2))) <;> rfl
      · rw [sR, c4, tB]
        have hok : ok p (ks.getD i .no) = true → brk (D.toInt (D.cell (ks.getD i .no) 0)) = false := by
          unfold ok
          cases brk (D.toInt (D.cell (ks.getD i .no) 0)) <;> simp
        by_cases hlast : i + 1 = ks.length
        · obtain ⟨m1, m2⟩ := g3 hlast
          rw [m1, m2, dec_t hlast]
          have hlx : ks.getD (ks.length - 1) .no = ks.getD i .no := by congr 1; omega
          rw [hlx]
          have hf : i = 0 → ok p (ks.getD 0 .no) = ok p (ks.getD i .no) := fun h => by rw [h]
          by_cases h0 : i = 0
          · rw [hf h0, dec_t h0]
            revert hok
            generalize ok p (ks.getD i .no) = O
            generalize brk (D.toInt (D.cell (ks.getD i .no) 0)) = B
            intro hok
            cases O with
            | false => cases B <;> cases decide (kind = 2) <;> rfl
            | true => rw [hok rfl]; cases pr <;> cases c' <;> rfl
          · rw [dec_f h0]
            revert hok
            generalize ok p (ks.getD i .no) = O
            generalize brk (D.toInt (D.cell (ks.getD i .no) 0)) = B
            intro hok
            cases O with
            | false => cases B <;> cases decide (kind = 2) <;> rfl
            | true => rw [hok rfl]; cases pr <;> cases c' <;> rfl
        · have m := g2 (by omega)
          rw [m, dec_f hlast, dec_f (by omega : ¬ i + 1 = 0)]
          by_cases h0 : i = 0
          · have hf : ok p (ks.getD 0 .no) = ok p (ks.getD i .no) := by rw [h0]
            rw [hf, dec_t h0]
            revert hok
            generalize ok p (ks.getD i .no) = O
            generalize ok p (ks.getD (ks.length - 1) .no) = OL
            generalize brk (D.toInt (D.cell (ks.getD i .no) 0)) = B
            intro hok
            cases O with
            | false => cases B <;> cases decide (kind = 2) <;> rfl
            | true => rw [hok rfl]; cases pr <;> cases c' <;> cases OL <;> cases b1 <;> rfl
          · rw [dec_f h0]
            generalize ok p (ks.getD i .no) = O
            generalize ok p (ks.getD (ks.length - 1) .no) = OL
            generalize brk (D.toInt (D.cell (ks.getD i .no) 0)) = B
            cases decide (kind = 2) <;> cases O <;> cases B <;> cases pr <;> cases c' <;> cases OL <;> cases b1 <;> rfl
  obtain ⟨b, g1, g2, g3⟩ := loop ks.length 0 (Nat.zero_add _)
  by_cases hs : ks = []
  · obtain ⟨m1, m2⟩ := g3 (by rw [hs]; rfl)
    refine ⟨b, true, by rw [enter68]; exact g1, by rw [enter46]; exact m1, fun h => absurd hs h, fun _ => ⟨rfl, m2⟩⟩
  · have h0 := ne_lenD hs
    refine ⟨b, _, by rw [enter68]; exact g1, by rw [enter46]; exact g2 (by omega), fun _ => ?_, fun h => absurd h hs⟩
    unfold ec
    cases ok p (ks.getD 0 .no) <;> cases ok p (ks.getD (ks.length - 1) .no) <;> rfl
end chk
end Go.Proofs.YtlmfiknfkgdbpaaGreatDoor.pr

namespace Go.Proofs.YtlmfiknfkgdbpaaGreatDoor.pr
open Go.Proofs.YtlmfiknfkgdbpaaGreatDoor.DS
namespace chk
open check

theorem r90 (c : UInt8) : RUN E 67 [.int (c.toNat : Int)] = some [.bool (isB c)] := enter67 _
theorem fb_eq (s : List UInt8) : (bif decide (s = ([] : List UInt8)) then false else isB (s.getD 0 0)) = fb s := by unfold fb; cases decide (s = []) <;> rfl
theorem lb_eq (s : List UInt8) : (bif decide (s = ([] : List UInt8)) then false else isB (s.getD (s.length - 1) 0)) = lb s := by unfold lb; cases decide (s = []) <;> rfl

theorem line {x : D} {k : Int} (hk : D.toInt (D.cell x 0) = k) (hkk : k = 1 ∨ k = 2 ∨ k = 10) {ks : List D} (hks : D.toList (D.cell x 5) = ks) (hl : ks.length ≤ 1048576) (hm : dmass.dmAll ks ≤ 1048576) (hB : Below k ks) :
    ∃ b : Bool, RUN E 37 [.list ks, .int k] = some [.bool b] ∧ RUN E 26 [x] = some [.bool b] := by
  obtain ⟨b, b', g1, g2, g3, g4⟩ := hB false false false k
  have hst : star k = false := by rcases hkk with rfl | rfl | rfl <;> rfl
  rw [enter37, enter26, hks, hk, pos_ne]
  rw [g1, g2]
  by_cases hs : ks = []
  · obtain ⟨m1, m2⟩ := g4 hs
    subst m1 m2
    rw [dec_t hs]
    exact ⟨true, rfl, rfl⟩
  · have h0 := ne_lenD hs
    have hta : (D.toStr (D.cell (ks.getD 0 .no) 2)).length ≤ 1048576 := Nat.le_trans (cellS_le _ _) (Nat.le_trans (mass_getD ks _) hm)
    have htb : (D.toStr (D.cell (ks.getD (ks.length - 1) .no) 2)).length ≤ 1048576 := Nat.le_trans (cellS_le _ _) (Nat.le_trans (mass_getD ks _) hm)
    have hec : ec k ks = (!brk (D.toInt (D.cell (ks.getD 0 .no) 0)) && !brk (D.toInt (D.cell (ks.getD (ks.length - 1) .no) 0))) := by
      unfold ec ok; rw [hst]; simp
    rw [g3 hs, hec, dec_f hs, show inb 0 ks.length = true from inb_nat (i := 0) (by omega), len1 h0 (by omega), inb_nat (by omega : ks.length - 1 < ks.length), Int.toNat_natCast, r73 _ hta, r73 _ htb]
    simp only [r89, r90, opt_s, cond_true, cond_false, List.getD_cons_zero, List.getD_cons_succ, tB]
    generalize hta' : D.toStr (D.cell (ks.getD 0 .no) 2) = ta at *
    generalize htb' : D.toStr (D.cell (ks.getD (ks.length - 1) .no) 2) = tb at *
    generalize decide (D.toInt (D.cell (ks.getD 0 .no) 0) = 11) = A
    generalize decide (D.toInt (D.cell (ks.getD (ks.length - 1) .no) 0) = 11) = Z
    generalize brk (D.toInt (D.cell (ks.getD 0 .no) 0)) = x1
    generalize brk (D.toInt (D.cell (ks.getD (ks.length - 1) .no) 0)) = x2
    have hq1 : decide (ta = []) = false → inb 0 ta.length = true := fun h => inb_nat (i := 0) (by have := ne_len (of_decide_eq_false h); omega)
    generalize inb 0 ta.length = q1 at *
    have hfa := fb_eq ta
    have hlb := lb_eq tb
    generalize fb ta = f1 at *
    generalize lb ta = f2 at *
    generalize fb tb = f3 at *
    generalize lb tb = f4 at *
    generalize isB (ta.getD 0 0) = i1 at *
    by_cases htbe : tb = []
    · rw [dec_t htbe] at hlb ⊢
      have hf4 : f4 = false := hlb.symm
      subst hf4
      generalize decide (ta = []) = n1 at *
      cases n1 with
      | true =>
        have : f1 = false := hfa.symm
        subst this
        cases q1 <;> cases A <;> cases Z <;> cases x1 <;> cases x2 <;> cases b <;> cases inb (IntKind.wrap IntKind.i64 ((tb.length : Int) - 1)) tb.length <;> exact ⟨_, rfl, rfl⟩
      | false =>
        have : f1 = i1 := hfa.symm
        subst this
        rw [hq1 rfl]
        cases f1 <;> cases A <;> cases Z <;> cases x1 <;> cases x2 <;> cases b <;> cases inb (IntKind.wrap IntKind.i64 ((tb.length : Int) - 1)) tb.length <;> exact ⟨_, rfl, rfl⟩
    · have hl := ne_len htbe
      rw [dec_f htbe] at hlb ⊢
      rw [len1 hl (by omega), inb_nat (by omega : tb.length - 1 < tb.length), Int.toNat_natCast]
      generalize isB (tb.getD (tb.length - 1) 0) = i2 at *
      have : f4 = i2 := hlb.symm
      subst this
      generalize decide (ta = []) = n1 at *
      cases n1 with
      | true =>
        have : f1 = false := hfa.symm
        subst this
        cases q1 <;> cases f4 <;> cases A <;> cases Z <;> cases x1 <;> cases x2 <;> cases b <;> exact ⟨_, rfl, rfl⟩
      | false =>
        have : f1 = i1 := hfa.symm
        subst this
        rw [hq1 rfl]
        cases f1 <;> cases f4 <;> cases A <;> cases Z <;> cases x1 <;> cases x2 <;> cases b <;> exact ⟨_, rfl, rfl⟩

/-! ### Trimming -/
theorem trimB : ∀ (n : Nat) (s : List UInt8), s.length = n → n ≤ 1048576 → ∃ r, L62b s = some [.str r] ∧ r.length ≤ s.length ∧ (lb s = false → r = s) ∧ (lb s = true → r.length < s.length) ∧ (r = [] ↔ s.all isB = true) := by
  intro n
  induction n with
  | zero =>
    intro s hs _
    have : s = [] := List.eq_nil_of_length_eq_zero hs
    subst this
    exact ⟨[], by rw [round62b]; rfl, Nat.le_refl _, fun _ => rfl, fun h => (by cases h), ⟨fun _ => rfl, fun _ => rfl⟩⟩
  | succ n ih =>
    intro s hs hn
    have hne : s ≠ [] := fun e => by subst e; simp at hs
    have hl := ne_len hne
    rw [round62b, len1 hl (by omega), inb_nat (by omega : s.length - 1 < s.length), dec_f hne, Int.toNat_natCast, r90]
    simp only [opt_s, cond_true, cond_false, List.getD_cons_zero, tB]
    have hlbv : lb s = isB (s.getD (s.length - 1) 0) := by unfold lb; rw [dec_f hne]; rfl
    have hdec : s = s.take (s.length - 1) ++ [s.getD (s.length - 1) 0] := by
      conv => lhs; rw [← List.take_append_drop (s.length - 1) s]
      congr 1
      rw [drop_cons 0 (by omega : s.length - 1 < s.length), List.drop_of_length_le (by omega)]
    cases hb : isB (s.getD (s.length - 1) 0) with
    | false =>
      refine ⟨s, rfl, Nat.le_refl _, fun _ => rfl, fun h => (by rw [hlbv, hb] at h; cases h), fun h => absurd h hne, fun h => ?_⟩
      rw [hdec, List.all_append] at h
      simp only [List.all_cons, List.all_nil, hb, Bool.and_false, Bool.false_and] at h
      cases h
    | true =>
      rw [show cutOk s.length none (some ((s.length - 1 : Nat) : Int)) = true from cutOk_hi (by omega), cut_hi]
      simp only [cond_true]
      obtain ⟨r, g1, g2, g3, g4, g5⟩ := ih (s.take (s.length - 1)) (by rw [List.length_take]; omega) (by omega)
      rw [List.length_take] at g2
      refine ⟨r, g1, by omega, fun h => (by rw [hlbv, hb] at h; cases h), fun _ => by omega, ?_⟩
      rw [g5]
      conv => rhs; rw [hdec]
      rw [List.all_append, List.all_cons, List.all_nil, hb, Bool.and_true, Bool.and_true]
theorem trimA : ∀ (n : Nat) (s : List UInt8), s.length = n → n ≤ 1048576 → ∃ r, L62a s = some [.str r] ∧ r.length ≤ s.length ∧ (fb s = false → lb s = false → r = s) ∧ (fb s = true ∨ lb s = true → r.length < s.length) ∧ (r = [] ↔ s.all isB = true) := by
  intro n
  induction n with
  | zero =>
    intro s hs _
    have : s = [] := List.eq_nil_of_length_eq_zero hs
    subst this
    refine ⟨[], ?_, Nat.le_refl _, fun _ _ => rfl, fun h => (by rcases h with h | h <;> cases h), ⟨fun _ => rfl, fun _ => rfl⟩⟩
    rw [round62a]
    show L62b [] = _
    rw [round62b]; rfl
  | succ n ih =>
    intro s hs hn
    cases s with
    | nil => simp at hs
    | cons c t =>
      simp only [List.length_cons] at hs
      rw [round62a, show inb 0 (c :: t).length = true from inb_nat (i := 0) (by simp), dec_f (by simp : ¬ (c :: t) = []), show (((c :: t).getD 0 0).toNat : Int) = (c.toNat : Int) from rfl, r90]
      simp only [opt_s, cond_true, cond_false, List.getD_cons_zero, tB]
      have hfb : fb (c :: t) = isB c := by unfold fb; rw [dec_f (by simp : ¬ (c :: t) = [])]; rfl
      cases hb : isB c with
      | true =>
        rw [show cutOk (c :: t).length (some 1) none = true from cutOk_lo (i := 1) (by simp), show cutL (c :: t) (some 1) none = t from rfl]
        simp only [cond_true]
        obtain ⟨r, g1, g2, g3, g4, g5⟩ := ih t (by omega) (by omega)
        refine ⟨r, g1, by simp only [List.length_cons]; omega, fun h => (by rw [hfb, hb] at h; cases h), fun _ => by simp only [List.length_cons]; omega, ?_⟩
        rw [g5, List.all_cons, hb, Bool.true_and]
      | false =>
        simp only [cond_false]
        obtain ⟨r, g1, g2, g3, g4, g5⟩ := trimB _ (c :: t) rfl (by simp only [List.length_cons]; omega)
        exact ⟨r, g1, g2, fun _ h => g3 h, fun h => g4 (by rcases h with h | h; (rw [hfb, hb] at h; cases h); exact h), g5⟩
theorem r85 (s : List UInt8) (h : s.length ≤ 1048576) : ∃ r, RUN E 62 [.str s] = some [.str r] ∧ decide (r = s) = !(fb s || lb s) ∧ decide (r = []) = s.all isB := by
  obtain ⟨r, g1, g2, g3, g4, g5⟩ := trimA _ s rfl h
  refine ⟨r, by rw [enter62]; exact g1, ?_, ?_⟩
  · cases hf : fb s with
    | true => rw [dec_f (fun e => by have := g4 (.inl hf); rw [e] at this; omega)]; rfl
    | false =>
      cases hl : lb s with
      | true => rw [dec_f (fun e => by have := g4 (.inr hl); rw [e] at this; omega)]; rfl
      | false => rw [dec_t (g3 hf hl)]; rfl
  · cases ha : s.all isB with
    | true => exact dec_t (g5.2 ha)
    | false => exact dec_f (fun e => by rw [g5.1 e] at ha; cases ha)
theorem dropWhile_nil (p : UInt8 → Bool) : ∀ l : List UInt8, l.dropWhile p = [] ↔ l.all p = true := by
  intro l
  induction l with
  | nil => simp
  | cons c r ih =>
    rw [List.dropWhile_cons, List.all_cons]
    cases hp : p c with
    | true => simpa using ih
    | false => simp
theorem all_dropWhile (p : UInt8 → Bool) : ∀ l : List UInt8, (l.dropWhile p).all p = true ↔ l.all p = true := by
  intro l
  induction l with
  | nil => simp
  | cons c r ih =>
    rw [List.dropWhile_cons]
    cases hp : p c with
    | true => simp only [if_true, List.all_cons, hp, Bool.true_and]; exact ih
    | false => simp [hp]
theorem isB_set (c : UInt8) : ([32, 9] : List UInt8).contains c = isB c :=
  bool_of_beq (u8_all (fun c => ([32, 9] : List UInt8).contains c == isB c) (by decide +kernel) c)
theorem trimS_nil (s : List UInt8) : decide (Lib.trimS s [32, 9] = []) = s.all isB := by
  have hp : (fun c : UInt8 => ([32, 9] : List UInt8).contains c) = isB := funext isB_set
  have h : Lib.trimS s [32, 9] = [] ↔ s.all isB = true := by
    unfold Lib.trimS Lib.trimLeftS Lib.trimRightS
    rw [hp, dropWhile_nil, List.all_reverse, all_dropWhile, List.all_reverse]
  cases ha : s.all isB with
  | true => exact dec_t (h.2 ha)
  | false => exact dec_f (fun e => by rw [h.1 e] at ha; cases ha)
theorem trimS_len (s : List UInt8) : (Lib.trimS s [32, 9]).length ≤ s.length := by
  unfold Lib.trimS Lib.trimLeftS Lib.trimRightS
  have h1 := (List.dropWhile_sublist (l := ((s.reverse.dropWhile (([32, 9] : List UInt8).contains ·)).reverse)) (([32, 9] : List UInt8).contains ·)).length_le
  have h2 := (List.dropWhile_sublist (l := s.reverse) (([32, 9] : List UInt8).contains ·)).length_le
  simp only [List.length_reverse] at h1 h2
  omega
theorem r76 (s : List UInt8) (h : s.length ≤ 1048576) : RUN E 48 [.str s] = some [.bool (s.all isB)] := by
  have e : RUN E 103 [.str s, .str [32, 9]] = some [.str (Lib.trimS s [32, 9])] := by
    have e1 : RUN E 103 [.str s, .str [32, 9]] = xTrimS [.str s, .str [32, 9]] := (RUN_eq _ _ _).trans (by kernel_rfl)
    rw [e1]
    unfold xTrimS
    simp only
    have := trimS_len s
    rw [dec_t (by decide : ([32, 9] : List UInt8).length ≤ 100), dec_t (by omega : (Lib.trimS s [32, 9]).length ≤ 4194304)]
    rfl
  rw [enter48, enter79, e]
  simp only [opt_s, List.getD_cons_zero, tS]
  rw [trimS_nil]
theorem r87 (s : List UInt8) (h : s.length ≤ 1048576) : RUN E 64 [.str s] = some [.bool (s.all isB)] := by
  obtain ⟨r, g1, _, g3⟩ := r85 s h
  rw [enter64, g1]
  simp only [opt_s, List.getD_cons_zero, tS]
  rw [g3]
theorem r116 (s p : List UInt8) (h : s.length ≤ 4194304) (hp : p.length ≤ 4194304) : RUN E 40 [.str s, .str p] = some [.bool (hasPre s p)] := by
  rw [enter40, enter71, pre_eq (by omega) (by omega)]; rfl
theorem ends (s : List UInt8) (h : s.length ≤ 1048576) : ∃ b : Bool, RUN E 65 [.str s] = some [.bool b] ∧ RUN E 49 [.str s] = some [.bool b] := by
  rw [enter65, enter49, enter93, enter80, r116 s _ (by omega) (by decide)]
  simp only [opt_s, List.getD_cons_zero, tB]
  cases hp : hasPre s [96, 96, 96] with
  | false => cases cutOk s.length (some 3) none <;> exact ⟨false, rfl, rfl⟩
  | true =>
    unfold hasPre at hp
    simp only [Bool.and_eq_true, decide_eq_true_eq] at hp
    have hl : 3 ≤ s.length := hp.1
    rw [show cutOk s.length (some 3) none = true from cutOk_lo (i := 3) (by omega), show cutL s (some 3) none = s.drop 3 from rfl]
    simp only [cond_true]
    rw [r87 _ (by rw [List.length_drop]; omega), r76 _ (by rw [List.length_drop]; omega)]
    exact ⟨_, rfl, rfl⟩
end chk
end Go.Proofs.YtlmfiknfkgdbpaaGreatDoor.pr

namespace Go.Proofs.YtlmfiknfkgdbpaaGreatDoor.pr
open Go.Proofs.YtlmfiknfkgdbpaaGreatDoor.DS
namespace chk
open check

theorem r19 (s : List UInt8) (c : UInt8) : RUN E 88 [.str s, .str [c]] = some [.int (Lib.indexByte s c)] := (RUN_eq _ _ _).trans (by kernel_rfl)
theorem r60 (s : List UInt8) (c : UInt8) : RUN E 87 [.str s, .str [c]] = some [.int (Lib.countByte s c : Int)] := (RUN_eq _ _ _).trans (by kernel_rfl)
theorem r39 (s : List UInt8) (h : s.length ≤ 1048576) (c : UInt8) : RUN E 31 [.str s, .str [c]] = some [.list ((splitC c s).map .str)] := by
  have hc : s.count c ≤ s.length := List.count_le_length
  have n1 : IntKind.wrap IntKind.i64 ((s.count c : Int) + 1) = ((s.count c + 1 : Nat) : Int) := nxt (by omega)
  have n2 : IntKind.wrap IntKind.i64 ((s.length : Int) + 1) = ((s.length + 1 : Nat) : Int) := nxt (by omega)
  have mm : mmInt false ((s.count c + 1 : Nat) : Int) ((s.length + 1 : Nat) : Int) = ((s.count c + 1 : Nat) : Int) := by
    unfold mmInt; rw [dec_f (p := ((s.length + 1 : Nat) : Int) < ((s.count c + 1 : Nat) : Int)) (by omega)]; rfl
  have n3 : IntKind.wrap IntKind.i64 (((s.count c + 1 : Nat) : Int) - 1) = ((0 + s.count c : Nat) : Int) := by rw [wrap_id (by omega) (by omega)]; omega
  have lp := split_loop (L := fun s n i a => L55b s [c] 0 n i a) (X := fun s => RUN E 88 [.str s, .str [c]]) (c := c) (fun s _ => r19 s c) (fun s n i a => round55b s [c] 0 n i a) s.length s (Nat.le_refl _) (by omega) 0 (List.replicate (s.count c + 1) (.str [])) (by omega) (by simp)
  have e50 : RUN E 55 [.str s, .str [c], .int 0, .int (-1)] = some [.list ((splitC c s).map .str)] := by
    rw [enter55, dec_f (by omega), dec_f (by simp), dec_t (by omega), r60]
    simp only [cond_true, cond_false, opt_s, List.getD_cons_zero, tI, Lib.countByte, n1]
    rw [round55a, n2, mm, n3, dec_t (by omega), dec_t (by omega), dec_t (by rw [lim_val]; omega), Int.toNat_natCast]
    simpa using lp
  rw [enter31, e50]; rfl

/-! ### Parts of paths -/

theorem parts_len {s : List UInt8} {i : Nat} : (D.toStr (((splitC 10 s).map D.str).getD i .no)).length ≤ s.length := by
  rw [List.getD_eq_getElem?_getD, List.getElem?_map]
  cases h : (splitC 10 s)[i]? with
  | none => simp [D.toStr]
  | some x => exact (split_len 10 s.length s (Nat.le_refl _)).2 x (List.mem_of_getElem? h)
theorem r42 (s p : List UInt8) (h : s.length ≤ 4194304) (hp : p.length ≤ 4194304) : RUN E 78 [.str s, .str p] = some [.bool (hasSuf s p)] := by
  rw [enter78, suf_eq (by omega) (by omega)]
theorem r24 (s p : List UInt8) (h : s.length ≤ 4194304) (hp : p.length ≤ 4194304) : RUN E 47 [.str s, .str p] = some [.bool (hasSuf s p)] := by
  rw [enter47, r42 s p h hp]; rfl
theorem suf_ne {s : List UInt8} {c : UInt8} (h : hasSuf s [c] = true) : s.length ≠ 0 := by
  unfold hasSuf at h
  simp only [Bool.and_eq_true, decide_eq_true_eq, List.length_cons, List.length_nil] at h
  omega
theorem lns (t : List UInt8) (h : t.length ≤ 1048576) : ∃ X : List D, RUN E 63 [.str t] = some [.list X] ∧ RUN E 30 [.str t] = some [.list X] ∧ X.length ≤ 1048577 ∧ ∀ i, (D.toStr (X.getD i .no)).length ≤ 1048576 := by
  have hsp : ∀ u : List UInt8, u.length ≤ t.length → ((splitC 10 u).map D.str).length ≤ 1048577 ∧ ∀ i, (D.toStr (((splitC 10 u).map D.str).getD i .no)).length ≤ 1048576 := by
    intro u hu
    refine ⟨?_, fun i => Nat.le_trans parts_len (by omega)⟩
    rw [List.length_map]
    have h1 := (split_len 10 u.length u (Nat.le_refl _)).1
    have h2 : u.count 10 ≤ u.length := List.count_le_length
    omega
  rw [enter63, enter30, r24 t _ (by omega) (by decide), enter92, enter111, r42 t _ (by omega) (by decide)]
  simp only [opt_s, List.getD_cons_zero, tB, tS, tL]
  by_cases ht : t = []
  · subst ht
    exact ⟨[], rfl, rfl, by simp, fun i => by simp [D.toStr]⟩
  · rw [dec_f ht]
    simp only [cond_false]
    cases hs : hasSuf t [10] with
    | false =>
      simp only [cond_false, opt_s, List.getD_cons_zero, tS]
      rw [r39 t h 10]
      simp only [opt_s, List.getD_cons_zero, tL]
      exact ⟨_, rfl, rfl, (hsp t (Nat.le_refl _)).1, (hsp t (Nat.le_refl _)).2⟩
    | true =>
      have h0 := suf_ne hs
      have e1 : IntKind.wrap IntKind.i64 ((t.length : Int) - (([10] : List UInt8).length : Int)) = ((t.length - 1 : Nat) : Int) := len1 h0 (by omega)
      rw [e1, len1 h0 (by omega), cutOk_hi (by omega), cut_hi]
      simp only [cond_true, opt_s, List.getD_cons_zero, tS]
      have hl : (t.take (t.length - 1)).length ≤ t.length := by rw [List.length_take]; omega
      rw [r39 _ (by omega) 10]
      simp only [opt_s, List.getD_cons_zero, tL]
      exact ⟨_, rfl, rfl, (hsp _ hl).1, (hsp _ hl).2⟩
theorem fence {x : D} (hm : dmass x ≤ 1048576) : ∃ b : Bool, RUN E 36 [x] = some [.bool b] ∧ RUN E 27 [x] = some [.bool b] := by
  have ht : (D.toStr (D.cell x 2)).length ≤ 1048576 := Nat.le_trans (cellS_le _ _) hm
  have hd : (D.toStr (D.cell x 3)).length ≤ 1048576 := Nat.le_trans (cellS_le _ _) hm
  obtain ⟨r, t1, t2, _⟩ := r85 _ hd
  obtain ⟨X, l1, l2, l3, l4⟩ := lns _ ht
  have loop : ∀ n i : Nat, i + n = X.length → ∃ b : Bool, L36a X (X.length : Int) i = some [.bool b] ∧ L27a X (X.length : Int) i = some [.bool b] := by
    intro n
    induction n with
    | zero =>
      intro i hi
      have : i = X.length := by omega
      subst this
      exact ⟨true, by rw [round36a, dec_f (by omega)]; rfl, by rw [round27a, dec_f (by omega)]; rfl⟩
    | succ n ih =>
      intro i hi
      have hil : i < X.length := by omega
      obtain ⟨b1, g1, g2⟩ := ih (i + 1) (by omega)
      obtain ⟨b2, e1, e2⟩ := ends _ (l4 i)
      rw [round36a, round27a, dec_t (p := (i : Int) < (X.length : Int)) (by omega), inb_nat hil, Int.toNat_natCast, nxt (by omega), r87 _ (l4 i), r76 _ (l4 i), e1, e2, g1, g2]
      generalize decide (D.toStr (X.getD i .no) = []) = n1
      generalize (D.toStr (X.getD i .no)).all isB = n2
      cases n1 <;> cases n2 <;> cases b2 <;> cases b1 <;> exact ⟨_, rfl, rfl⟩
  obtain ⟨b, m1, m2⟩ := loop X.length 0 (Nat.zero_add _)
  have m1' : L36a X (X.length : Int) 0 = some [.bool b] := m1
  have m2' : L27a X (X.length : Int) 0 = some [.bool b] := m2
  rw [enter36, enter27, r73 _ hd, r24 _ _ (by omega) (by decide), t1, l1, l2]
  simp only [opt_s, List.getD_cons_zero, List.getD_cons_succ, tB, tL, m1', m2']
  generalize decide (D.toStr (D.cell x 2) = []) = n1
  generalize hasSuf (D.toStr (D.cell x 2)) [10] = n2
  generalize hu : D.toStr (D.cell x 3) = dd at *
  generalize fb dd = n3 at *
  generalize lb dd = n4 at *
  cases n1 <;> cases n2 <;> simp only [opt_s, cond_true, cond_false, List.getD_cons_zero, tS, tB, t2] <;> cases n3 <;> cases n4 <;> exact ⟨_, rfl, rfl⟩

/-! ### Blocks -/
noncomputable def refx (x : D) (NX : R) : R :=
          (cond (decide (D.toInt (D.cell x 0) = 1))
            (cond (decide (D.toInt (D.cell x 0) = 1))
              (opt (RUN E 26 [x]) fun ρ7 =>
                cond (bif D.toBool (List.getD ρ7 0 D.no) then false else true)
                  (some [D.bool false])
                  NX)
              (cond (decide (D.toInt (D.cell x 0) = 2))
                (opt (cond (bif decide ((↑(List.length (D.toList (D.cell x 5))) : Int) = 0) then false else true)
                    (RUN E 26 [x])
                    (some [])) fun ρ8 =>
                  cond (bif decide ((↑(List.length (D.toList (D.cell x 5))) : Int) = 0) then true else bif D.toBool (List.getD ρ8 0 D.no) then false else true)
                    (some [D.bool false])
                    NX)
                (cond (decide (D.toInt (D.cell x 0) = 3))
                  (opt (RUN E 27 [x]) fun ρ9 =>
                    cond (bif D.toBool (List.getD ρ9 0 D.no) then false else true)
                      (some [D.bool false])
                      NX)
                  (cond (decide (D.toInt (D.cell x 0) = 7))
                    NX
                    (opt (cond (bif decide ((↑(List.length (D.toList (D.cell x 5))) : Int) = 0) then false else true)
                        (RUN E 14 [D.list (D.toList (D.cell x 5))])
                        (some [])) fun ρ10 =>
                      cond (bif decide ((↑(List.length (D.toList (D.cell x 5))) : Int) = 0) then true else bif D.toBool (List.getD ρ10 0 D.no) then false else true)
                        (some [D.bool false])
                        NX)))))
            (cond (decide (D.toInt (D.cell x 0) = 10))
              (opt (RUN E 26 [x]) fun ρ7 =>
                cond (bif D.toBool (List.getD ρ7 0 D.no) then false else true)
                  (some [D.bool false])
                  NX)
              (cond (decide (D.toInt (D.cell x 0) = 2))
                (opt (cond (bif decide ((↑(List.length (D.toList (D.cell x 5))) : Int) = 0) then false else true)
                    (RUN E 26 [x])
                    (some [])) fun ρ8 =>
                  cond (bif decide ((↑(List.length (D.toList (D.cell x 5))) : Int) = 0) then true else bif D.toBool (List.getD ρ8 0 D.no) then false else true)
                    (some [D.bool false])
                    NX)
                (cond (decide (D.toInt (D.cell x 0) = 3))
                  (opt (RUN E 27 [x]) fun ρ9 =>
                    cond (bif D.toBool (List.getD ρ9 0 D.no) then false else true)
                      (some [D.bool false])
                      NX)
                  (cond (decide (D.toInt (D.cell x 0) = 7))
                    NX
                    (opt (cond (bif decide ((↑(List.length (D.toList (D.cell x 5))) : Int) = 0) then false else true)
                        (RUN E 14 [D.list (D.toList (D.cell x 5))])
                        (some [])) fun ρ10 =>
                      cond (bif decide ((↑(List.length (D.toList (D.cell x 5))) : Int) = 0) then true else bif D.toBool (List.getD ρ10 0 D.no) then false else true)
                        (some [D.bool false])
                        NX))))))
theorem gp2 {i n : Nat} (h : i ≤ n) (hn : n ≤ 4194304) (X : Bool) : (bif inb (IntKind.wrap IntKind.i64 ((i : Int) - 1)) n then true else bif bif bif decide ((0 : Int) < (i : Int)) then X else false then true else false then false else true) = true := by
  by_cases h0 : i = 0
  · subst h0
    cases inb (IntKind.wrap IntKind.i64 (((0 : Nat) : Int) - 1)) n <;> rfl
  · rw [wrap_id (by omega) (by omega), show (i : Int) - 1 = ((i - 1 : Nat) : Int) by omega, inb_nat (by omega)]; rfl
theorem gp3 {i n : Nat} (h : i ≤ n) (hn : n ≤ 4194304) (X Y : Bool) : (bif inb (IntKind.wrap IntKind.i64 ((i : Int) - 1)) n then true else bif bif bif bif decide ((0 : Int) < (i : Int)) then X else false then Y else false then true else false then false else true) = true := by
  by_cases h0 : i = 0
  · subst h0
    cases inb (IntKind.wrap IntKind.i64 (((0 : Nat) : Int) - 1)) n <;> rfl
  · rw [wrap_id (by omega) (by omega), show (i : Int) - 1 = ((i - 1 : Nat) : Int) by omega, inb_nat (by omega)]; rfl
theorem block {x : D} {k : Int} (hk : D.toInt (D.cell x 0) = k) (hm : dmass x ≤ 1048576) {ks : List D} (hks : D.toList (D.cell x 5) = ks) (hl : ks.length ≤ 1048576) (hmk : dmass.dmAll ks ≤ 1048576)
    (hB : k = 1 ∨ k = 2 ∨ k = 10 → Below k ks) (IH : ∃ b : Bool, RUN E 9 [.list ks] = some [.bool b] ∧ RUN E 14 [.list ks] = some [.bool b]) : ∃ q : Bool, RUN E 19 [x] = some [.bool q] ∧ ∀ NX : R, refx x NX = cond q NX (some [.bool false]) := by
  have hneg : decide ((ks.length : Int) = 0) = decide (ks = []) := zero_ne
  rw [enter19, hk, hks, pos_ne]
  unfold refx
  rw [hk, hks, hneg]
  by_cases h7 : k = 7
  · subst h7
    exact ⟨true, rfl, fun NX => rfl⟩
  by_cases h3 : k = 3
  · subst h3
    obtain ⟨b, f1, f2⟩ := fence hm
    rw [f1, f2]
    exact ⟨b, rfl, fun NX => by cases b <;> rfl⟩
  by_cases h1 : k = 1
  · obtain ⟨b, f1, f2⟩ := line hk (.inl h1) hks hl hmk (hB (.inl h1))
    rw [f1, f2]
    subst h1
    exact ⟨b, rfl, fun NX => by cases b <;> rfl⟩
  by_cases h2 : k = 2
  · obtain ⟨b, f1, f2⟩ := line hk (.inr (.inl h2)) hks hl hmk (hB (.inr (.inl h2)))
    rw [f1, f2]
    subst h2
    cases decide (ks = []) with
    | true => exact ⟨false, rfl, fun NX => rfl⟩
    | false => exact ⟨b, rfl, fun NX => by cases b <;> rfl⟩
  by_cases h5 : k = 10
  · obtain ⟨b, f1, f2⟩ := line hk (.inr (.inr h5)) hks hl hmk (hB (.inr (.inr h5)))
    rw [f1, f2]
    subst h5
    exact ⟨b, rfl, fun NX => by cases b <;> rfl⟩
  obtain ⟨b, f1, f2⟩ := IH
  rw [f1, f2, dec_f h7, dec_f h3, dec_f h1, dec_f h2, dec_f h5]
  cases decide (ks = []) with
  | true => exact ⟨false, rfl, fun NX => rfl⟩
  | false => exact ⟨b, rfl, fun NX => by cases b <;> rfl⟩
theorem blocks : ∀ ks, AllN ks → dmass.dmAll ks ≤ 1048576 → ∀ p, RUN E 13 [.list ks, .int p] = some [.int 0] → ∃ b : Bool, RUN E 9 [.list ks] = some [.bool b] ∧ RUN E 14 [.list ks] = some [.bool b] := by
  refine doc_ind (S := fun ks => dmass.dmAll ks ≤ 1048576 → ∀ p, RUN E 13 [.list ks, .int p] = some [.int 0] → ∃ b : Bool, RUN E 9 [.list ks] = some [.bool b] ∧ RUN E 14 [.list ks] = some [.bool b]) fun ks hN hS hm p hv => ?_
  have hlen : ks.length ≤ 1048576 := Nat.le_trans (len_le hN) hm
  have hval := valid hN hm hv
  have hel : ∀ i, i < ks.length → ∃ q : Bool, RUN E 19 [ks.getD i .no] = some [.bool q] ∧ ∀ NX : R, refx (ks.getD i .no) NX = cond q NX (some [.bool false]) := by
    intro i hi
    obtain ⟨v1, v2⟩ := hval i hi
    have hg : ks.getD i .no = ks[i] := getD_eq ks i .no hi
    have hx := hN ks[i] (List.getElem_mem hi)
    have hdm : dmass ks[i] ≤ 1048576 := by rw [← hg]; exact Nat.le_trans (mass_getD ks i) hm
    have hmk := mass_nd hx
    have hSx := hS ks[i] (List.getElem_mem hi)
    rw [hg]
    have hkl := len_le hx.kids
    exact block rfl hdm (ks := kidsOf ks[i]) rfl (by omega) (by omega) (fun hk => below _ hx.kids (by omega) _ (by
      rcases hk with h | h | h
      · exact .inl h
      · exact .inr (.inl h)
      · exact .inr (.inr (.inl h))) v2) (hSx (by omega) _ v2)
  have loop : ∀ n i : Nat, i + n = ks.length → ∃ b : Bool, L9a ks ks (ks.length : Int) i = some [.bool b] ∧ L14a ks ks (ks.length : Int) i = some [.bool b] := by
    intro n
    induction n with
    | zero =>
      intro i hi
      have : i = ks.length := by omega
      subst this
      exact ⟨true, by rw [round9a, dec_f (by omega)]; rfl, by rw [round14a, dec_f (by omega)]; rfl⟩
    | succ n ih =>
      intro i hi
      have hil : i < ks.length := by omega
      obtain ⟨b1, g1, g2⟩ := ih (i + 1) (by omega)
      obtain ⟨q, q1, q2⟩ := hel i hil
      have q3 := q2 (L14a ks ks (ks.length : Int) (IntKind.wrap IntKind.i64 ((i : Int) + 1)))
      unfold refx at q3
      rw [round9a, round14a, dec_t (p := (i : Int) < (ks.length : Int)) (by omega), inb_nat hil, Int.toNat_natCast, gp2 (by omega) (by omega), gp3 (by omega) (by omega), q1, q3, nxt (by omega), g1, g2]
      simp only [cond_true]
      generalize (bif bif bif decide ((0 : Int) < (i : Int)) then decide (D.toInt (D.cell (ks.getD i .no) 0) = 5) else false then decide (D.toInt (D.cell (ks.getD (Int.toNat (IntKind.wrap IntKind.i64 ((i : Int) - 1))) .no) 0) = 5) else false then decide (D.toInt (D.cell (ks.getD i .no) 1) < 0) == decide (D.toInt (D.cell (ks.getD (Int.toNat (IntKind.wrap IntKind.i64 ((i : Int) - 1))) .no) 1) < 0) else false) = P
      cases P <;> cases q <;> cases b1 <;> exact ⟨_, rfl, rfl⟩
  obtain ⟨b, g1, g2⟩ := loop ks.length 0 (Nat.zero_add _)
  exact ⟨b, by rw [enter9]; exact g1, by rw [enter14]; exact g2⟩

theorem nd_rep {M : Mem} {k : KT} {v : Value} {d : D} (h : Rep tt M k v d) : (k = .agg 37 → Nd d) ∧ (k = .slice 37 → AllN d.toList) := by
  have h137 : lk 37 tt = some ⟨.agg 37, [.int .i64, .int .i64, .str, .str, .str, .slice 37], [(0, 3), (1, 3), (2, 9), (3, 9), (4, 9), (5, 22)], 88⟩ := by kernel_rfl
  induction h with
  | bool b => exact ⟨fun e => (by cases e), fun e => (by cases e)⟩
  | int k n h => exact ⟨fun e => (by cases e), fun e => (by cases e)⟩
  | str s h => exact ⟨fun e => (by cases e), fun e => (by cases e)⟩
  | nil e a cap h => exact ⟨fun e => (by cases e), fun _ x hx => (by cases hx)⟩
  | slice e ei ad cap xs vs h0 hc hm he hs hz hMM hr ih =>
    refine ⟨fun e => (by cases e), fun e1 x hx => ?_⟩
    injection e1 with e1
    subst e1
    rw [h137] at he; injection he with he; subst he
    obtain ⟨i, hi, rfl⟩ := List.getElem_of_mem hx
    exact (ih i hi).1 rfl
  | agg t ti cs ds ht hk hl hd hr ih =>
    refine ⟨fun e1 => ?_, fun e1 => (by cases e1)⟩
    injection e1 with e1
    subst e1
    rw [h137] at ht; injection ht with ht; subst ht
    match ds, cs, hd, hl, hr, ih with
    | [d0, d1, d2, d3, d4, d5], [c0, c1, c2, c3, c4, c5], _, _, hr, ih =>
      have r0 := hr 0 (by decide) (by simp) (by simp)
      have r1 := hr 1 (by decide) (by simp) (by simp)
      have r2 := hr 2 (by decide) (by simp) (by simp)
      have r3 := hr 3 (by decide) (by simp) (by simp)
      have r4 := hr 4 (by decide) (by simp) (by simp)
      have r5 := hr 5 (by decide) (by simp) (by simp)
      have i5 := (ih 5 (by decide) (by simp) (by simp)).2 rfl
      obtain ⟨_, q0, _⟩ := Rep.inv_int r0
      obtain ⟨_, q1, _⟩ := Rep.inv_int r1
      obtain ⟨s2, _, q2, _⟩ := Rep.inv_str r2
      obtain ⟨s3, _, q3, _⟩ := Rep.inv_str r3
      obtain ⟨s4, _, q4, _⟩ := Rep.inv_str r4
      obtain ⟨_, _, _, q5, _⟩ := Rep.inv_slice r5
      simp only [List.getElem_cons_zero, List.getElem_cons_succ] at q0 q1 q2 q3 q4 q5 i5
      rw [q0, q1, q2, q3, q4, q5]
      exact .mk _ _ _ _ _ _ i5
end chk
end Go.Proofs.YtlmfiknfkgdbpaaGreatDoor.pr
