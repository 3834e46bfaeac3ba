/- Rows of inlines; lines. -/
import Derived.Test.YthbncndefigidaaDoorDxCkF
set_option linter.unusedVariables false
set_option linter.unusedSimpArgs false
namespace Go.Proofs.YthbncndefigidaaDoor.mc
open Go.Proofs.YthbncndefigidaaDoor.DS
namespace check
theorem valid {l : List D} (hN : AllN l) (hb : dmass.dmAll l ≤ 1048576) {p : Int} (h : RUN E 31 [.list l, .int p] = some [.int 0]) : ∀ j (hj : j < l.length), RUN E 53 [l[j], .int p] = some [.int 0] ∧ RUN E 31 [.list (kidsOf l[j]), .int (D.toInt (D.cell l[j] 0))] = some [.int 0] := by
  have hlen := len_le hN
  have loop : ∀ r i : Nat, i + r = l.length → L31a p l l.length i = some [.int 0] → ∀ j (hj : j < l.length), i ≤ j → RUN E 53 [l[j], .int p] = some [.int 0] ∧ RUN E 31 [.list (kidsOf l[j]), .int (D.toInt (D.cell l[j] 0))] = some [.int 0] := by
    intro r
    induction r with
    | zero => intro i hi _ j hj hij; omega
    | succ r ih =>
      intro i hi h j hj hij
      have hil : i < l.length := by omega
      have hx := hN l[i] (List.getElem_mem hil)
      have hdm := drop_mass hil
      have hdl := drop_le l i
      have hmx := mass_nd hx
      have hg : l.getD i .no = l[i] := getD_eq l i .no hil
      have hki : D.toList (D.cell l[i] 5) = kidsOf l[i] := rfl
      have hnext : IntKind.wrap .i64 ((i : Int) + 1) = ((i + 1 : Nat) : Int) := by rw [wrap_id (by omega) (by omega)]; omega
      obtain ⟨e1, g1, _⟩ := nodeEq2 hx (by omega) p
      obtain ⟨e2, g3, _⟩ := faults (kidsOf l[i]) hx.kids (by omega) (D.toInt (D.cell l[i] 0))
      rw [round31a, dec_t (show (i : Int) < (l.length : Int) by omega), inb_nat hil] at h
      simp only [cond_true, Int.toNat_natCast, hg, hki, g1, g3, opt_s, List.getD_cons_zero, tI, hnext] at h
      by_cases he1 : e1 = 0
      · by_cases he2 : e2 = 0
        · subst he1 he2
          simp only [dec_t, cond_true, cond_false] at h
          by_cases hij' : j = i
          · subst hij'; exact ⟨g1, g3⟩
          · exact ih (i + 1) (by omega) h j hj (by omega)
        · rw [dec_t he1, dec_f he2] at h
          simp only [cond_true, cond_false] at h
          injection h with h; injection h with h; injection h with h; exact absurd h he2
      · rw [dec_f he1] at h
        simp only [cond_true, cond_false] at h
        injection h with h; injection h with h; injection h with h; exact absurd h he1
  intro j hj
  rw [enter31] at h
  exact loop l.length 0 (by omega) h j hj (by omega)
end check
namespace chk
open check
theorem gprev {i n : Nat} (h : i ≤ n) (hn : n ≤ 4194304) : (bif inb (IntKind.wrap IntKind.i64 ((i : Int) - 1)) n then true else bif bif decide ((0 : Int) < (i : Int)) then true else false then false else true) = true := by
  by_cases h0 : i = 0
  · subst h0
    cases inb (IntKind.wrap IntKind.i64 (((0 : Nat) : Int) - 1)) n <;> rfl
  · rw [wrap_id (by omega) (by omega), show (i : Int) - 1 = ((i - 1 : Nat) : Int) by omega, inb_nat (by omega)]; rfl

theorem stepC {ks : List D} {w : D} {i : Nat} (hil : i < ks.length) (hl : ks.length ≤ 1048576) {pr c : Bool} (hp0 : i = 0 → pr = true) (hp : i ≠ 0 → RUN E 111 [ks.getD (i - 1) .no, ks.getD i .no] = some [.bool pr]) (hc : RUN E 112 [ks.getD i .no, w] = some [.bool c]) :
    L91a ks ks (ks.length : Int) i w = cond pr (cond c (L91a ks ks (ks.length : Int) ((i + 1 : Nat) : Int) w) (some [.bool false])) (some [.bool false]) := by
  rw [round91a, dec_t (by omega), inb_nat hil, gprev (by omega) (by omega), Int.toNat_natCast, nxt (by omega), hc]
  simp only [cond_true, opt_s, List.getD_cons_zero, tB]
  by_cases h0 : i = 0
  · rw [hp0 h0, dec_f (by omega)]
    cases c <;> rfl
  · rw [dec_t (by omega : (0 : Int) < (i : Int)), len1 h0 (by omega), Int.toNat_natCast, hp h0]
    simp only [cond_true, opt_s, List.getD_cons_zero, tB]
    cases pr <;> cases c <;> rfl
theorem stepR {ks : List D} {w : D} {p : Int} {i : Nat} (hil : i < ks.length) (hl : ks.length ≤ 1048576) {pr c : Bool} (hp0 : i = 0 → pr = true) (hp : i ≠ 0 → RUN E 95 [ks.getD (i - 1) .no, ks.getD i .no] = some [.bool pr]) (hc : RUN E 96 [ks.getD i .no, w] = some [.bool c]) :
    L74a ks p ks (ks.length : Int) i w = cond (((decide (i = 0) || decide (i + 1 = ks.length)) && !ok p (ks.getD i .no)) || (brk (D.toInt (D.cell (ks.getD i .no) 0)) && !D.toBool (D.cell w 4))) (some [.bool false]) (cond pr (cond c (L74a ks p ks (ks.length : Int) ((i + 1 : Nat) : Int) w) (some [.bool false])) (some [.bool false])) := by
  have d1 : decide ((i : Int) = 0) = decide (i = 0) := decide_eq_decide.2 (by omega)
  have d2 : decide ((i : Int) = ((ks.length - 1 : Nat) : Int)) = decide (i + 1 = ks.length) := decide_eq_decide.2 (by omega)
  rw [round74a, dec_t (by omega), inb_nat hil, gprev (by omega) (by omega), Int.toNat_natCast, nxt (by omega), hc, len1 (by omega : ks.length ≠ 0) (by omega), d1, d2]
  simp only [cond_true, opt_s, List.getD_cons_zero, tB, r93, r94]
  unfold ok
  have hpp : (opt (cond (bif decide ((0 : Int) < (i : Int)) then true else false) (RUN E 95 [ks.getD (Int.toNat (IntKind.wrap IntKind.i64 ((i : Int) - 1))) .no, ks.getD i .no]) (some [])) fun ρ8 =>
      cond (bif decide ((0 : Int) < (i : Int)) then bif D.toBool (List.getD ρ8 0 D.no) then false else true else false) (some [D.bool false]) (cond (bif c then false else true) (some [D.bool false]) (L74a ks p ks (ks.length : Int) ((i + 1 : Nat) : Int) w))) =
      cond pr (cond c (L74a ks p ks (ks.length : Int) ((i + 1 : Nat) : Int) w) (some [.bool false])) (some [.bool false]) := by
    by_cases h0 : i = 0
    · rw [hp0 h0, dec_f (by omega)]; cases c <;> rfl
    · rw [dec_t (by omega : (0 : Int) < (i : Int)), len1 h0 (by omega), Int.toNat_natCast, hp h0]
      simp only [cond_true, opt_s, List.getD_cons_zero, tB]
      cases pr <;> cases c <;> rfl
  rw [hpp]
  generalize (cond pr (cond c (L74a ks p ks (ks.length : Int) ((i + 1 : Nat) : Int) w) (some [D.bool false])) (some [D.bool false])) = X
  generalize decide (i = 0) = z1
  generalize decide (i + 1 = ks.length) = z2
  generalize brk (D.toInt (D.cell (ks.getD i .no) 0)) = B
  generalize star (D.toInt (D.cell (ks.getD i .no) 0)) = S
  generalize star p = P
  generalize D.toBool (D.cell w 4) = L
  cases z1 <;> cases z2 <;> cases B <;> cases S <;> cases P <;> cases L <;> rfl

theorem below : ∀ ks, AllN ks → dmass.dmAll ks ≤ 1048576 → ∀ p, par p → RUN E 31 [.list ks, .int p] = some [.int 0] → Below p ks := by
  refine doc_ind (S := fun ks => dmass.dmAll ks ≤ 1048576 → ∀ p, par p → RUN E 31 [.list ks, .int p] = some [.int 0] → Below p ks) fun ks hN hS hm p hp hv => ?_
  intro e s l kind
  have hlen : ks.length ≤ 1048576 := Nat.le_trans (len_le hN) hm
  have hval := valid hN hm hv
  have hel : ∀ i, i < ks.length → ∃ c' : Bool, RUN E 96 [ks.getD i .no, .agg [.bool e, .bool s, .bool l, .bool (decide (kind = 10)), .bool (decide (kind = 2))]] = some [.bool c'] ∧
      RUN E 112 [ks.getD i .no, .agg [.bool e, .bool s, .bool l, .int kind]] = some [.bool (c' && !(brk (D.toInt (D.cell (ks.getD i .no) 0)) && !decide (kind = 2)))] := by
    intro i hi
    obtain ⟨v1, v2⟩ := hval i hi
    have hg : ks.getD i .no = ks[i] := getD_eq ks i .no hi
    have hx := hN ks[i] (List.getElem_mem hi)
    have hdm : dmass ks[i] ≤ 1048576 := by rw [← hg]; exact Nat.le_trans (mass_getD ks i) hm
    have hmk := mass_nd hx
    have hSx := hS ks[i] (List.getElem_mem hi)
    rw [hg]
    generalize ks[i] = x at *
    cases hx with
    | mk k v t d ti kk hkk =>
      obtain ⟨o1, o2, o3, o4⟩ := okInl hp v1
      refine inl (x := .agg [.int k, .int v, .str t, .str d, .str ti, .list kk]) (k := k) rfl o1 o2 hdm o3 o4 (ks := kk) rfl ?_ ?_ e s l kind
      · have h1 : dmass.dmAll kk + 1 ≤ dmass (.agg [.int k, .int v, .str t, .str d, .str ti, .list kk]) := hmk
        have h2 : kk.length ≤ dmass.dmAll kk := len_le hkk
        omega
      · intro hk
        have h1 : dmass.dmAll kk + 1 ≤ dmass (.agg [.int k, .int v, .str t, .str d, .str ti, .list kk]) := hmk
        refine hSx (by show dmass.dmAll kk ≤ _; omega) k ?_ v2
        rcases hk with rfl | rfl | rfl
        · exact .inr (.inr (.inr (.inl rfl)))
        · exact .inr (.inr (.inr (.inr (.inl rfl))))
        · exact .inr (.inr (.inr (.inr (.inr rfl))))
  have hpair : ∀ i, i < ks.length → ∃ q : Bool, RUN E 111 [ks.getD (i - 1) .no, ks.getD i .no] = some [.bool q] ∧ RUN E 95 [ks.getD (i - 1) .no, ks.getD i .no] = some [.bool q] := fun i hi =>
    pairs _ _ (Nat.le_trans (mass_getD ks _) hm) (Nat.le_trans (mass_getD ks _) hm)
  have loop : ∀ n i : Nat, i + n = ks.length → ∃ b : Bool, L91a ks ks (ks.length : Int) i (.agg [.bool e, .bool s, .bool l, .int kind]) = some [.bool b] ∧
      (i < ks.length → L74a ks p ks (ks.length : Int) i (.agg [.bool e, .bool s, .bool l, .bool (decide (kind = 10)), .bool (decide (kind = 2))]) = some [.bool ((!decide (i = 0) || ok p (ks.getD 0 .no)) && (ok p (ks.getD (ks.length - 1) .no) && b))]) ∧
      (i = ks.length → L74a ks p ks (ks.length : Int) i (.agg [.bool e, .bool s, .bool l, .bool (decide (kind = 10)), .bool (decide (kind = 2))]) = some [.bool true] ∧ b = true) := by
    intro n
    induction n with
    | zero =>
      intro i hi
      have : i = ks.length := by omega
      subst this
      exact ⟨true, by rw [round91a, dec_f (by omega)]; rfl, fun h => absurd h (Nat.lt_irrefl _), fun _ => ⟨by rw [round74a, dec_f (by omega)]; rfl, rfl⟩⟩
    | succ n ih =>
      intro i hi
      have hil : i < ks.length := by omega
      obtain ⟨b1, g1, g2, g3⟩ := ih (i + 1) (by omega)
      obtain ⟨c', k1, k2⟩ := hel i hil
      obtain ⟨q, q1, q2⟩ := hpair i hil
      obtain ⟨pr, pr0, pr1, pr2⟩ : ∃ pr : Bool, (i = 0 → pr = true) ∧ (i ≠ 0 → RUN E 111 [ks.getD (i - 1) .no, ks.getD i .no] = some [.bool pr]) ∧ (i ≠ 0 → RUN E 95 [ks.getD (i - 1) .no, ks.getD i .no] = some [.bool pr]) := by
        by_cases h0 : i = 0
        · exact ⟨true, fun _ => rfl, fun h => absurd h0 h, fun h => absurd h0 h⟩
        · exact ⟨q, fun h => absurd h h0, fun _ => q1, fun _ => q2⟩
      have sC := stepC hil hlen pr0 pr1 k2
      have sR := stepR (p := p) hil hlen pr0 pr2 k1
      rw [g1] at sC
      refine ⟨pr && ((c' && !(brk (D.toInt (D.cell (ks.getD i .no) 0)) && !decide (kind = 2))) && b1), ?_, fun _ => ?_, fun h => absurd h (by omega)⟩
      · rw [sC]
        cases pr <;> cases (c' && !(brk (D.toInt (D.cell (ks.getD i .no) 0)) && !decide (kind = 2))) <;> rfl
      · rw [sR, c4, tB]
        have hok : ok p (ks.getD i .no) = true → brk (D.toInt (D.cell (ks.getD i .no) 0)) = false := by
          unfold ok
          cases brk (D.toInt (D.cell (ks.getD i .no) 0)) <;> simp
        by_cases hlast : i + 1 = ks.length
        · obtain ⟨m1, m2⟩ := g3 hlast
          rw [m1, m2, dec_t hlast]
          have hlx : ks.getD (ks.length - 1) .no = ks.getD i .no := by congr 1; omega
          rw [hlx]
          have hf : i = 0 → ok p (ks.getD 0 .no) = ok p (ks.getD i .no) := fun h => by rw [h]
          by_cases h0 : i = 0
          · rw [hf h0, dec_t h0]
            revert hok
            generalize ok p (ks.getD i .no) = O
            generalize brk (D.toInt (D.cell (ks.getD i .no) 0)) = B
            intro hok
            cases O with
            | false => cases B <;> cases decide (kind = 2) <;> rfl
            | true => rw [hok rfl]; cases pr <;> cases c' <;> rfl
          · rw [dec_f h0]
            revert hok
            generalize ok p (ks.getD i .no) = O
            generalize brk (D.toInt (D.cell (ks.getD i .no) 0)) = B
            intro hok
            cases O with
            | false => cases B <;> cases decide (kind = 2) <;> rfl
            | true => rw [hok rfl]; cases pr <;> cases c' <;> rfl
        · have m := g2 (by omega)
          rw [m, dec_f hlast, dec_f (by omega : ¬ i + 1 = 0)]
          by_cases h0 : i = 0
          · have hf : ok p (ks.getD 0 .no) = ok p (ks.getD i .no) := by rw [h0]
            rw [hf, dec_t h0]
            revert hok
            generalize ok p (ks.getD i .no) = O
            generalize ok p (ks.getD (ks.length - 1) .no) = OL
            generalize brk (D.toInt (D.cell (ks.getD i .no) 0)) = B
            intro hok
            cases O with
            | false => cases B <;> cases decide (kind = 2) <;> rfl
            | true => rw [hok rfl]; cases pr <;> cases c' <;> cases OL <;> cases b1 <;> rfl
          · rw [dec_f h0]
            generalize ok p (ks.getD i .no) = O
            generalize ok p (ks.getD (ks.length - 1) .no) = OL
            generalize brk (D.toInt (D.cell (ks.getD i .no) 0)) = B
            cases decide (kind = 2) <;> cases O <;> cases B <;> cases pr <;> cases c' <;> cases OL <;> cases b1 <;> rfl
  obtain ⟨b, g1, g2, g3⟩ := loop ks.length 0 (Nat.zero_add _)
  by_cases hs : ks = []
  · obtain ⟨m1, m2⟩ := g3 (by rw [hs]; rfl)
    refine ⟨b, true, by rw [enter91]; exact g1, by rw [enter74]; exact m1, fun h => absurd hs h, fun _ => ⟨rfl, m2⟩⟩
  · have h0 := ne_lenD hs
    refine ⟨b, _, by rw [enter91]; exact g1, by rw [enter74]; exact g2 (by omega), fun _ => ?_, fun h => absurd h hs⟩
    unfold ec
    cases ok p (ks.getD 0 .no) <;> cases ok p (ks.getD (ks.length - 1) .no) <;> rfl
end chk
end Go.Proofs.YthbncndefigidaaDoor.mc
