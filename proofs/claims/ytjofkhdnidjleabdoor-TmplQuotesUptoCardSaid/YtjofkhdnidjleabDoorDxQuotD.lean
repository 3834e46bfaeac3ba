import Derived.Test.YtjofkhdnidjleabDoorDxQuotB
import Derived.Test.YtjofkhdnidjleabDoorDxQuotC
set_option linter.unusedVariables false
set_option linter.unusedSimpArgs false
namespace Go.Proofs.YtjofkhdnidjleabDoor.qt
open Go.Proofs.YtjofkhdnidjleabDoor.DS
namespace shows
open dates

theorem r55 (n : Int) : RUN E 55 [.int n] = some [.str (Lib.itoa n)] := (RUN_eq _ _ _).trans (by kernel_rfl)
theorem r69 (b : Bool) : RUN E 69 [.bool b] = RUN E 54 [.bool b] := by rw [enter69, enter54, enter73]; cases b <;> rfl
theorem r69s (b : Bool) : ∃ s, RUN E 54 [.bool b] = some [.str s] := by rw [enter54, enter73]; cases b <;> exact ⟨_, rfl⟩
theorem r75 (y : Nat) : RUN E 75 [.int (y : Int)] = some [.int ((yd y : Nat) : Int)] := by
  have e1 : decide (Int.tmod (y : Int) 4 = 0) = Nat.beq (y % 4) 0 := by
    have : Int.tmod (y : Int) 4 = ((y % 4 : Nat) : Int) := rfl
    rw [this, Bool.eq_iff_iff, decide_eq_true_eq, Nat.beq_eq]; omega
  have e2 : decide (Int.tmod (y : Int) 100 = 0) = Nat.beq (y % 100) 0 := by
    have : Int.tmod (y : Int) 100 = ((y % 100 : Nat) : Int) := rfl
    rw [this, Bool.eq_iff_iff, decide_eq_true_eq, Nat.beq_eq]; omega
  have e3 : decide (Int.tmod (y : Int) 400 = 0) = Nat.beq (y % 400) 0 := by
    have : Int.tmod (y : Int) 400 = ((y % 400 : Nat) : Int) := rfl
    rw [this, Bool.eq_iff_iff, decide_eq_true_eq, Nat.beq_eq]; omega
  rw [enter75, e1, e2, e3]
  unfold yd leap
  cases Nat.beq (y % 4) 0 <;> cases Nat.beq (y % 100) 0 <;> cases Nat.beq (y % 400) 0 <;> rfl
theorem dn (m k : Nat) : decide ((m : Int) = (k : Int)) = Nat.beq m k := by rw [Bool.eq_iff_iff, decide_eq_true_eq, Nat.beq_eq]; omega
theorem r76 (y m : Nat) : RUN E 76 [.int (y : Int), .int (m : Int)] = some [.int ((md y m : Nat) : Int)] := by
  have d2 : decide ((m : Int) = 2) = Nat.beq m 2 := dn m 2
  have d4 : decide ((m : Int) = 4) = Nat.beq m 4 := dn m 4
  have d6 : decide ((m : Int) = 6) = Nat.beq m 6 := dn m 6
  have d9 : decide ((m : Int) = 9) = Nat.beq m 9 := dn m 9
  have d11 : decide ((m : Int) = 11) = Nat.beq m 11 := dn m 11
  rw [enter76, d2, d4, d6, d9, d11, r75]
  unfold md yd
  cases Nat.beq m 2 <;> cases leap y <;> cases Nat.beq m 4 <;> cases Nat.beq m 6 <;> cases Nat.beq m 9 <;> cases Nat.beq m 11 <;> rfl

/-! ### Two digits, four digits -/
def two (n : Nat) : List UInt8 := bif Nat.ble 10 n then Lib.decDigits n else 48 :: Lib.decDigits n
theorem itoa_nat (n : Nat) : Lib.itoa (n : Int) = Lib.decDigits n := by unfold Lib.itoa; rw [if_neg (by omega)]; rfl
theorem len1 {n : Nat} (h : n < 10) : (Lib.decDigits n).length = 1 := by rw [Lib.decDigits_one h]; rfl
theorem len2 {n : Nat} (h1 : ¬ n < 10) (h2 : n < 100) : (Lib.decDigits n).length = 2 := by rw [Lib.decDigits_two h1 h2]; rfl
theorem len4 {n : Nat} (h1 : 1000 ≤ n) (h2 : n < 10000) : (Lib.decDigits n).length = 4 := by rw [Lib.decDigits_length]; exact Lib.nDigits_unique 3 n h1 h2
theorem two_len {n : Nat} (h : n < 100) : (two n).length = 2 := by
  unfold two
  by_cases h1 : n < 10
  · rw [show Nat.ble 10 n = false by rw [Bool.eq_false_iff]; intro e; have := Nat.le_of_ble_eq_true e; omega]; simp [len1 h1]
  · rw [show Nat.ble 10 n = true from Nat.ble_eq_true_of_le (by omega)]; exact len2 h1 h
theorem r77 {n : Nat} (h : n < 100) : RUN E 77 [.int (n : Int)] = some [.str (two n)] := by
  rw [enter77, r55, itoa_nat]
  unfold two
  by_cases h1 : n < 10
  · rw [show Nat.ble 10 n = false by rw [Bool.eq_false_iff]; intro e; have := Nat.le_of_ble_eq_true e; omega, dec_t (by omega)]
    simp only [opt_s, List.getD_cons_zero, tS, cond_true, cond_false]
    rw [lim_t (by simp [len1 h1])]; rfl
  · rw [show Nat.ble 10 n = true from Nat.ble_eq_true_of_le (by omega), dec_f (by omega)]; rfl
theorem pad_end {w : Int} {s : List UInt8} (h : w ≤ (s.length : Int)) : L71a w s = some [.str s] := by rw [round71a, dec_f (by omega)]; rfl
theorem r71_2 {n : Nat} (h : n < 100) : RUN E 71 [.int (n : Int), .int 2] = some [.str (two n)] := by
  rw [enter71, r55, itoa_nat]
  simp only [opt_s, List.getD_cons_zero, tS]
  unfold two
  by_cases h1 : n < 10
  · rw [show Nat.ble 10 n = false by rw [Bool.eq_false_iff]; intro e; have := Nat.le_of_ble_eq_true e; omega]
    rw [round71a, dec_t (by rw [len1 h1]; decide), lim_t (by simp [len1 h1])]
    exact pad_end (by simp [len1 h1])
  · rw [show Nat.ble 10 n = true from Nat.ble_eq_true_of_le (by omega)]
    exact pad_end (by rw [len2 h1 h]; decide)
theorem r71_4 {n : Nat} (h1 : 1000 ≤ n) (h2 : n < 10000) : RUN E 71 [.int (n : Int), .int 4] = some [.str (Lib.decDigits n)] := by
  rw [enter71, r55, itoa_nat]
  show L71a 4 (Lib.decDigits n) = _
  exact pad_end (by rw [len4 h1 h2]; decide)
def day (y m d : Nat) : List UInt8 := Lib.decDigits y ++ [45] ++ two m ++ [45] ++ two d

/-! ### The program's date -/
def dateL (n : Int) : R :=
  let w := IntKind.wrap IntKind.i64
  let z := w (n + 719468)
  let era := w (Int.tdiv z 146097)
  let doe := w (z - w (era * 146097))
  let yoe := w (Int.tdiv (w (w (w (doe - w (Int.tdiv doe 1460)) + w (Int.tdiv doe 36524)) - w (Int.tdiv doe 146096))) 365)
  let doy := w (doe - w (w (w (365 * yoe) + w (Int.tdiv yoe 4)) - w (Int.tdiv yoe 100)))
  let mp := w (Int.tdiv (w (w (5 * doy) + 2)) 153)
  let d := w (w (doy - w (Int.tdiv (w (w (153 * mp) + 2)) 5)) + 1)
  let m := w (mp + 3)
  let y := w (yoe + w (era * 400))
  cond (decide (12 < m)) (cond (decide (w (m - 12) ≤ 2)) (some [.int (w (y + 1)), .int (w (m - 12)), .int d]) (some [.int y, .int (w (m - 12)), .int d]))
    (cond (decide (m ≤ 2)) (some [.int (w (y + 1)), .int m, .int d]) (some [.int y, .int m, .int d]))
theorem r70 (n : Int) : RUN E 70 [.int n] = dateL n := (RUN_eq _ _ _).trans (by kernel_rfl)
theorem td (a b : Nat) : Int.tdiv (a : Int) (b : Int) = ((a / b : Nat) : Int) := rfl
theorem wn {i : Int} {n : Nat} (h : i = (n : Int)) (hn : n ≤ 4611686018427387904) : IntKind.wrap IntKind.i64 i = (n : Int) := by rw [wrap_id (by omega) (by omega)]; exact h
theorem eA {n z era doe : Nat} (hn : n ≤ 84005) (hz : z = n + 719468) (he : era = z / 146097) (hd : doe = z % 146097) :
    IntKind.wrap IntKind.i64 ((n : Int) + 719468) = (z : Int) ∧ IntKind.wrap IntKind.i64 (Int.tdiv (z : Int) 146097) = (era : Int) ∧ IntKind.wrap IntKind.i64 ((era : Int) * 146097) = ((era * 146097 : Nat) : Int) ∧ IntKind.wrap IntKind.i64 ((z : Int) - ((era * 146097 : Nat) : Int)) = (doe : Int) ∧ doe ≤ 146096 ∧ era ≤ 6 :=
  ⟨wn (by omega) (by omega), wn (by rw [he]; rfl) (by omega), wn (by omega) (by omega), wn (by omega) (by omega), by omega, by omega⟩
theorem eB {doe a : Nat} (hd : doe ≤ 146096) (ha : a = doe + doe / 36524 - doe / 1460 - doe / 146096) :
    IntKind.wrap IntKind.i64 (Int.tdiv (doe : Int) 1460) = ((doe / 1460 : Nat) : Int) ∧ IntKind.wrap IntKind.i64 (Int.tdiv (doe : Int) 36524) = ((doe / 36524 : Nat) : Int) ∧ IntKind.wrap IntKind.i64 (Int.tdiv (doe : Int) 146096) = ((doe / 146096 : Nat) : Int) ∧
    IntKind.wrap IntKind.i64 ((doe : Int) - ((doe / 1460 : Nat) : Int)) = ((doe - doe / 1460 : Nat) : Int) ∧ IntKind.wrap IntKind.i64 (((doe - doe / 1460 : Nat) : Int) + ((doe / 36524 : Nat) : Int)) = ((doe - doe / 1460 + doe / 36524 : Nat) : Int) ∧
    IntKind.wrap IntKind.i64 (((doe - doe / 1460 + doe / 36524 : Nat) : Int) - ((doe / 146096 : Nat) : Int)) = (a : Int) ∧ a ≤ 200000 :=
  ⟨wn rfl (by omega), wn rfl (by omega), wn rfl (by omega), wn (by omega) (by omega), wn (by omega) (by omega), wn (by omega) (by omega), by omega⟩
theorem eC {a yoe q : Nat} (ha : a ≤ 200000) (hy : yoe = a / 365) (hq : q = 365 * yoe + yoe / 4 - yoe / 100) :
    IntKind.wrap IntKind.i64 (Int.tdiv (a : Int) 365) = (yoe : Int) ∧ IntKind.wrap IntKind.i64 (365 * (yoe : Int)) = ((365 * yoe : Nat) : Int) ∧ IntKind.wrap IntKind.i64 (Int.tdiv (yoe : Int) 4) = ((yoe / 4 : Nat) : Int) ∧ IntKind.wrap IntKind.i64 (Int.tdiv (yoe : Int) 100) = ((yoe / 100 : Nat) : Int) ∧
    IntKind.wrap IntKind.i64 (((365 * yoe : Nat) : Int) + ((yoe / 4 : Nat) : Int)) = ((365 * yoe + yoe / 4 : Nat) : Int) ∧ IntKind.wrap IntKind.i64 (((365 * yoe + yoe / 4 : Nat) : Int) - ((yoe / 100 : Nat) : Int)) = (q : Int) ∧ yoe ≤ 1000 :=
  ⟨wn (by rw [hy]; rfl) (by omega), wn (by omega) (by omega), wn rfl (by omega), wn rfl (by omega), wn (by omega) (by omega), wn (by omega) (by omega), by omega⟩
theorem eD {doe q doy mp d : Nat} (hd : doe ≤ 146096) (h1 : q ≤ doe) (hdo : doy = doe - q) (hm : mp = (5 * doy + 2) / 153) (h2 : doy + 1 = d + (153 * mp + 2) / 5) :
    IntKind.wrap IntKind.i64 ((doe : Int) - (q : Int)) = (doy : Int) ∧ IntKind.wrap IntKind.i64 (5 * (doy : Int)) = ((5 * doy : Nat) : Int) ∧ IntKind.wrap IntKind.i64 (((5 * doy : Nat) : Int) + 2) = ((5 * doy + 2 : Nat) : Int) ∧ IntKind.wrap IntKind.i64 (Int.tdiv ((5 * doy + 2 : Nat) : Int) 153) = (mp : Int) ∧
    IntKind.wrap IntKind.i64 (153 * (mp : Int)) = ((153 * mp : Nat) : Int) ∧ IntKind.wrap IntKind.i64 (((153 * mp : Nat) : Int) + 2) = ((153 * mp + 2 : Nat) : Int) ∧ IntKind.wrap IntKind.i64 (Int.tdiv ((153 * mp + 2 : Nat) : Int) 5) = (((153 * mp + 2) / 5 : Nat) : Int) ∧
    IntKind.wrap IntKind.i64 (IntKind.wrap IntKind.i64 ((doy : Int) - (((153 * mp + 2) / 5 : Nat) : Int)) + 1) = (d : Int) ∧ mp ≤ 10000 :=
  ⟨wn (by omega) (by omega), wn (by omega) (by omega), wn (by omega) (by omega), wn (by rw [hm]; rfl) (by omega), wn (by omega) (by omega), wn (by omega) (by omega), wn rfl (by omega),
    by rw [wrap_id (i := (doy : Int) - (((153 * mp + 2) / 5 : Nat) : Int)) (by omega) (by omega)]; exact wn (by omega) (by omega), by omega⟩
theorem eE {era yoe mp : Nat} (h1 : era ≤ 6) (h2 : yoe ≤ 1000) (h3 : mp ≤ 10000) :
    IntKind.wrap IntKind.i64 ((mp : Int) + 3) = ((mp + 3 : Nat) : Int) ∧ IntKind.wrap IntKind.i64 ((era : Int) * 400) = ((era * 400 : Nat) : Int) ∧ IntKind.wrap IntKind.i64 ((yoe : Int) + ((era * 400 : Nat) : Int)) = ((yoe + era * 400 : Nat) : Int) ∧
    IntKind.wrap IntKind.i64 (((yoe + era * 400 : Nat) : Int) + 1) = ((yoe + era * 400 + 1 : Nat) : Int) :=
  ⟨wn (by omega) (by omega), wn (by omega) (by omega), wn (by omega) (by omega), wn (by omega) (by omega)⟩
theorem ble_f {a b : Nat} (h : ¬ a ≤ b) : Nat.ble a b = false := by rw [Bool.eq_false_iff]; intro e; exact h (Nat.le_of_ble_eq_true e)
theorem end_ok {mp m d Y y : Nat} (b : mp ≤ 10000) (h3 : (bif Nat.ble (mp + 3) 12 then mp + 3 else mp - 9) = m) (h4 : (bif Nat.ble m 2 then Y + 1 else Y) = y) :
    cond (decide (12 < ((mp + 3 : Nat) : Int))) (cond (decide (IntKind.wrap IntKind.i64 (((mp + 3 : Nat) : Int) - 12) ≤ 2)) (some [D.int ((Y + 1 : Nat) : Int), .int (IntKind.wrap IntKind.i64 (((mp + 3 : Nat) : Int) - 12)), .int (d : Int)]) (some [.int (Y : Int), .int (IntKind.wrap IntKind.i64 (((mp + 3 : Nat) : Int) - 12)), .int (d : Int)]))
      (cond (decide (((mp + 3 : Nat) : Int) ≤ 2)) (some [.int ((Y + 1 : Nat) : Int), .int ((mp + 3 : Nat) : Int), .int (d : Int)]) (some [.int (Y : Int), .int ((mp + 3 : Nat) : Int), .int (d : Int)])) = some [.int (y : Int), .int (m : Int), .int (d : Int)] := by
  by_cases c : mp + 3 ≤ 12
  · rw [Nat.ble_eq_true_of_le c] at h3
    simp only [cond_true] at h3
    rw [dec_f (p := (12 : Int) < _) (by omega), cond_false, dec_f (by omega), cond_false]
    rw [ble_f (by omega), cond_false] at h4
    rw [h3, h4]
  · rw [ble_f c, cond_false] at h3
    have e29 : IntKind.wrap IntKind.i64 (((mp + 3 : Nat) : Int) - 12) = (m : Int) := wn (by omega) (by omega)
    rw [dec_t (p := (12 : Int) < _) (by omega), cond_true, e29]
    by_cases c2 : m ≤ 2
    · rw [Nat.ble_eq_true_of_le c2, cond_true] at h4
      rw [dec_t (by omega), cond_true, h4]
    · rw [ble_f c2, cond_false] at h4
      rw [dec_f (by omega), cond_false, h4]
theorem date_ok {n y m d : Nat} (hn : n ≤ 84005) (h : okN n y m d = true) : dateL (n : Int) = some [.int (y : Int), .int (m : Int), .int (d : Int)] := by
  unfold okN at h
  simp only [Bool.and_eq_true, Nat.beq_eq] at h
  obtain ⟨⟨⟨h1, h2⟩, h3⟩, h4⟩ := h
  replace h1 := Nat.le_of_ble_eq_true h1
  obtain ⟨e1, e2, e3, e4, b1, b2⟩ := eA hn rfl rfl rfl
  obtain ⟨e5, e6, e7, e8, e9, e10, b3⟩ := eB b1 rfl
  obtain ⟨e11, e12, e13, e14, e15, e16, b4⟩ := eC b3 rfl rfl
  obtain ⟨e17, e18, e19, e20, e21, e22, e23, e24, b6⟩ := eD b1 h1 rfl rfl h2
  obtain ⟨e25, e26, e27, e28⟩ := eE b2 b4 b6
  have := end_ok (d := d) b6 h3 h4
  generalize (5 * ((n + 719468) % 146097 - (365 * (((n + 719468) % 146097 + (n + 719468) % 146097 / 36524 - (n + 719468) % 146097 / 1460 - (n + 719468) % 146097 / 146096) / 365) + ((n + 719468) % 146097 + (n + 719468) % 146097 / 36524 - (n + 719468) % 146097 / 1460 - (n + 719468) % 146097 / 146096) / 365 / 4 - ((n + 719468) % 146097 + (n + 719468) % 146097 / 36524 - (n + 719468) % 146097 / 1460 - (n + 719468) % 146097 / 146096) / 365 / 100)) + 2) / 153 = mp at *
  unfold dateL
  simp only [e1, e2, e3, e4, e5, e6, e7, e8, e9, e10, e11, e12, e13, e14, e15, e16, e17, e18, e19, e20, e21, e22, e23, e24, e25, e26, e27, e28]
  exact this

/-! ### The reference's date -/
theorem fin_ok {y m d' : Nat} (h1 : 1970 ≤ y) (h2 : y < 2200) (hm : m < 100) (hd : d' < 99) (hlt : d' < md y m) :
    L57b (d' : Int) (y : Int) (m : Int) = some [.str (day y m (d' + 1)), .int (y : Int), .int (m : Int), .int ((d' + 1 : Nat) : Int)] := by
  have l4 := len4 (n := y) (by omega) (by omega)
  have l2 := two_len (n := m) hm
  have l3 := two_len (n := d' + 1) (by omega)
  rw [round57b, r76, r55, itoa_nat, r77 hm, nxt (i := d') (by omega), r77 (n := d' + 1) (by omega)]
  simp only [opt_s, List.getD_cons_zero, tI, tS]
  rw [dec_f (by omega), cond_false]
  rw [lim_t (by simp [l4]), cond_true, lim_t (by simp [l4, l2]), cond_true, lim_t (by simp [l4, l2]), cond_true, lim_t (by simp [l4, l2, l3]), cond_true]
  rfl
theorem months {y : Nat} (h1 : 1970 ≤ y) (h2 : y < 2200) : ∀ k m s, chkM y k m s = true → m + k ≤ 13 → ∀ d, d < tm y k m →
    ∃ m' d', L57b (d : Int) (y : Int) (m : Int) = some [.str (day y m' d'), .int (y : Int), .int (m' : Int), .int (d' : Int)] ∧ okN (s + d) y m' d' = true ∧ m' < 100 ∧ d' < 100 := by
  intro k
  induction k with
  | zero => intro m s _ _ d hd; simp [tm] at hd
  | succ k ih =>
    intro m s hc hm d hd
    simp only [chkM, Bool.and_eq_true] at hc
    have hle := md_le y m
    by_cases hlt : d < md y m
    · exact ⟨m, d + 1, fin_ok h1 h2 (by omega) (by omega) hlt, chkD_at _ hc.1 d hlt, by omega, by omega⟩
    · simp only [tm] at hd
      obtain ⟨m', d', e, ho, b1, b2⟩ := ih (m + 1) (s + md y m) hc.2 (by omega) (d - md y m) (by omega)
      refine ⟨m', d', ?_, by rw [show s + d = s + md y m + (d - md y m) by omega]; exact ho, b1, b2⟩
      have hw : IntKind.wrap IntKind.i64 ((d : Int) - ((md y m : Nat) : Int)) = ((d - md y m : Nat) : Int) := by
        have hd2 : d ≤ 100000 ∨ 100000 < d := by omega
        rcases hd2 with hd2 | hd2
        · exact wn (by omega) (by omega)
        · exfalso
          have : ∀ k m, tm y k m ≤ 31 * k := by
            intro k
            induction k with
            | zero => intro m; simp [tm]
            | succ k ih => intro m; have := ih (m + 1); have := md_le y m; simp only [tm]; omega
          have := this k (m + 1)
          omega
      rw [round57b, r76]
      simp only [opt_s, List.getD_cons_zero, tI]
      rw [dec_t (by omega), cond_true, hw, nxt (by omega)]
      exact e
theorem years : ∀ k y s, chkY k y s = true → 1970 ≤ y → y + k ≤ 2200 → ∀ d, d ≤ 84005 → d < ty k y →
    ∃ y' m' d', L57a (d : Int) (y : Int) = some [.str (day y' m' d'), .int (y' : Int), .int (m' : Int), .int (d' : Int)] ∧ okN (s + d) y' m' d' = true ∧ 1970 ≤ y' ∧ y' < 2200 ∧ m' < 100 ∧ d' < 100 := by
  intro k
  induction k with
  | zero => intro y s _ _ _ d _ hd; simp [ty] at hd
  | succ k ih =>
    intro y s hc h1 h2 d hd0 hd
    simp only [chkY, Bool.and_eq_true] at hc
    by_cases hlt : d < yd y
    · obtain ⟨m', d', e, ho, b1, b2⟩ := months h1 (by omega) 12 1 s hc.1 (by omega) d (by rw [tm_year]; exact hlt)
      refine ⟨y, m', d', ?_, ho, h1, by omega, b1, b2⟩
      rw [round57a, r75]
      simp only [opt_s, List.getD_cons_zero, tI]
      rw [dec_f (by omega), cond_false]
      exact e
    · simp only [ty] at hd
      obtain ⟨y', m', d', e, ho, b⟩ := ih (y + 1) (s + yd y) hc.2 (by omega) (by omega) (d - yd y) (by omega) (by omega)
      refine ⟨y', m', d', ?_, by rw [show s + d = s + yd y + (d - yd y) by omega]; exact ho, b⟩
      rw [round57a, r75]
      simp only [opt_s, List.getD_cons_zero, tI]
      have hw : IntKind.wrap IntKind.i64 ((d : Int) - ((yd y : Nat) : Int)) = ((d - yd y : Nat) : Int) := wn (by omega) (by omega)
      rw [dec_t (by omega), cond_true, hw, nxt (by omega)]
      exact e
theorem dates {n : Nat} (hn : n ≤ 84005) : ∃ y m d : Nat, RUN E 70 [.int (n : Int)] = some [.int (y : Int), .int (m : Int), .int (d : Int)] ∧ RUN E 57 [.int (n : Int)] = some [.str (day y m d), .int (y : Int), .int (m : Int), .int (d : Int)] ∧ 1970 ≤ y ∧ y < 2200 ∧ m < 100 ∧ d < 100 := by
  obtain ⟨y, m, d, e, ho, b⟩ := years 230 1970 0 chk (by omega) (by omega) n hn (by rw [total]; omega)
  rw [Nat.zero_add] at ho
  exact ⟨y, m, d, by rw [r70]; exact date_ok hn ho, by rw [enter57]; exact e, b⟩

theorem show_day {i : Int} (h0 : ¬ i < 0) (h1 : ¬ 84005 < i) : ∃ s,
    (opt (RUN E 70 [D.int i]) fun ρ7 =>
      opt (RUN E 71 [D.int (D.toInt (List.getD ρ7 0 D.no)), D.int 4]) fun ρ8 =>
      cond (decide (List.length (D.toStr (List.getD ρ8 0 D.no)) + List.length (([45] : List UInt8)) ≤ lim))
        (opt (RUN E 71 [D.int (D.toInt (List.getD ρ7 1 D.no)), D.int 2]) fun ρ10 =>
          cond (decide (List.length (D.toStr (List.getD ρ8 0 D.no) ++ ([45] : List UInt8)) + List.length (D.toStr (List.getD ρ10 0 D.no)) ≤ lim))
            (cond (decide (List.length (D.toStr (List.getD ρ8 0 D.no) ++ ([45] : List UInt8) ++ D.toStr (List.getD ρ10 0 D.no)) + List.length (([45] : List UInt8)) ≤ lim))
              (opt (RUN E 71 [D.int (D.toInt (List.getD ρ7 2 D.no)), D.int 2]) fun ρ13 =>
                cond (decide (List.length (D.toStr (List.getD ρ8 0 D.no) ++ ([45] : List UInt8) ++ D.toStr (List.getD ρ10 0 D.no) ++ ([45] : List UInt8)) + List.length (D.toStr (List.getD ρ13 0 D.no)) ≤ lim))
                  (some [D.str (D.toStr (List.getD ρ8 0 D.no) ++ ([45] : List UInt8) ++ D.toStr (List.getD ρ10 0 D.no) ++ ([45] : List UInt8) ++ D.toStr (List.getD ρ13 0 D.no)), D.int 0])
                  (none))
              (none))
            (none))
        (none)) = some [.str s, .int 0] ∧ (opt (RUN E 57 [D.int i]) fun ρ8 => some [D.str (D.toStr (List.getD ρ8 0 D.no)), D.int 0]) = some [.str s, .int 0] := by
  obtain ⟨n, rfl⟩ : ∃ n : Nat, i = (n : Int) := ⟨i.toNat, by omega⟩
  obtain ⟨y, m, d, e1, e2, b1, b2, b3, b4⟩ := dates (n := n) (by omega)
  have l4 := len4 (n := y) (by omega) (by omega)
  have l2 := two_len b3
  have l3 := two_len b4
  refine ⟨day y m d, ?_, by rw [e2]; rfl⟩
  rw [e1]
  show opt (RUN E 71 [.int (y : Int), .int 4]) _ = _
  rw [r71_4 (by omega) (by omega)]
  simp only [opt_s, List.getD_cons_zero, tS]
  rw [lim_t (by simp [l4]), cond_true]
  show opt (RUN E 71 [.int (m : Int), .int 2]) _ = _
  rw [r71_2 b3]
  simp only [opt_s, List.getD_cons_zero, tS]
  rw [lim_t (by simp [l4, l2]), cond_true, lim_t (by simp [l4, l2]), cond_true]
  show opt (RUN E 71 [.int (d : Int), .int 2]) _ = _
  rw [r71_2 b4]
  simp only [opt_s, List.getD_cons_zero, tS]
  rw [lim_t (by simp [l4, l2, l3]), cond_true]
  rfl

theorem show_dayB {i : Int} (h0 : ¬ i < 0) (h1 : ¬ 84005 < i) : ∃ s,
    (opt (RUN E 70 [D.int i]) fun ρ7 =>
      opt (RUN E 71 [D.int (D.toInt (List.getD ρ7 0 D.no)), D.int 4]) fun ρ8 =>
      cond (decide (List.length (D.toStr (List.getD ρ8 0 D.no)) + List.length (([45] : List UInt8)) ≤ lim))
        (opt (RUN E 71 [D.int (D.toInt (List.getD ρ7 1 D.no)), D.int 2]) fun ρ10 =>
          cond (decide (List.length (D.toStr (List.getD ρ8 0 D.no) ++ ([45] : List UInt8)) + List.length (D.toStr (List.getD ρ10 0 D.no)) ≤ lim))
            (cond (decide (List.length (D.toStr (List.getD ρ8 0 D.no) ++ ([45] : List UInt8) ++ D.toStr (List.getD ρ10 0 D.no)) + List.length (([45] : List UInt8)) ≤ lim))
              (opt (RUN E 71 [D.int (D.toInt (List.getD ρ7 2 D.no)), D.int 2]) fun ρ13 =>
                cond (decide (List.length (D.toStr (List.getD ρ8 0 D.no) ++ ([45] : List UInt8) ++ D.toStr (List.getD ρ10 0 D.no) ++ ([45] : List UInt8)) + List.length (D.toStr (List.getD ρ13 0 D.no)) ≤ lim))
                  (some [D.str (D.toStr (List.getD ρ8 0 D.no) ++ ([45] : List UInt8) ++ D.toStr (List.getD ρ10 0 D.no) ++ ([45] : List UInt8) ++ D.toStr (List.getD ρ13 0 D.no)), D.int 0])
                  (none))
              (none))
            (none))
        (none)) = some [.str s, .int 0] ∧ (opt (RUN E 57 [D.int i]) fun ρ8 => some [D.str (D.toStr (List.getD ρ8 0 D.no)), D.int 0]) = some [.str s, .int 0] ∧ s.length ≤ 20 := by
  obtain ⟨n, rfl⟩ : ∃ n : Nat, i = (n : Int) := ⟨i.toNat, by omega⟩
  obtain ⟨y, m, d, e1, e2, b1, b2, b3, b4⟩ := dates (n := n) (by omega)
  have l4 := len4 (n := y) (by omega) (by omega)
  have l2 := two_len b3
  have l3 := two_len b4
  refine ⟨day y m d, ?_, by rw [e2]; rfl, by simp [day, l4, l2, l3]⟩
  rw [e1]
  show opt (RUN E 71 [.int (y : Int), .int 4]) _ = _
  rw [r71_4 (by omega) (by omega)]
  simp only [opt_s, List.getD_cons_zero, tS]
  rw [lim_t (by simp [l4]), cond_true]
  show opt (RUN E 71 [.int (m : Int), .int 2]) _ = _
  rw [r71_2 b3]
  simp only [opt_s, List.getD_cons_zero, tS]
  rw [lim_t (by simp [l4, l2]), cond_true, lim_t (by simp [l4, l2]), cond_true]
  show opt (RUN E 71 [.int (d : Int), .int 2]) _ = _
  rw [r71_2 b4]
  simp only [opt_s, List.getD_cons_zero, tS]
  rw [lim_t (by simp [l4, l2, l3]), cond_true]
  rfl

theorem shown (v : D) : ∃ s e, RUN E 52 [v] = some [.str s, .int e] ∧ RUN E 36 [v] = some [.str s, .int e] := by
  have key : ∃ s e, (cond (bif decide (D.toInt (D.cell v 2) < 0) then true else decide (84005 < D.toInt (D.cell v 2))) (some [.str [], .int 2]) (some [.str s, .int 0]) : R) = some [.str s, .int e] := by
    by_cases h0 : D.toInt (D.cell v 2) < 0
    · exact ⟨[], 2, by rw [dec_t h0]; rfl⟩
    · by_cases h1 : 84005 < D.toInt (D.cell v 2)
      · exact ⟨[], 2, by rw [dec_f h0, dec_t h1]; rfl⟩
      · exact ⟨[], 0, by rw [dec_f h0, dec_f h1]; rfl⟩
  clear key
  obtain ⟨sb, hb⟩ := r69s (D.toBool (D.cell v 1))
  rw [enter52, enter36, r69, hb, r55, enter56]
  generalize D.toInt (D.cell v 0) = k
  by_cases h0 : D.toInt (D.cell v 2) < 0
  · rw [dec_t h0, dec_f (p := 0 ≤ D.toInt (D.cell v 2)) (by omega)]
    cases decide (k = 0) <;> cases decide (k = 1) <;> cases decide (k = 2) <;> cases decide (k = 3) <;> cases decide (k = 7) <;> cases decide (k = 4) <;> exact ⟨_, _, rfl, rfl⟩
  · by_cases h1 : 84005 < D.toInt (D.cell v 2)
    · rw [dec_f h0, dec_t h1, dec_t (p := 0 ≤ D.toInt (D.cell v 2)) (by omega), dec_f (p := D.toInt (D.cell v 2) ≤ 84005) (by omega)]
      cases decide (k = 0) <;> cases decide (k = 1) <;> cases decide (k = 2) <;> cases decide (k = 3) <;> cases decide (k = 7) <;> cases decide (k = 4) <;> exact ⟨_, _, rfl, rfl⟩
    · rw [dec_f h0, dec_f h1, dec_t (p := 0 ≤ D.toInt (D.cell v 2)) (by omega), dec_t (p := D.toInt (D.cell v 2) ≤ 84005) (by omega)]
      obtain ⟨s, e1, e2⟩ := show_day h0 h1
      cases decide (k = 0) <;> cases decide (k = 1) <;> cases decide (k = 2) <;> cases decide (k = 3) <;> cases decide (k = 7) <;> cases decide (k = 4) <;> first | exact ⟨_, _, rfl, rfl⟩ | exact ⟨s, 0, e1, e2⟩
end shows
end Go.Proofs.YtjofkhdnidjleabDoor.qt
