/- Inlines that can be printed: an inline; a row of inlines. -/
import Derived.Test.YtlmfiknfkgdbpaaGreatDoorDxPrB
import Derived.Test.YtlmfiknfkgdbpaaGreatDoorF9
set_option linter.unusedVariables false
set_option linter.unusedSimpArgs false
namespace Go.Proofs.YtlmfiknfkgdbpaaGreatDoor.pr
open Go.Proofs.YtlmfiknfkgdbpaaGreatDoor.DS
namespace check

theorem opt_s {α β : Type} (a : α) (f : α → Option β) : opt (some a) f = f a := rfl

theorem enter85 (s0 : List UInt8) (c1 : Int) : RUN E 85 [D.str s0, D.int c1] = some [D.int (Lib.indexByte s0 (Nat.toUInt8 (Int.toNat c1)))] := (RUN_eq _ _ _).trans (by kernel_rfl)
theorem enter60 (s0 : List UInt8) (c : UInt8) : RUN E 60 [D.str s0, D.str [c]] = some [D.bool (decide (0 ≤ Lib.indexByte s0 c))] := (RUN_eq _ _ _).trans (by kernel_rfl)
inductive Nd : D → Prop
  | mk (k l : Int) (t d ti : List UInt8) (ks : List D) (h : ∀ x ∈ ks, Nd x) : Nd (.agg [.int k, .int l, .str t, .str d, .str ti, .list ks])
def AllN (l : List D) : Prop := ∀ x ∈ l, Nd x
def kidsOf (x : D) : List D := (x.cell 5).toList
theorem doc_ind {S : List D → Prop} (step : ∀ ks, AllN ks → (∀ x ∈ ks, S (kidsOf x)) → S ks) : ∀ ks, AllN ks → S ks := by
  have key : ∀ x, Nd x → S (kidsOf x) := by
    intro x h
    induction h with
    | mk k l t d ti ks h ih => exact step ks h ih
  intro ks h
  exact step ks h fun x hx => key x (h x hx)
theorem Nd.kids {x : D} (h : Nd x) : AllN (kidsOf x) := by
  cases h with
  | mk k l t d ti ks h => exact h
theorem mass_nd {x : D} (h : Nd x) : dmass.dmAll (kidsOf x) + 1 ≤ dmass x := by
  cases h with
  | mk k l t d ti ks h => simp only [kidsOf, D.cell, D.cells, List.getD_cons_succ, List.getD_cons_zero, D.toList, dmass, dmass.dmAll]; omega
theorem len_le {l : List D} : AllN l → l.length ≤ dmass.dmAll l := by
  induction l with
  | nil => intro _; simp
  | cons x r ih =>
    intro h
    have h1 := mass_nd (h x List.mem_cons_self)
    have h2 := ih (fun y hy => h y (List.mem_cons_of_mem _ hy))
    simp only [dmass.dmAll, List.length_cons]; omega
theorem drop_mass {l : List D} {i : Nat} (h : i < l.length) : dmass.dmAll (l.drop i) = dmass l[i] + dmass.dmAll (l.drop (i + 1)) := by
  rw [List.drop_eq_getElem_cons h]; rfl
theorem drop_le (l : List D) : ∀ i, dmass.dmAll (l.drop i) ≤ dmass.dmAll l := by
  induction l with
  | nil => intro i; simp
  | cons x r ih =>
    intro i
    cases i with
    | zero => simp
    | succ i => have := ih i; simp only [List.drop_succ_cons, dmass.dmAll]; omega

/-- The number of nodes. -/
theorem nodes : ∀ l, AllN l → dmass.dmAll l ≤ 1048576 → ∃ n m : Int, RUN E 11 [.list l] = some [.int n] ∧ RUN E 16 [.list l] = some [.int m] ∧ 0 ≤ n ∧ n ≤ dmass.dmAll l ∧ 0 ≤ m ∧ m ≤ n ∧ (n ≤ 4000 → m = n) ∧ (4000 < n → 4000 < m) := by
  refine doc_ind ?_
  intro l hN hk hb
  have hlen := len_le hN
  have loop : ∀ r i : Nat, i + r = l.length → ∃ s : Int, 0 ≤ s ∧ s + (r : Int) ≤ dmass.dmAll (l.drop i) ∧ (∀ c : Int, 0 ≤ c → c + s ≤ 4194304 → L11a c l l.length i = some [.int (c + s)]) ∧
      ∀ a : Int, 0 ≤ a → a ≤ 4000 → ∃ m : Int, L16a l a l.length i = some [.int m] ∧ 0 ≤ m ∧ m ≤ a + r + s ∧ (a + r + s ≤ 4000 → m = a + r + s) ∧ (4000 < a + r + s → 4000 < m) := by
    intro r
    induction r with
    | zero =>
      intro i hi
      refine ⟨0, by omega, by simp, fun c h1 h2 => ?_, fun a h1 h2 => ⟨a, ?_, h1, by omega, fun _ => by omega, fun h => by omega⟩⟩
      · rw [round11a, dec_f (by omega)]; simp
      · rw [round16a, dec_f (by omega)]; simp
    | succ r ih =>
      intro i hi
      have hil : i < l.length := by omega
      have hx := hN l[i] (List.getElem_mem hil)
      have hdm := drop_mass hil
      have hdl := drop_le l i
      have hmx := mass_nd hx
      obtain ⟨n', m', e1, e2, e3, e4, e5, e6, e7, e8⟩ := hk l[i] (List.getElem_mem hil) (by omega)
      obtain ⟨s, f1, f2, f3, f4⟩ := ih (i + 1) (by omega)
      have hg : l.getD i .no = l[i] := getD_eq l i .no hil
      have hki : D.toList (D.cell l[i] 5) = kidsOf l[i] := rfl
      have hnext : IntKind.wrap .i64 ((i : Int) + 1) = ((i + 1 : Nat) : Int) := by rw [wrap_id (by omega) (by omega)]; omega
      refine ⟨n' + s, by omega, by omega, fun c h1 h3 => ?_, fun a h1 h2 => ?_⟩
      · rw [round11a, dec_t (by omega), inb_nat hil]
        simp only [cond_true, Int.toNat_natCast, hg, hki, e1, opt_s, List.getD_cons_zero, D.toInt, hnext]
        rw [wrap_id (by omega) (by omega), f3 _ (by omega) (by omega)]
        rw [Int.add_assoc]
      · rw [round16a, dec_t (by omega), inb_nat hil]
        simp only [cond_true, Int.toNat_natCast, hg, hki, e2, opt_s, List.getD_cons_zero, D.toInt, hnext]
        rw [wrap_id (i := a + 1) (by omega) (by omega), wrap_id (i := a + 1 + m') (by omega) (by omega)]
        by_cases g1 : 4000 < a + 1
        · rw [dec_t g1]
          exact ⟨_, rfl, by omega, by omega, fun h => by omega, fun _ => g1⟩
        · rw [dec_f g1]
          by_cases g2 : 4000 < a + 1 + m'
          · rw [dec_t g2]
            exact ⟨_, rfl, by omega, by omega, fun h => by omega, fun _ => g2⟩
          · rw [dec_f g2]
            obtain ⟨m, q1, q2, q3, q4, q5⟩ := f4 (a + 1 + m') (by omega) (by omega)
            have hm : n' = m' := by
              by_cases h : n' ≤ 4000
              · exact (e7 h).symm
              · have := e8 (by omega); omega
            subst hm
            exact ⟨m, q1, q2, by omega, fun h => by rw [q4 (by omega)]; omega, fun h => q5 (by omega)⟩
  obtain ⟨s, h1, h2, h3, h4⟩ := loop l.length 0 (by omega)
  obtain ⟨m, q1, q2, q3, q4, q5⟩ := h4 0 (by omega) (by omega)
  simp only [List.drop_zero] at h2
  refine ⟨l.length + s, m, ?_, ?_, by omega, by omega, q2, by omega, fun h => by rw [q4 (by omega)]; omega, fun h => q5 (by omega)⟩
  · rw [enter11]; exact h3 _ (by omega) (by omega)
  · rw [enter16]; exact q1

/-- How deep nodes are nested. -/
theorem deep : ∀ l, AllN l → dmass.dmAll l ≤ 1048576 → ∀ b n : Int, ∃ r : Bool, RUN E 12 [.list l, .int b, .int n] = some [.bool r] ∧ RUN E 17 [.list l, .int b, .int n] = some [.bool r] := by
  refine doc_ind ?_
  intro l hN hk hb b n
  have hlen := len_le hN
  have loop : ∀ r i : Nat, i + r = l.length → ∃ t : Bool, L12a b n l l.length i = some [.bool t] ∧ L17a l b n l.length i = some [.bool t] := by
    intro r
    induction r with
    | zero =>
      intro i hi
      refine ⟨false, ?_, ?_⟩
      · rw [round12a, dec_f (by omega)]; rfl
      · rw [round17a, dec_f (by omega)]; rfl
    | succ r ih =>
      intro i hi
      have hil : i < l.length := by omega
      have hx := hN l[i] (List.getElem_mem hil)
      have hdm := drop_mass hil
      have hdl := drop_le l i
      have hmx := mass_nd hx
      have hkid := hk l[i] (List.getElem_mem hil) (by omega)
      obtain ⟨t, f1, f2⟩ := ih (i + 1) (by omega)
      have hg : l.getD i .no = l[i] := getD_eq l i .no hil
      have hki : D.toList (D.cell l[i] 5) = kidsOf l[i] := rfl
      have hnext : IntKind.wrap .i64 ((i : Int) + 1) = ((i + 1 : Nat) : Int) := by rw [wrap_id (by omega) (by omega)]; omega
      rw [round12a, round17a, dec_t (show (i : Int) < (l.length : Int) by omega), inb_nat hil]
      simp only [cond_true, Int.toNat_natCast, hg, hki, enter24, enter34, opt_s, List.getD_cons_zero, D.toBool, hnext]
      generalize (bif decide (11 ≤ (D.cell l[i] 0).toInt) then decide ((D.cell l[i] 0).toInt ≤ 18) else false) = inl
      cases inl with
      | true =>
        obtain ⟨t', g1, g2⟩ := hkid b (IntKind.wrap .i64 (n + 1))
        simp only [cond_true, g1, g2]
        generalize (bif decide (12 < b) then true else decide (12 < IntKind.wrap .i64 (n + 1))) = c
        cases c with
        | true => exact ⟨true, rfl, rfl⟩
        | false =>
          simp only [cond_false, cond_true, opt_s, List.getD_cons_zero, D.toBool]
          cases t' with
          | true => exact ⟨true, rfl, rfl⟩
          | false => exact ⟨t, f1, f2⟩
      | false =>
        obtain ⟨t', g1, g2⟩ := hkid (IntKind.wrap .i64 (b + 1)) n
        simp only [cond_false, g1, g2, cond_true]
        generalize (bif decide (12 < IntKind.wrap .i64 (b + 1)) then true else decide (12 < n)) = c
        cases c with
        | true => exact ⟨true, rfl, rfl⟩
        | false =>
          simp only [cond_false, cond_true, opt_s, List.getD_cons_zero, D.toBool]
          cases t' with
          | true => exact ⟨true, rfl, rfl⟩
          | false => exact ⟨t, f1, f2⟩
  obtain ⟨t, h1, h2⟩ := loop l.length 0 (by omega)
  exact ⟨t, by rw [enter12]; exact h1, by rw [enter17]; exact h2⟩

/-- Bytes that are not permitted. -/
theorem bytes {p : List UInt8} {tab feed : Bool} (hp : ∀ c : UInt8, decide (Lib.indexByte p c < 0) = !((tab && decide ((c.toNat : Int) = 9)) || (feed && decide ((c.toNat : Int) = 10)))) (s : List UInt8) (hs : s.length ≤ 1048576) :
    ∃ r : Bool, RUN E 44 [.str s, .bool tab, .bool feed] = some [.bool r] ∧ RUN E 91 [.str s, .str p] = some [.bool r] := by
  have loop : ∀ r i : Nat, i + r = s.length → ∃ t : Bool, L44a s tab feed i = some [.bool t] ∧ L91a s p i = some [.bool t] := by
    intro r
    induction r with
    | zero =>
      intro i hi
      refine ⟨false, ?_, ?_⟩
      · rw [round44a, dec_f (by omega)]; rfl
      · rw [round91a, dec_f (by omega)]; rfl
    | succ r ih =>
      intro i hi
      have hil : i < s.length := by omega
      obtain ⟨t, f1, f2⟩ := ih (i + 1) (by omega)
      have hnext : IntKind.wrap .i64 ((i : Int) + 1) = ((i + 1 : Nat) : Int) := by rw [wrap_id (by omega) (by omega)]; omega
      rw [round44a, round91a, dec_t (show (i : Int) < (s.length : Int) by omega), inb_nat hil]
      simp only [cond_true, Int.toNat_natCast, hnext]
      obtain ⟨c, hc⟩ : ∃ c, c = s.getD i 0 := ⟨_, rfl⟩
      simp only [← hc]
      have hpc := hp c
      have hcc : Nat.toUInt8 (Int.toNat (c.toNat : Int)) = c := by simp
      simp only [enter85, hcc]
      by_cases h9 : (c.toNat : Int) < 32
      · simp only [dec_t h9, cond_true, opt_s, List.getD_cons_zero, D.toInt, hpc, f1, f2]
        generalize decide ((c.toNat : Int) = 9) = d9
        generalize decide ((c.toNat : Int) = 10) = d10
        cases tab <;> cases feed <;> cases d9 <;> cases d10 <;> first | exact ⟨true, rfl, rfl⟩ | exact ⟨t, rfl, rfl⟩
      · simp only [dec_f h9, cond_true, cond_false, opt_s]
        exact ⟨t, f1, f2⟩
  obtain ⟨t, h1, h2⟩ := loop s.length 0 (by omega)
  exact ⟨t, by rw [enter44]; exact h1, by rw [enter91]; exact h2⟩

theorem tB (b : Bool) : D.toBool (.bool b) = b := rfl
theorem tI (n : Int) : D.toInt (.int n) = n := rfl
theorem tS (x : List UInt8) : D.toStr (.str x) = x := rfl
theorem tL (x : List D) : D.toList (.list x) = x := rfl
theorem perm (p k : Int) : ∃ b : Bool, RUN E 43 [.int p, .int k] = some [.bool b] ∧ RUN E 57 [.int k, .int p] = some [.bool b] ∧ (b = true → 1 ≤ k ∧ k ≤ 18) := by
  have e : RUN E 57 [.int k, .int p] = RUN E 43 [.int p, .int k] := by
    rw [enter43, enter57]; simp only [enter72, enter90, enter24, enter34]
  have ex : ∃ b : Bool, RUN E 43 [.int p, .int k] = some [.bool b] ∧ (b = true → 1 ≤ k ∧ k ≤ 18) := by
    have hc : ∀ (c : Bool) (x y : R), (∃ b : Bool, x = some [.bool b] ∧ (b = true → 1 ≤ k ∧ k ≤ 18)) → (∃ b : Bool, y = some [.bool b] ∧ (b = true → 1 ≤ k ∧ k ≤ 18)) → ∃ b : Bool, cond c x y = some [.bool b] ∧ (b = true → 1 ≤ k ∧ k ≤ 18) := by
      intro c x y h1 h2; cases c
      · exact h2
      · exact h1
    rw [enter43]
    simp only [enter72, enter24, opt_s, List.getD_cons_zero, D.toBool]
    repeat' (first | exact ⟨_, rfl, fun h => by first | (simp at h; omega) | cases h⟩ | apply hc)
  obtain ⟨b, h1, h2⟩ := ex
  exact ⟨b, h1, e.trans h1, h2⟩
theorem un (c : UInt8) (z : Bool) (u : List UInt8) : RUN E 59 [.str [c], .bool z, .str u] = some [.bool (!z && !decide (0 ≤ Lib.indexByte u c))] := by
  rw [enter59, enter60]
  cases z <;> rfl
theorem three {a1 b1 a2 b2 a3 b3 : List UInt8} {q1 q2 q3 : Bool} (h1 : RUN E 91 [.str a1, .str b1] = some [.bool q1]) (h2 : RUN E 91 [.str a2, .str b2] = some [.bool q2]) (h3 : RUN E 91 [.str a3, .str b3] = some [.bool q3]) :
    (opt (RUN E 91 [.str a1, .str b1]) fun r2 =>
      opt (cond (bif D.toBool (List.getD r2 0 D.no) then false else true) (RUN E 91 [.str a2, .str b2]) (some [])) fun r3 =>
        opt (cond (bif bif D.toBool (List.getD r2 0 D.no) then true else D.toBool (List.getD r3 0 D.no) then false else true) (RUN E 91 [.str a3, .str b3]) (some [])) fun r4 =>
          some [D.bool (bif bif D.toBool (List.getD r2 0 D.no) then true else D.toBool (List.getD r3 0 D.no) then true else D.toBool (List.getD r4 0 D.no))]) = some [.bool (q1 || q2 || q3)] := by
  rw [h1, h2, h3]
  cases q1 <;> cases q2 <;> cases q3 <;> rfl
def U (k : Int) : List UInt8 := if k = 1 ∨ k = 5 then [76, 75] else if k = 2 ∨ k = 4 ∨ k = 6 ∨ k = 8 ∨ k = 9 ∨ k = 10 ∨ k = 14 ∨ k = 15 then [75] else if k = 3 then [84, 68] else if k = 11 ∨ k = 16 then [84] else if k = 17 then [68, 78, 75] else if k = 18 then [68, 78, 84] else []
theorem kcases {k : Int} (h1 : 1 ≤ k) (h2 : k ≤ 18) : k = 1 ∨ k = 2 ∨ k = 3 ∨ k = 4 ∨ k = 5 ∨ k = 6 ∨ k = 7 ∨ k = 8 ∨ k = 9 ∨ k = 10 ∨ k = 11 ∨ k = 12 ∨ k = 13 ∨ k = 14 ∨ k = 15 ∨ k = 16 ∨ k = 17 ∨ k = 18 := by omega
theorem uses {k : Int} (h1 : 1 ≤ k) (h2 : k ≤ 18) : RUN E 58 [.int k] = some [.str (U k)] := by
  rcases kcases h1 h2 with h | h | h | h | h | h | h | h | h | h | h | h | h | h | h | h | h | h <;> subst h <;> exact (enter58 _).trans (by rfl)
def P1 (k : Int) : List UInt8 := if k = 11 ∨ k = 16 ∨ k = 18 then [9] else if k = 3 then [9, 10] else []
def P2 (k : Int) : List UInt8 := if k = 3 then [9] else []
theorem fault {k l : Int} {t d ti : List UInt8} {ks : List D} (h1 : 1 ≤ k) (h2 : k ≤ 18) {q1 q2 q3 : Bool} (g1 : RUN E 91 [.str t, .str (P1 k)] = some [.bool q1]) (g2 : RUN E 91 [.str d, .str (P2 k)] = some [.bool q2]) (g3 : RUN E 91 [.str ti, .str [9]] = some [.bool q3]) :
    RUN E 61 [.agg [.int k, .int l, .str t, .str d, .str ti, .list ks]] = some [.bool (q1 || q2 || q3)] := by
  rw [enter61]
  rcases kcases h1 h2 with h | h | h | h | h | h | h | h | h | h | h | h | h | h | h | h | h | h <;> subst h <;> exact three g1 g2 g3

theorem u8_ne {c a : UInt8} {n : Nat} (ha : a.toNat = n) (h : ¬ c = a) : ¬ (c.toNat : Int) = (n : Int) := by
  intro e
  exact h (UInt8.toNat_inj.1 (by omega))
theorem hp9 (c : UInt8) : decide (Lib.indexByte [9] c < 0) = !((true && decide ((c.toNat : Int) = 9)) || (false && decide ((c.toNat : Int) = 10))) := by
  by_cases h : c = 9
  · subst h; decide
  · have h1 := u8_ne (n := 9) rfl h
    have h2 : (9 == c) = false := by simp; exact fun e => h e.symm
    simp [Lib.indexByte, h2]; omega
theorem hp0 (c : UInt8) : decide (Lib.indexByte [] c < 0) = !((false && decide ((c.toNat : Int) = 9)) || (false && decide ((c.toNat : Int) = 10))) := by
  simp [Lib.indexByte]
theorem hp910 (c : UInt8) : decide (Lib.indexByte [9, 10] c < 0) = !((true && decide ((c.toNat : Int) = 9)) || (true && decide ((c.toNat : Int) = 10))) := by
  by_cases h : c = 9
  · subst h; decide
  · by_cases g : c = 10
    · subst g; decide
    · have h1 := u8_ne (n := 9) rfl h
      have h3 := u8_ne (n := 10) rfl g
      have h2 : (9 == c) = false := by simp; exact fun e => h e.symm
      have h4 : (10 == c) = false := by simp; exact fun e => g e.symm
      simp [Lib.indexByte, h2, h4]; omega
theorem none67 (feed : Bool) : RUN E 44 [.str [], .bool true, .bool feed] = some [.bool false] := by
  rw [enter44, round44a]; rfl
theorem none43 (p : List UInt8) : RUN E 91 [.str [], .str p] = some [.bool false] := by
  rw [enter91, round91a]; rfl
def isText (k : Int) : Bool := decide (k = 3 ∨ k = 11 ∨ k = 16 ∨ k = 18)
theorem textB {k : Int} (t : List UInt8) (hl : t.length ≤ 1048576) (ht : isText k = true ∨ t = []) : ∃ r : Bool, RUN E 44 [.str t, .bool true, .bool (decide (k = 3))] = some [.bool r] ∧ RUN E 91 [.str t, .str (P1 k)] = some [.bool r] := by
  rcases ht with ht | rfl
  · simp only [isText, decide_eq_true_eq] at ht
    rcases ht with rfl | rfl | rfl | rfl
    · exact bytes hp910 t hl
    · exact bytes hp9 t hl
    · exact bytes hp9 t hl
    · exact bytes hp9 t hl
  · exact ⟨false, none67 _, none43 _⟩
theorem destB {k : Int} (t : List UInt8) (hl : t.length ≤ 1048576) : ∃ r : Bool, RUN E 44 [.str t, .bool (decide (k = 3)), .bool false] = some [.bool r] ∧ RUN E 91 [.str t, .str (P2 k)] = some [.bool r] := by
  by_cases h : k = 3
  · subst h; exact bytes hp9 t hl
  · rw [dec_f h, show P2 k = [] by simp [P2, h]]
    exact bytes hp0 t hl
theorem titleB (t : List UInt8) (hl : t.length ≤ 1048576) : ∃ r : Bool, RUN E 44 [.str t, .bool true, .bool false] = some [.bool r] ∧ RUN E 91 [.str t, .str [9]] = some [.bool r] := bytes hp9 t hl
theorem three67 {a1 a2 a3 : List UInt8} {x1 y1 x2 y2 x3 y3 : Bool} {q1 q2 q3 : Bool} (h1 : RUN E 44 [.str a1, .bool x1, .bool y1] = some [.bool q1]) (h2 : RUN E 44 [.str a2, .bool x2, .bool y2] = some [.bool q2]) (h3 : RUN E 44 [.str a3, .bool x3, .bool y3] = some [.bool q3]) :
    (opt (RUN E 44 [.str a1, .bool x1, .bool y1]) fun r4 =>
      opt (cond (bif D.toBool (List.getD r4 0 D.no) then false else true) (RUN E 44 [.str a2, .bool x2, .bool y2]) (some [])) fun r5 =>
        opt (cond (bif bif D.toBool (List.getD r4 0 D.no) then true else D.toBool (List.getD r5 0 D.no) then false else true) (RUN E 44 [.str a3, .bool x3, .bool y3]) (some [])) fun r6 =>
          cond (bif bif D.toBool (List.getD r4 0 D.no) then true else D.toBool (List.getD r5 0 D.no) then true else D.toBool (List.getD r6 0 D.no)) (some [D.int 9]) (some [D.int 0])) = cond (q1 || q2 || q3) (some [.int 9]) (some [.int 0]) := by
  rw [h1, h2, h3]
  cases q1 <;> cases q2 <;> cases q3 <;> rfl
/-- The five fields that a kind does not use. -/
theorem five {u : List UInt8} {z1 z2 z3 z4 z5 : Bool} (K : R) :
    (opt (RUN E 59 [.str [76], .bool z1, .str u]) fun r4 =>
      opt (cond (bif D.toBool (List.getD r4 0 D.no) then false else true) (RUN E 59 [.str [84], .bool z2, .str u]) (some [])) fun r5 =>
      opt (cond (bif bif D.toBool (List.getD r4 0 D.no) then true else D.toBool (List.getD r5 0 D.no) then false else true) (RUN E 59 [.str [68], .bool z3, .str u]) (some [])) fun r6 =>
      opt (cond (bif bif bif D.toBool (List.getD r4 0 D.no) then true else D.toBool (List.getD r5 0 D.no) then true else D.toBool (List.getD r6 0 D.no) then false else true) (RUN E 59 [.str [78], .bool z4, .str u]) (some [])) fun r7 =>
      opt (cond (bif bif bif bif D.toBool (List.getD r4 0 D.no) then true else D.toBool (List.getD r5 0 D.no) then true else D.toBool (List.getD r6 0 D.no) then true else D.toBool (List.getD r7 0 D.no) then false else true) (RUN E 59 [.str [75], .bool z5, .str u]) (some [])) fun r8 =>
      cond (bif bif bif bif D.toBool (List.getD r4 0 D.no) then true else D.toBool (List.getD r5 0 D.no) then true else D.toBool (List.getD r6 0 D.no) then true else D.toBool (List.getD r7 0 D.no) then true else D.toBool (List.getD r8 0 D.no)) (some [D.int 1]) K) =
    cond ((!z1 && !decide (0 ≤ Lib.indexByte u 76)) || (!z2 && !decide (0 ≤ Lib.indexByte u 84)) || (!z3 && !decide (0 ≤ Lib.indexByte u 68)) || (!z4 && !decide (0 ≤ Lib.indexByte u 78)) || (!z5 && !decide (0 ≤ Lib.indexByte u 75))) (some [.int 1]) K := by
  rw [un, un, un, un, un]
  generalize (!z1 && !decide (0 ≤ Lib.indexByte u 76)) = a1
  generalize (!z2 && !decide (0 ≤ Lib.indexByte u 84)) = a2
  generalize (!z3 && !decide (0 ≤ Lib.indexByte u 68)) = a3
  generalize (!z4 && !decide (0 ≤ Lib.indexByte u 78)) = a4
  generalize (!z5 && !decide (0 ≤ Lib.indexByte u 75)) = a5
  cases a1 <;> cases a2 <;> cases a3 <;> cases a4 <;> cases a5 <;> rfl

def C25 (k : Int) (zl zt zd zn nk : Bool) : Bool := (bif bif bif bif bif bif bif decide (k = 1) then false else true then bif decide (k = 5) then false else true else false then bif zl then false else true else false then true else bif bif bif bif bif decide (k = 3) then true else decide (k = 11) then true else decide (k = 16) then true else decide (k = 18) then false else true then bif zt then false else true else false then true else bif bif bif bif decide (k = 3) then true else decide (k = 17) then true else decide (k = 18) then false else true then bif zd then false else true else false then true else bif bif bif decide (k = 17) then true else decide (k = 18) then false else true then bif zn then false else true else false then true else bif bif bif bif bif bif bif bif bif decide (k = 3) then false else true then bif decide (k = 7) then false else true else false then bif decide (k = 11) then false else true else false then bif decide (k = 12) then false else true else false then bif decide (k = 13) then false else true else false then bif decide (k = 16) then false else true else false then bif decide (k = 18) then false else true else false then false else true then nk else false)
def C35 (u : List UInt8) (z1 z2 z3 z4 z5 : Bool) : Bool := (!z1 && !decide (0 ≤ Lib.indexByte u 76)) || (!z2 && !decide (0 ≤ Lib.indexByte u 84)) || (!z3 && !decide (0 ≤ Lib.indexByte u 68)) || (!z4 && !decide (0 ≤ Lib.indexByte u 78)) || (!z5 && !decide (0 ≤ Lib.indexByte u 75))
def RG (k l : Int) : Bool := (bif bif decide (k = 1) then bif decide (l < 1) then true else decide (6 < l) else false then true else bif decide (k = 5) then bif decide (l < -1) then true else decide (9999 < l) else false)
theorem form {k : Int} (h1 : 1 ≤ k) (h2 : k ≤ 18) (zl zt zd zn zk : Bool) : C25 k zl zt zd zn (!zk) = C35 (U k) zl zt zd zn zk := by
  rcases kcases h1 h2 with h | h | h | h | h | h | h | h | h | h | h | h | h | h | h | h | h | h <;> subst h <;> cases zl <;> cases zt <;> cases zd <;> cases zn <;> cases zk <;> rfl
theorem form_text {k : Int} (h1 : 1 ≤ k) (h2 : k ≤ 18) {zl zt zd zn zk : Bool} (h : C25 k zl zt zd zn zk = false) : isText k = true ∨ zt = true := by
  cases zt with
  | true => exact .inr rfl
  | false =>
    left
    rcases kcases h1 h2 with g | g | g | g | g | g | g | g | g | g | g | g | g | g | g | g | g | g <;> subst g <;> first | rfl | (exfalso; cases zl <;> cases zd <;> cases zn <;> cases zk <;> cases h)
/-- A node's fault. -/
theorem nodeEq {k l : Int} {t d ti : List UInt8} {ks : List D} (ht : t.length ≤ 1048576) (hd : d.length ≤ 1048576) (hi : ti.length ≤ 1048576) (p : Int) :
    ∃ e : Int, RUN E 25 [.agg [.int k, .int l, .str t, .str d, .str ti, .list ks], .int p] = some [.int e] ∧ RUN E 35 [.agg [.int k, .int l, .str t, .str d, .str ti, .list ks], .int p] = some [.int e] := by
  obtain ⟨b, e1, e2, e3⟩ := perm p k
  rw [enter25, enter35]
  simp only [D.cell, D.cells, List.getD_cons_zero, List.getD_cons_succ, tI, tS, tL, e1, e2, opt_s, tB]
  cases b with
  | false => exact ⟨10, rfl, rfl⟩
  | true =>
    obtain ⟨h1, h2⟩ := e3 rfl
    simp only [uses h1 h2, opt_s, List.getD_cons_zero, tS, five, cond_true, cond_false]
    have hnk : decide ((0 : Int) < (ks.length : Int)) = !decide ((ks.length : Int) = 0) := by
      by_cases h : (ks.length : Int) = 0
      · rw [dec_t h, dec_f (by omega)]; rfl
      · rw [dec_f h, dec_t (by omega)]; rfl
    change ∃ e : Int, cond (RG k l) (some [D.int 2]) (cond (C25 k (decide (l = 0)) (decide (t = [])) (decide (d = [])) (decide (ti = [])) (decide ((0 : Int) < (ks.length : Int)))) (some [D.int 1]) _) = some [D.int e] ∧ cond (RG k l) (some [D.int 2]) (cond (C35 (U k) (decide (l = 0)) (decide (t = [])) (decide (d = [])) (decide (ti = [])) (decide ((ks.length : Int) = 0))) (some [D.int 1]) _) = some [D.int e]
    cases RG k l with
    | true => exact ⟨2, rfl, rfl⟩
    | false =>
      rw [hnk, form h1 h2, cond_false, cond_false]
      cases hf : C35 (U k) (decide (l = 0)) (decide (t = [])) (decide (d = [])) (decide (ti = [])) (decide ((ks.length : Int) = 0)) with
      | true => exact ⟨1, rfl, rfl⟩
      | false =>
        rw [← form h1 h2] at hf
        have htx : isText k = true ∨ t = [] := by
          rcases form_text h1 h2 hf with h | h
          · exact .inl h
          · exact .inr (by simpa using h)
        obtain ⟨q1, a1, b1⟩ := textB (k := k) t ht htx
        obtain ⟨q2, a2, b2⟩ := destB (k := k) d hd
        obtain ⟨q3, a3, b3⟩ := titleB ti hi
        rw [fault h1 h2 b1 b2 b3]
        simp only [cond_false, opt_s, List.getD_cons_zero, tB]
        rw [three67 a1 a2 a3]
        cases (q1 || q2 || q3) with
        | true => exact ⟨9, rfl, rfl⟩
        | false => exact ⟨0, rfl, rfl⟩

theorem nodeEq2 {x : D} (h : Nd x) (hb : dmass x ≤ 1048576) (p : Int) : ∃ e : Int, RUN E 25 [x, .int p] = some [.int e] ∧ RUN E 35 [x, .int p] = some [.int e] := by
  cases h with
  | mk k l t d ti ks h =>
    simp only [dmass, dmass.dmAll] at hb
    exact nodeEq (by omega) (by omega) (by omega) p
/-- The first fault of nodes. -/
theorem faults : ∀ l, AllN l → dmass.dmAll l ≤ 1048576 → ∀ p : Int, ∃ e : Int, RUN E 13 [.list l, .int p] = some [.int e] ∧ RUN E 18 [.list l, .int p] = some [.int e] := by
  refine doc_ind ?_
  intro l hN hk hb p
  have hlen := len_le hN
  have loop : ∀ r i : Nat, i + r = l.length → ∃ e : Int, L13a p l l.length i = some [.int e] ∧ L18a p l l.length i = some [.int e] := by
    intro r
    induction r with
    | zero =>
      intro i hi
      refine ⟨0, ?_, ?_⟩
      · rw [round13a, dec_f (by omega)]; rfl
      · rw [round18a, dec_f (by omega)]; rfl
    | succ r ih =>
      intro i hi
      have hil : i < l.length := by omega
      have hx := hN l[i] (List.getElem_mem hil)
      have hdm := drop_mass hil
      have hdl := drop_le l i
      have hmx := mass_nd hx
      obtain ⟨e, f1, f2⟩ := ih (i + 1) (by omega)
      have hg : l.getD i .no = l[i] := getD_eq l i .no hil
      have hki : D.toList (D.cell l[i] 5) = kidsOf l[i] := rfl
      have hnext : IntKind.wrap .i64 ((i : Int) + 1) = ((i + 1 : Nat) : Int) := by rw [wrap_id (by omega) (by omega)]; omega
      obtain ⟨e1, g1, g2⟩ := nodeEq2 hx (by omega) p
      obtain ⟨e2, g3, g4⟩ := hk l[i] (List.getElem_mem hil) (by omega) (D.toInt (D.cell l[i] 0))
      rw [round13a, round18a, dec_t (show (i : Int) < (l.length : Int) by omega), inb_nat hil]
      simp only [cond_true, Int.toNat_natCast, hg, hki, g1, g2, g3, g4, opt_s, List.getD_cons_zero, tI, hnext, f1, f2]
      cases decide (e1 = 0) with
      | false => exact ⟨e1, rfl, rfl⟩
      | true =>
        cases decide (e2 = 0) with
        | false => exact ⟨e2, rfl, rfl⟩
        | true => exact ⟨e, rfl, rfl⟩
  obtain ⟨e, h1, h2⟩ := loop l.length 0 (by omega)
  exact ⟨e, by rw [enter13]; exact h1, by rw [enter18]; exact h2⟩
/-- Check is DocError. -/
theorem check {l : List D} (hN : AllN l) (hb : dmass.dmAll l ≤ 1048576) : ∃ e : Int, RUN E 5 [.list l] = some [.int e] ∧ RUN E 8 [.list l] = some [.int e] ∧ (e = 0 → RUN E 13 [.list l, .int 0] = some [.int 0]) := by
  obtain ⟨n, m, h1, h2, h3, h4, h5, h6, h7, h8⟩ := nodes l hN hb
  obtain ⟨r, g1, g2⟩ := deep l hN hb 0 0
  obtain ⟨e, f1, f2⟩ := faults l hN hb 0
  rw [enter5, enter8]
  simp only [h1, h2, g1, g2, f1, f2, opt_s, List.getD_cons_zero, tI, tB]
  by_cases hn : 4000 < n
  · rw [dec_t hn, dec_t (h8 hn)]
    exact ⟨4, rfl, rfl, fun h => by cases h⟩
  · have := h7 (by omega)
    subst this
    rw [dec_f hn]
    cases r with
    | true => exact ⟨13, rfl, rfl, fun h => by cases h⟩
    | false => exact ⟨e, rfl, rfl, fun h => by rw [h]⟩

end check
end Go.Proofs.YtlmfiknfkgdbpaaGreatDoor.pr

namespace Go.Proofs.YtlmfiknfkgdbpaaGreatDoor.pr
open Go.Proofs.YtlmfiknfkgdbpaaGreatDoor.DS
namespace chk
open check

theorem opt_s {α β : Type} (a : α) (f : α → Option β) : opt (some a) f = f a := rfl
theorem tB (b : Bool) : D.toBool (.bool b) = b := rfl
theorem tI (n : Int) : D.toInt (.int n) = n := rfl
theorem tS (x : List UInt8) : D.toStr (.str x) = x := rfl
theorem tL (x : List D) : D.toList (.list x) = x := rfl
theorem u8_all (P : UInt8 → Bool) (h : (List.range 256).all (fun n => P (UInt8.ofNat n)) = true) (c : UInt8) : P c = true := by
  have := List.all_eq_true.1 h c.toNat (List.mem_range.2 c.toNat_lt)
  simpa using this
theorem bool_of_beq {a b : Bool} (h : (a == b) = true) : a = b := by cases a <;> cases b <;> first | rfl | cases h

/-! ### What validity says -/
def par (p : Int) : Prop := p = 1 ∨ p = 2 ∨ p = 10 ∨ p = 14 ∨ p = 15 ∨ p = 17
theorem permI {p k : Int} (hp : par p) : RUN E 43 [.int p, .int k] = some [.bool (bif decide (11 ≤ k) then decide (k ≤ 18) else false)] := by
  rcases hp with rfl | rfl | rfl | rfl | rfl | rfl <;> (rw [enter43]; simp only [enter24]; rfl)
theorem okInl {k l : Int} {t d ti : List UInt8} {ks : List D} {p : Int} (hp : par p) (h : RUN E 25 [.agg [.int k, .int l, .str t, .str d, .str ti, .list ks], .int p] = some [.int 0]) :
    11 ≤ k ∧ k ≤ 18 ∧ (k = 16 → d = [] ∧ ti = []) ∧ (k = 17 → t = []) := by
  have e1 := permI (k := k) hp
  rw [enter25] at h
  simp only [D.cell, D.cells, List.getD_cons_zero, List.getD_cons_succ, check.tI, check.tS, check.tL, e1, check.opt_s, check.tB] at h
  by_cases h11 : 11 ≤ k
  · by_cases h18 : k ≤ 18
    · rw [dec_t h11, dec_t h18] at h
      simp only [cond_true, cond_false] at h
      change cond (RG k l) (some [D.int 2]) (cond (C25 k (decide (l = 0)) (decide (t = [])) (decide (d = [])) (decide (ti = [])) (decide ((0 : Int) < (ks.length : Int)))) (some [D.int 1]) _) = some [D.int 0] at h
      cases hr : RG k l with
      | true => rw [hr] at h; cases h
      | false =>
        rw [hr] at h
        cases hc : C25 k (decide (l = 0)) (decide (t = [])) (decide (d = [])) (decide (ti = [])) (decide ((0 : Int) < (ks.length : Int))) with
        | true => rw [hc] at h; cases h
        | false =>
          refine ⟨h11, h18, fun hk => ?_, fun hk => ?_⟩
          · subst hk
            generalize decide (l = 0) = z1 at hc
            generalize decide (t = []) = z2 at hc
            cases hd : decide (d = []) with
            | false => rw [hd] at hc; cases z1 <;> cases z2 <;> cases hc
            | true =>
              cases hn : decide (ti = []) with
              | false => rw [hd, hn] at hc; cases z1 <;> cases z2 <;> cases hc
              | true => exact ⟨of_decide_eq_true hd, of_decide_eq_true hn⟩
          · subst hk
            generalize decide (l = 0) = z1 at hc
            cases ht : decide (t = []) with
            | false => rw [ht] at hc; cases z1 <;> cases hc
            | true => exact of_decide_eq_true ht
    · rw [dec_t h11, dec_f h18] at h; cases h
  · rw [dec_f h11] at h; cases h

/-! ### Blanks, pairs -/
def isB (c : UInt8) : Bool := bif decide ((c.toNat : Int) = 32) then true else decide ((c.toNat : Int) = 9)
def fb (s : List UInt8) : Bool := !decide (s = []) && isB (s.getD 0 0)
def lb (s : List UInt8) : Bool := !decide (s = []) && isB (s.getD (s.length - 1) 0)
theorem len1 {n : Nat} (h0 : n ≠ 0) (h : n ≤ 4194304) : IntKind.wrap IntKind.i64 ((n : Int) - 1) = ((n - 1 : Nat) : Int) := by rw [wrap_id (by omega) (by omega)]; omega
theorem ne_len {s : List UInt8} (h : s ≠ []) : s.length ≠ 0 := fun e => h (List.eq_nil_of_length_eq_zero e)
theorem r73 (s : List UInt8) (h : s.length ≤ 1048576) : RUN E 45 [.str s] = some [.bool (fb s), .bool (lb s)] := by
  rw [enter45]
  by_cases hs : s = []
  · subst hs; rfl
  · have hl := ne_len hs
    rw [len1 hl (by omega), inb_nat (by omega : s.length - 1 < s.length), show inb 0 s.length = true from inb_nat (i := 0) (by omega), dec_f hs]
    simp only [cond_true, cond_false, opt_s, enter73, List.getD_cons_zero, tB, Int.toNat_natCast]
    unfold fb lb isB
    rw [dec_f hs]
    rfl
theorem lastC (s : List UInt8) (h : s.length ≤ 1048576) : (cond (bif inb (IntKind.wrap IntKind.i64 ((↑(List.length s) : Int) - 1)) (List.length s) then true else bif bif decide (s = ([] : List UInt8)) then false else true then false else true)
    (opt (cond (bif decide (s = ([] : List UInt8)) then false else true)
        (RUN E 67 [D.int (↑(UInt8.toNat (List.getD s (Int.toNat (IntKind.wrap IntKind.i64 ((↑(List.length s) : Int) - 1))) 0)) : Int)])
        (some [])) fun ρ5 =>
      some [D.bool (bif decide (s = ([] : List UInt8)) then true else !D.toBool (List.getD ρ5 0 D.no))])
    (none)) = some [D.bool (!lb s)] := by
  by_cases hs : s = []
  · subst hs; rfl
  · have hl := ne_len hs
    rw [len1 hl (by omega), inb_nat (by omega : s.length - 1 < s.length), dec_f hs]
    simp only [cond_true, cond_false, opt_s, enter67, List.getD_cons_zero, tB, Int.toNat_natCast]
    unfold lb isB
    rw [dec_f hs]
    rfl
theorem firstC (s : List UInt8) : (cond (bif inb 0 (List.length s) then true else bif bif decide (s = ([] : List UInt8)) then false else true then false else true)
    (opt (cond (bif decide (s = ([] : List UInt8)) then false else true)
        (RUN E 67 [D.int (↑(UInt8.toNat (List.getD s 0 0)) : Int)])
        (some [])) fun ρ7 =>
      some [D.bool (bif decide (s = ([] : List UInt8)) then true else !D.toBool (List.getD ρ7 0 D.no))])
    (none)) = some [D.bool (!fb s)] := by
  by_cases hs : s = []
  · subst hs; rfl
  · have hl := ne_len hs
    rw [show inb 0 s.length = true from inb_nat (i := 0) (by omega), dec_f hs]
    simp only [cond_true, cond_false, opt_s, enter67, List.getD_cons_zero, tB]
    unfold fb isB
    rw [dec_f hs]
    rfl
def brk (k : Int) : Bool := bif decide (k = 12) then true else decide (k = 13)
def star (k : Int) : Bool := bif decide (k = 14) then true else decide (k = 15)
theorem r89 (n : D) : RUN E 66 [n] = some [.bool (brk (D.toInt (D.cell n 0)))] := enter66 n
theorem r93 (k : Int) : RUN E 74 [.int k] = some [.bool (brk k)] := enter74 k
theorem r94 (k : Int) : RUN E 75 [.int k] = some [.bool (star k)] := enter75 k
theorem r125 (n : D) : RUN E 112 [n] = some [.bool (star (D.toInt (D.cell n 0)))] := enter112 n
theorem pairs (a b : D) (ha : dmass a ≤ 1048576) (hb : dmass b ≤ 1048576) : ∃ q : Bool, RUN E 94 [a, b] = some [.bool q] ∧ RUN E 76 [a, b] = some [.bool q] := by
  have hla : (D.toStr (D.cell a 2)).length ≤ 1048576 := Nat.le_trans (cellS_le _ _) ha
  have hlb : (D.toStr (D.cell b 2)).length ≤ 1048576 := Nat.le_trans (cellS_le _ _) hb
  rw [enter94, enter76, r73 _ hla, r73 _ hlb]
  simp only [lastC _ hla, firstC, r89, r93, r94, r125, opt_s, List.getD_cons_zero, List.getD_cons_succ, tB]
  generalize decide (D.toInt (D.cell a 0) = 11) = A
  generalize decide (D.toInt (D.cell b 0) = 11) = B
  generalize brk (D.toInt (D.cell a 0)) = Ba
  generalize brk (D.toInt (D.cell b 0)) = Bb
  generalize star (D.toInt (D.cell a 0)) = Sa
  generalize star (D.toInt (D.cell b 0)) = Sb
  generalize lb (D.toStr (D.cell a 2)) = x
  generalize fb (D.toStr (D.cell b 2)) = y
  cases A <;> cases B <;> cases Ba <;> cases Bb <;> cases Sa <;> cases Sb <;> cases x <;> cases y <;> exact ⟨_, rfl, rfl⟩

end chk
end Go.Proofs.YtlmfiknfkgdbpaaGreatDoor.pr

namespace Go.Proofs.YtlmfiknfkgdbpaaGreatDoor.pr
open Go.Proofs.YtlmfiknfkgdbpaaGreatDoor.DS
namespace chk
open check

/-! ### Bars, targets -/
theorem has_iff (s : List UInt8) (c : UInt8) : decide (0 ≤ Lib.indexByte s c) = s.contains c := (Lib.contains_iff_indexByte s c).symm
theorem has_lt (s : List UInt8) (c : UInt8) : decide (Lib.indexByte s c < 0) = !s.contains c := by
  rw [← has_iff]
  by_cases h : 0 ≤ Lib.indexByte s c
  · rw [dec_t h, dec_f (by omega)]; rfl
  · rw [dec_f h, dec_t (by omega)]; rfl
theorem r126 (e s l : Bool) (kind : Int) (t : List UInt8) : RUN E 113 [.agg [.bool e, .bool s, .bool l, .int kind], .str t] = some [.bool (!(decide (kind = 10) && t.contains 124))] := by
  rw [enter113]
  simp only [D.cell, D.cells, List.getD_cons_zero, List.getD_cons_succ, tI, enter85]
  rw [show (Nat.toUInt8 (Int.toNat 124)) = (124 : UInt8) from rfl]
  cases decide (kind = 10) with
  | false => rfl
  | true =>
    simp only [cond_true, cond_false, opt_s, List.getD_cons_zero, tI, has_lt, Bool.not_true, Bool.true_and]
theorem allK {L : Int → R} {s : List UInt8} {p : UInt8 → Bool} {K : R} (hend : L (s.length : Nat) = K) (hL : ∀ i : Nat, i < s.length → L i = cond (p (s.getD i 0)) (L ((i + 1 : Nat) : Int)) (some [.bool false])) : L 0 = cond (s.all p) K (some [.bool false]) := by
  have key : ∀ n i : Nat, i + n = s.length → L i = cond ((s.drop i).all p) K (some [.bool false]) := by
    intro n
    induction n with
    | zero =>
      intro i hi
      have : i = s.length := by omega
      subst this
      rw [hend, List.drop_length]; rfl
    | succ n ih =>
      intro i hi
      have hil : i < s.length := by omega
      rw [hL i hil, ih (i + 1) (by omega), drop_cons 0 hil, List.all_cons]
      cases p (s.getD i 0) <;> rfl
  exact key s.length 0 (by omega)
theorem any_set (s chars : List UInt8) : Lib.containsAny s chars = s.any (chars.contains ·) := by
  unfold Lib.containsAny
  induction s with
  | nil => rfl
  | cons b r ih =>
    rw [Lib.indexAny, List.any_cons]
    have hge := Lib.indexAny_ge chars r
    cases hb : chars.contains b with
    | true => rfl
    | false =>
      simp only [Bool.false_eq_true, if_false, Bool.false_or]
      by_cases hm : Lib.indexAny r chars = -1
      · rw [← ih, hm]; rfl
      · rw [if_neg (by simpa using hm), ← ih]
        exact decide_eq_decide.2 (by omega)
def inD (c : UInt8) : Bool := bif bif bif bif decide (32 < (c.toNat : Int)) then !decide ((c.toNat : Int) = 40) else false then !decide ((c.toNat : Int) = 41) else false then !decide ((c.toNat : Int) = 34) else false then !decide ((c.toNat : Int) = 92) else false
def inT (c : UInt8) : Bool := bif bif !decide ((c.toNat : Int) = 34) then !decide ((c.toNat : Int) = 92) else false then !decide ((c.toNat : Int) = 10) else false
theorem inD_eq (c : UInt8) : (!(decide ((c.toNat : Int) ≤ 32) || ([40, 41, 34, 92] : List UInt8).contains c)) = inD c :=
  bool_of_beq (u8_all (fun c => (!(decide ((c.toNat : Int) ≤ 32) || ([40, 41, 34, 92] : List UInt8).contains c)) == inD c) (by decide +kernel) c)
theorem inT_eq (c : UInt8) : (!([34, 92, 10] : List UInt8).contains c) = inT c :=
  bool_of_beq (u8_all (fun c => (!([34, 92, 10] : List UInt8).contains c) == inT c) (by decide +kernel) c)
theorem not_any (l : List UInt8) : (!l.any (fun x => ([34, 92, 10] : List UInt8).contains x)) = l.all inT := by
  induction l with
  | nil => rfl
  | cons c r ih => rw [List.any_cons, List.all_cons, Bool.not_or, ih, inT_eq]
theorem r114 (s cs : List UInt8) (h : s.length ≤ 4194304) (h2 : 2 ≤ cs.length) (h3 : cs.length ≤ 100) (h4 : cs.all (fun c => decide (c.toNat < 128)) = true) : RUN E 102 [.str s, .str cs] = some [.bool (s.any (cs.contains ·))] := by
  have e : RUN E 102 [.str s, .str cs] = xContainsAny [.str s, .str cs] := (RUN_eq _ _ _).trans (by kernel_rfl)
  rw [e]
  unfold xContainsAny
  simp only
  rw [dec_t h2, dec_t h3, dec_t h, h4, any_set]; rfl
theorem r113 {x : D} (hm : dmass x ≤ 1048576) : RUN E 101 [x] = some [.bool (!decide (D.toStr (D.cell x 3) = []) && (D.toStr (D.cell x 3)).all inD && (D.toStr (D.cell x 4)).all inT)] := by
  have h3 : (D.toStr (D.cell x 3)).length ≤ 1048576 := Nat.le_trans (cellS_le _ _) hm
  have h4 : (D.toStr (D.cell x 4)).length ≤ 1048576 := Nat.le_trans (cellS_le _ _) hm
  have lp : L101a 0 x = cond ((D.toStr (D.cell x 3)).all inD) (some [.bool ((D.toStr (D.cell x 4)).all inT)]) (some [.bool false]) := by
    refine allK (L := fun i => L101a i x) ?_ fun i hi => ?_
    · show L101a _ x = _
      rw [round101a, dec_f (by omega), cond_false, r114 _ _ (by omega) (by decide) (by decide) (by decide)]
      simp only [opt_s, List.getD_cons_zero, tB]
      congr 2
      congr 1
      exact not_any _
    · show L101a i x = _
      rw [round101a, dec_t (by omega), inb_nat hi, Int.toNat_natCast, nxt (by omega), enter85]
      simp only [Int.toNat_natCast, cond_true]
      rw [show ∀ c : UInt8, Nat.toUInt8 c.toNat = c from fun c => by simp, ← inD_eq]
      generalize (D.toStr (D.cell x 3)).getD i 0 = c
      rw [← has_iff]
      cases decide ((c.toNat : Int) ≤ 32) with
      | true => rfl
      | false =>
        simp only [cond_true, cond_false, opt_s, List.getD_cons_zero, tI, Bool.false_or]
        cases decide (0 ≤ Lib.indexByte [40, 41, 34, 92] c) <;> rfl
  rw [enter101, lp]
  cases decide (D.toStr (D.cell x 3) = []) <;> cases (D.toStr (D.cell x 3)).all inD <;> rfl
theorem r127 {x : D} (hm : dmass x ≤ 1048576) (e s l : Bool) (kind : Int) : RUN E 114 [.agg [.bool e, .bool s, .bool l, .int kind], x] =
    some [.bool ((!decide (D.toStr (D.cell x 3) = []) && (D.toStr (D.cell x 3)).all inD && (D.toStr (D.cell x 4)).all inT) && !(decide (kind = 10) && ((D.toStr (D.cell x 3)).contains 124 || (D.toStr (D.cell x 4)).contains 124)))] := by
  have h3 : (D.toStr (D.cell x 3)).length ≤ 1048576 := Nat.le_trans (cellS_le _ _) hm
  have h4 : (D.toStr (D.cell x 4)).length ≤ 1048576 := Nat.le_trans (cellS_le _ _) hm
  have lp2 : L114b 0 (.agg [.bool e, .bool s, .bool l, .int kind]) x = cond ((D.toStr (D.cell x 4)).all inT) (some [.bool (!decide (D.toStr (D.cell x 3) = []) && !(decide (kind = 10) && ((D.toStr (D.cell x 3)).contains 124 || (D.toStr (D.cell x 4)).contains 124)))]) (some [.bool false]) := by
    refine allK (L := fun i => L114b i _ x) ?_ fun i hi => ?_
    · show L114b _ _ x = _
      rw [round114b, dec_f (by omega), cond_false, r126, r126]
      cases decide (D.toStr (D.cell x 3) = []) <;> cases decide (kind = 10) <;> cases (D.toStr (D.cell x 3)).contains 124 <;> cases (D.toStr (D.cell x 4)).contains 124 <;> rfl
    · show L114b i _ x = _
      rw [round114b, dec_t (by omega), inb_nat hi, Int.toNat_natCast, nxt (by omega), enter134]
      simp only [cond_true, opt_s, List.getD_cons_zero, tB]
      unfold inT
      generalize (bif bif !decide ((((D.toStr (D.cell x 4)).getD i 0).toNat : Int) = 34) then !decide ((((D.toStr (D.cell x 4)).getD i 0).toNat : Int) = 92) else false then !decide ((((D.toStr (D.cell x 4)).getD i 0).toNat : Int) = 10) else false) = b
      cases b <;> rfl
  have lp1 : L114a 0 (.agg [.bool e, .bool s, .bool l, .int kind]) x = cond ((D.toStr (D.cell x 3)).all inD) (L114b 0 (.agg [.bool e, .bool s, .bool l, .int kind]) x) (some [.bool false]) := by
    refine allK (L := fun i => L114a i _ x) ?_ fun i hi => ?_
    · show L114a _ _ x = _
      rw [round114a, dec_f (by omega)]; rfl
    · show L114a i _ x = _
      rw [round114a, dec_t (by omega), inb_nat hi, Int.toNat_natCast, nxt (by omega), enter133]
      simp only [cond_true, opt_s, List.getD_cons_zero, tB]
      unfold inD
      generalize (bif bif bif bif decide (32 < (((D.toStr (D.cell x 3)).getD i 0).toNat : Int)) then !decide ((((D.toStr (D.cell x 3)).getD i 0).toNat : Int) = 40) else false then !decide ((((D.toStr (D.cell x 3)).getD i 0).toNat : Int) = 41) else false then !decide ((((D.toStr (D.cell x 3)).getD i 0).toNat : Int) = 34) else false then !decide ((((D.toStr (D.cell x 3)).getD i 0).toNat : Int) = 92) else false) = b
      cases b <;> rfl
  rw [enter114, lp1, lp2]
  cases decide (D.toStr (D.cell x 3) = []) <;> cases (D.toStr (D.cell x 3)).all inD <;> cases (D.toStr (D.cell x 4)).all inT <;> rfl
end chk
end Go.Proofs.YtlmfiknfkgdbpaaGreatDoor.pr

namespace Go.Proofs.YtlmfiknfkgdbpaaGreatDoor.pr
open Go.Proofs.YtlmfiknfkgdbpaaGreatDoor.DS
namespace chk
open check

theorem c0 (a : D) (r : List D) : D.cell (.agg (a :: r)) 0 = a := rfl
theorem c1 (a b : D) (r : List D) : D.cell (.agg (a :: b :: r)) 1 = b := rfl
theorem c2 (a b c : D) (r : List D) : D.cell (.agg (a :: b :: c :: r)) 2 = c := rfl
theorem c3 (a b c d : D) (r : List D) : D.cell (.agg (a :: b :: c :: d :: r)) 3 = d := rfl
theorem c4 (a b c d e : D) (r : List D) : D.cell (.agg (a :: b :: c :: d :: e :: r)) 4 = e := rfl
theorem r67 (s : List UInt8) (c : UInt8) : RUN E 60 [.str s, .str [c]] = some [.bool (s.contains c)] := by rw [enter60, has_iff]
theorem has_app (a b : List UInt8) (c : UInt8) : (a ++ b).contains c = (a.contains c || b.contains c) := by
  induction a with
  | nil => rfl
  | cons x r ih => rw [List.cons_append, List.contains_cons, List.contains_cons, ih, Bool.or_assoc]
theorem pos_ne {l : List D} : decide ((0 : Int) < (l.length : Int)) = !decide (l = []) := by
  cases l with
  | nil => rfl
  | cons a r => rw [dec_t (by simp only [List.length_cons]; omega), dec_f (by simp)]; rfl
theorem zero_ne {l : List D} : decide ((l.length : Int) = 0) = decide (l = []) := by
  cases l with
  | nil => rfl
  | cons a r => rw [dec_f (by simp only [List.length_cons]; omega), dec_f (by simp)]
def ok (p : Int) (x : D) : Bool := !brk (D.toInt (D.cell x 0)) && !(star p && star (D.toInt (D.cell x 0)))
def ec (p : Int) (l : List D) : Bool := ok p (l.getD 0 .no) && ok p (l.getD (l.length - 1) .no)
theorem ne_lenD {l : List D} (h : l ≠ []) : l.length ≠ 0 := fun e => h (List.eq_nil_of_length_eq_zero e)
theorem r112a {n : D} {ks : List D} (hk : D.toList (D.cell n 5) = ks) (hl : ks.length ≤ 1048576) {e s l b : Bool} {kind : Int} (hb : RUN E 68 [.list ks, .agg [.bool e, .bool s, .bool l, .int kind]] = some [.bool b]) :
    C95a n e s l kind = some [.bool (!decide (ks = []) && (ec (D.toInt (D.cell n 0)) ks && b))] := by
  rw [round95a, hk, zero_ne]
  by_cases hs : ks = []
  · subst hs; rfl
  · have h0 := ne_lenD hs
    rw [dec_f hs, len1 h0 (by omega), inb_nat (by omega : ks.length - 1 < ks.length), show inb 0 ks.length = true from inb_nat (i := 0) (by omega), hb]
    simp only [r89, r125, opt_s, cond_true, cond_false, List.getD_cons_zero, tB, Int.toNat_natCast]
    unfold ec ok
    generalize brk (D.toInt (D.cell (ks.getD 0 .no) 0)) = x1
    generalize brk (D.toInt (D.cell (ks.getD (ks.length - 1) .no) 0)) = x2
    generalize star (D.toInt (D.cell (ks.getD 0 .no) 0)) = y1
    generalize star (D.toInt (D.cell (ks.getD (ks.length - 1) .no) 0)) = y2
    generalize star (D.toInt (D.cell n 0)) = z
    cases x1 <;> cases x2 <;> cases y1 <;> cases y2 <;> cases z <;> cases b <;> rfl

/-- What is said of the inlines below. -/
def Below (k : Int) (ks : List D) : Prop := ∀ (e s l : Bool) (kind : Int), ∃ b b' : Bool, RUN E 68 [.list ks, .agg [.bool e, .bool s, .bool l, .int kind]] = some [.bool b] ∧
  RUN E 46 [.list ks, .int k, .agg [.bool e, .bool s, .bool l, .bool (decide (kind = 10)), .bool (decide (kind = 2))]] = some [.bool b'] ∧ (ks ≠ [] → b' = (ec k ks && b)) ∧ (ks = [] → b' = true ∧ b = true)
theorem inl {x : D} {k : Int} (hk : D.toInt (D.cell x 0) = k) (h11 : 11 ≤ k) (h18 : k ≤ 18) (hm : dmass x ≤ 1048576) (hc : k = 16 → D.toStr (D.cell x 3) = [] ∧ D.toStr (D.cell x 4) = []) (hl : k = 17 → D.toStr (D.cell x 2) = [])
    {ks : List D} (hks : D.toList (D.cell x 5) = ks) (hlen : ks.length ≤ 1048576) (IH : k = 14 ∨ k = 15 ∨ k = 17 → Below k ks) (e s l : Bool) (kind : Int) :
    ∃ c' : Bool, RUN E 77 [x, .agg [.bool e, .bool s, .bool l, .bool (decide (kind = 10)), .bool (decide (kind = 2))]] = some [.bool c'] ∧ RUN E 95 [x, .agg [.bool e, .bool s, .bool l, .int kind]] = some [.bool (c' && !(brk k && !decide (kind = 2)))] := by
  have h2 : (D.toStr (D.cell x 2)).length ≤ 1048576 := Nat.le_trans (cellS_le _ _) hm
  have h3 : (D.toStr (D.cell x 3)).length ≤ 1048576 := Nat.le_trans (cellS_le _ _) hm
  have h4 : (D.toStr (D.cell x 4)).length ≤ 1048576 := Nat.le_trans (cellS_le _ _) hm
  have hlim : decide ((D.toStr (D.cell x 3)).length + (D.toStr (D.cell x 4)).length ≤ lim) = true := lim_t (by omega)
  rw [enter77, enter95, lim_t (by omega), lim_t (by rw [List.length_append]; omega), r67]
  simp only [cond_true, opt_s, c0, c1, c2, c3, c4, tB, tI, List.getD_cons_zero, hk, hks, pos_ne]
  rcases (by omega : k = 11 ∨ k = 12 ∨ k = 13 ∨ k = 14 ∨ k = 15 ∨ k = 16 ∨ k = 17 ∨ k = 18) with h | h | h | h | h | h | h | h <;> subst h
  · refine ⟨_, rfl, ?_⟩
    cases decide (D.toStr (D.cell x 2) = []) <;> rfl
  · show ∃ c' : Bool, some [D.bool true] = some [.bool c'] ∧ some [D.bool (decide (kind = 2))] = some [.bool (c' && !(brk 12 && !decide (kind = 2)))]
    cases decide (kind = 2) <;> exact ⟨_, rfl, rfl⟩
  · show ∃ c' : Bool, some [D.bool true] = some [.bool c'] ∧ some [D.bool (decide (kind = 2))] = some [.bool (c' && !(brk 13 && !decide (kind = 2)))]
    cases decide (kind = 2) <;> exact ⟨_, rfl, rfl⟩
  · obtain ⟨b, b', g1, g2, g3, g4⟩ := IH (.inl rfl) true s l kind
    have hC := r112a hks hlen g1
    rw [hk] at hC
    show ∃ c' : Bool, (opt (cond (bif bif bif e then false else true then !decide (ks = []) else false then true else false) (RUN E 46 [.list ks, .int 14, .agg [.bool true, .bool s, .bool l, .bool (decide (kind = 10)), .bool (decide (kind = 2))]]) (some [])) fun ρ7 => some [D.bool (bif bif !e then !decide (ks = []) else false then D.toBool (List.getD ρ7 0 D.no) else false)]) = some [.bool c'] ∧
      cond e (some [D.bool false]) (C95a x true s l kind) = some [.bool (c' && !(brk 14 && !decide (kind = 2)))]
    rw [g2, hC]
    by_cases hs : ks = []
    · rw [dec_t hs]; cases e <;> exact ⟨_, rfl, rfl⟩
    · rw [dec_f hs, g3 hs]; cases e <;> cases ec 14 ks <;> cases b <;> exact ⟨_, rfl, rfl⟩
  · obtain ⟨b, b', g1, g2, g3, g4⟩ := IH (.inr (.inl rfl)) e true l kind
    have hC := r112a hks hlen g1
    rw [hk] at hC
    show ∃ c' : Bool, (opt (cond (bif bif bif s then false else true then !decide (ks = []) else false then true else false) (RUN E 46 [.list ks, .int 15, .agg [.bool e, .bool true, .bool l, .bool (decide (kind = 10)), .bool (decide (kind = 2))]]) (some [])) fun ρ7 => some [D.bool (bif bif !s then !decide (ks = []) else false then D.toBool (List.getD ρ7 0 D.no) else false)]) = some [.bool c'] ∧
      cond s (some [D.bool false]) (C95a x e true l kind) = some [.bool (c' && !(brk 15 && !decide (kind = 2)))]
    rw [g2, hC]
    by_cases hs : ks = []
    · rw [dec_t hs]; cases s <;> exact ⟨_, rfl, rfl⟩
    · rw [dec_f hs, g3 hs]; cases s <;> cases ec 15 ks <;> cases b <;> exact ⟨_, rfl, rfl⟩
  · obtain ⟨hd, hti⟩ := hc rfl
    rw [hd, hti]
    simp only [r67, enter85, r126, List.append_nil]
    generalize D.toStr (D.cell x 2) = t
    show ∃ c' : Bool, (opt (cond (bif bif decide (t = []) then false else true then true else false) (some [D.bool (t.contains 96)]) (some [])) fun ρ5 => some [D.bool (bif bif !decide (t = []) then !D.toBool (List.getD ρ5 0 D.no) else false then !bif t.contains 124 then decide (kind = 10) else false else false)]) = some [.bool c'] ∧
      (opt (cond (bif bif decide (t = []) then false else true then true else false) (some [D.int (Lib.indexByte t 96)]) (some [])) fun ρ2 =>
        opt (cond (bif bif bif decide (t = []) then false else true then decide (D.toInt (List.getD ρ2 0 D.no) < 0) else false then true else false) (some [D.bool (!(decide (kind = 10) && t.contains 124))]) (some [])) fun ρ3 =>
          some [D.bool (bif bif !decide (t = []) then decide (D.toInt (List.getD ρ2 0 D.no) < 0) else false then D.toBool (List.getD ρ3 0 D.no) else false)]) = some [.bool (c' && !(brk 16 && !decide (kind = 2)))]
    cases decide (t = []) with
    | true => exact ⟨_, rfl, rfl⟩
    | false =>
      simp only [cond_true, cond_false, opt_s, List.getD_cons_zero, tI, tB, has_lt]
      cases t.contains 96 <;> cases t.contains 124 <;> cases decide (kind = 10) <;> exact ⟨_, rfl, rfl⟩
  · have ht := hl rfl
    obtain ⟨b, b', g1, g2, g3, g4⟩ := IH (.inr (.inr rfl)) e s true kind
    have hC := r112a hks hlen g1
    rw [hk] at hC
    rw [ht]
    simp only [r113 hm, r127 hm, List.nil_append, has_app]
    generalize (!decide (D.toStr (D.cell x 3) = []) && (D.toStr (D.cell x 3)).all inD && (D.toStr (D.cell x 4)).all inT) = G
    generalize ((D.toStr (D.cell x 3)).contains 124 || (D.toStr (D.cell x 4)).contains 124) = H
    show ∃ c' : Bool, (opt (cond (bif bif l then false else true then true else false) (some [D.bool G]) (some [])) fun ρ9 =>
      opt (cond (bif bif bif bif bif l then false else true then D.toBool (List.getD ρ9 0 D.no) else false then bif bif H then decide (kind = 10) else false then false else true else false then !decide (ks = []) else false then true else false) (RUN E 46 [.list ks, .int 17, .agg [.bool e, .bool s, .bool true, .bool (decide (kind = 10)), .bool (decide (kind = 2))]]) (some [])) fun ρ10 =>
        some [D.bool (bif bif bif bif !l then D.toBool (List.getD ρ9 0 D.no) else false then !bif H then decide (kind = 10) else false else false then !decide (ks = []) else false then D.toBool (List.getD ρ10 0 D.no) else false)]) = some [.bool c'] ∧
      (opt (cond (bif l then false else true) (some [D.bool (G && !(decide (kind = 10) && H))]) (some [])) fun ρ6 =>
        cond (bif l then true else bif D.toBool (List.getD ρ6 0 D.no) then false else true) (some [D.bool false]) (C95a x e s true kind)) = some [.bool (c' && !(brk 17 && !decide (kind = 2)))]
    rw [g2, hC]
    by_cases hs : ks = []
    · rw [dec_t hs]; cases l <;> cases G <;> cases H <;> cases decide (kind = 10) <;> exact ⟨_, rfl, rfl⟩
    · rw [dec_f hs, g3 hs]; cases l <;> cases G <;> cases H <;> cases decide (kind = 10) <;> cases ec 17 ks <;> cases b <;> exact ⟨_, rfl, rfl⟩
  · have hA : RUN E 102 [.str (D.toStr (D.cell x 3) ++ D.toStr (D.cell x 4)), .str [91, 93, 96]] = some [.bool ((D.toStr (D.cell x 3) ++ D.toStr (D.cell x 4)).any (([91, 93, 96] : List UInt8).contains ·))] := r114 _ _ (by rw [List.length_append]; omega) (by decide) (by decide) (by decide)
    rw [hlim]
    simp only [r113 hm, r127 hm, r126, hA, has_app]
    generalize (!decide (D.toStr (D.cell x 3) = []) && (D.toStr (D.cell x 3)).all inD && (D.toStr (D.cell x 4)).all inT) = G
    generalize (D.toStr (D.cell x 2)).contains 124 = Ht
    generalize (D.toStr (D.cell x 3)).contains 124 = Hd
    generalize (D.toStr (D.cell x 4)).contains 124 = Hi
    generalize (D.toStr (D.cell x 3) ++ D.toStr (D.cell x 4)).any (([91, 93, 96] : List UInt8).contains ·) = A
    show ∃ c' : Bool, (opt (some [D.bool G]) fun ρ6 => cond true
        (opt (cond (bif bif l then true else false then bif bif D.toBool (List.getD ρ6 0 D.no) then bif bif Ht || Hd || Hi then decide (kind = 10) else false then false else true else false then true else false else false) (some [D.bool A]) (some [])) fun ρ8 =>
          some [D.bool (bif bif D.toBool (List.getD ρ6 0 D.no) then !bif Ht || Hd || Hi then decide (kind = 10) else false else false then !bif l then D.toBool (List.getD ρ8 0 D.no) else false else false)]) none) = some [.bool c'] ∧
      cond true (opt (cond (bif l then true else false) (some [D.bool A]) (some [])) fun ρ6 =>
        cond (bif l then D.toBool (List.getD ρ6 0 D.no) else false) (some [D.bool false])
          (opt (some [D.bool (G && !(decide (kind = 10) && (Hd || Hi)))]) fun ρ8 => opt (cond (bif D.toBool (List.getD ρ8 0 D.no) then true else false) (some [D.bool (!(decide (kind = 10) && Ht))]) (some [])) fun ρ9 => some [D.bool (bif D.toBool (List.getD ρ8 0 D.no) then D.toBool (List.getD ρ9 0 D.no) else false)])) none = some [.bool (c' && !(brk 18 && !decide (kind = 2)))]
    cases l <;> cases G <;> cases Ht <;> cases Hd <;> cases Hi <;> cases A <;> cases decide (kind = 10) <;> exact ⟨_, rfl, rfl⟩
end chk
end Go.Proofs.YtlmfiknfkgdbpaaGreatDoor.pr
