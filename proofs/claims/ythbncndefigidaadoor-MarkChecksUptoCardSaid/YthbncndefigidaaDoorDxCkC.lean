/- A part of the proof. -/
import Derived.Test.YthbncndefigidaaDoorDxCkB
set_option linter.unusedVariables false
set_option linter.unusedSimpArgs false
namespace Go.Proofs.YthbncndefigidaaDoor.mc
open Go.Proofs.YthbncndefigidaaDoor.DS
namespace check

theorem opt_s {α β : Type} (a : α) (f : α → Option β) : opt (some a) f = f a := rfl

theorem enter104 (s0 : List UInt8) (c1 : Int) : RUN E 104 [D.str s0, D.int c1] = some [D.int (Lib.indexByte s0 (Nat.toUInt8 (Int.toNat c1)))] := (RUN_eq _ _ _).trans (by kernel_rfl)
theorem enter67 (s0 : List UInt8) (c : UInt8) : RUN E 67 [D.str s0, D.str [c]] = some [D.bool (decide (0 ≤ Lib.indexByte s0 c))] := (RUN_eq _ _ _).trans (by kernel_rfl)
inductive Nd : D → Prop
  | mk (k l : Int) (t d ti : List UInt8) (ks : List D) (h : ∀ x ∈ ks, Nd x) : Nd (.agg [.int k, .int l, .str t, .str d, .str ti, .list ks])
def AllN (l : List D) : Prop := ∀ x ∈ l, Nd x
def kidsOf (x : D) : List D := (x.cell 5).toList
theorem doc_ind {S : List D → Prop} (step : ∀ ks, AllN ks → (∀ x ∈ ks, S (kidsOf x)) → S ks) : ∀ ks, AllN ks → S ks := by
  have key : ∀ x, Nd x → S (kidsOf x) := by
    intro x h
    induction h with
    | mk k l t d ti ks h ih => exact step ks h ih
  intro ks h
  exact step ks h fun x hx => key x (h x hx)
theorem Nd.kids {x : D} (h : Nd x) : AllN (kidsOf x) := by
  cases h with
  | mk k l t d ti ks h => exact h
theorem mass_nd {x : D} (h : Nd x) : dmass.dmAll (kidsOf x) + 1 ≤ dmass x := by
  cases h with
  | mk k l t d ti ks h => simp only [kidsOf, D.cell, D.cells, List.getD_cons_succ, List.getD_cons_zero, D.toList, dmass, dmass.dmAll]; omega
theorem len_le {l : List D} : AllN l → l.length ≤ dmass.dmAll l := by
  induction l with
  | nil => intro _; simp
  | cons x r ih =>
    intro h
    have h1 := mass_nd (h x List.mem_cons_self)
    have h2 := ih (fun y hy => h y (List.mem_cons_of_mem _ hy))
    simp only [dmass.dmAll, List.length_cons]; omega
theorem drop_mass {l : List D} {i : Nat} (h : i < l.length) : dmass.dmAll (l.drop i) = dmass l[i] + dmass.dmAll (l.drop (i + 1)) := by
  rw [List.drop_eq_getElem_cons h]; rfl
theorem drop_le (l : List D) : ∀ i, dmass.dmAll (l.drop i) ≤ dmass.dmAll l := by
  induction l with
  | nil => intro i; simp
  | cons x r ih =>
    intro i
    cases i with
    | zero => simp
    | succ i => have := ih i; simp only [List.drop_succ_cons, dmass.dmAll]; omega

/-- The number of nodes. -/
theorem nodes : ∀ l, AllN l → dmass.dmAll l ≤ 1048576 → ∃ n m : Int, RUN E 29 [.list l] = some [.int n] ∧ RUN E 26 [.list l] = some [.int m] ∧ 0 ≤ n ∧ n ≤ dmass.dmAll l ∧ 0 ≤ m ∧ m ≤ n ∧ (n ≤ 4000 → m = n) ∧ (4000 < n → 4000 < m) := by
  refine doc_ind ?_
  intro l hN hk hb
  have hlen := len_le hN
  have loop : ∀ r i : Nat, i + r = l.length → ∃ s : Int, 0 ≤ s ∧ s + (r : Int) ≤ dmass.dmAll (l.drop i) ∧ (∀ c : Int, 0 ≤ c → c + s ≤ 4194304 → L29a c l l.length i = some [.int (c + s)]) ∧
      ∀ a : Int, 0 ≤ a → a ≤ 4000 → ∃ m : Int, L26a l a l.length i = some [.int m] ∧ 0 ≤ m ∧ m ≤ a + r + s ∧ (a + r + s ≤ 4000 → m = a + r + s) ∧ (4000 < a + r + s → 4000 < m) := by
    intro r
    induction r with
    | zero =>
      intro i hi
      refine ⟨0, by omega, by simp, fun c h1 h2 => ?_, fun a h1 h2 => ⟨a, ?_, h1, by omega, fun _ => by omega, fun h => by omega⟩⟩
      · rw [round29a, dec_f (by omega)]; simp
      · rw [round26a, dec_f (by omega)]; simp
    | succ r ih =>
      intro i hi
      have hil : i < l.length := by omega
      have hx := hN l[i] (List.getElem_mem hil)
      have hdm := drop_mass hil
      have hdl := drop_le l i
      have hmx := mass_nd hx
      obtain ⟨n', m', e1, e2, e3, e4, e5, e6, e7, e8⟩ := hk l[i] (List.getElem_mem hil) (by omega)
      obtain ⟨s, f1, f2, f3, f4⟩ := ih (i + 1) (by omega)
      have hg : l.getD i .no = l[i] := getD_eq l i .no hil
      have hki : D.toList (D.cell l[i] 5) = kidsOf l[i] := rfl
      have hnext : IntKind.wrap .i64 ((i : Int) + 1) = ((i + 1 : Nat) : Int) := by rw [wrap_id (by omega) (by omega)]; omega
      refine ⟨n' + s, by omega, by omega, fun c h1 h3 => ?_, fun a h1 h2 => ?_⟩
      · rw [round29a, dec_t (by omega), inb_nat hil]
        simp only [cond_true, Int.toNat_natCast, hg, hki, e1, opt_s, List.getD_cons_zero, D.toInt, hnext]
        rw [wrap_id (by omega) (by omega), f3 _ (by omega) (by omega)]
        rw [Int.add_assoc]
      · rw [round26a, dec_t (by omega), inb_nat hil]
        simp only [cond_true, Int.toNat_natCast, hg, hki, e2, opt_s, List.getD_cons_zero, D.toInt, hnext]
        rw [wrap_id (i := a + 1) (by omega) (by omega), wrap_id (i := a + 1 + m') (by omega) (by omega)]
        by_cases g1 : 4000 < a + 1
        · rw [dec_t g1]
          exact ⟨_, rfl, by omega, by omega, fun h => by omega, fun _ => g1⟩
        · rw [dec_f g1]
          by_cases g2 : 4000 < a + 1 + m'
          · rw [dec_t g2]
            exact ⟨_, rfl, by omega, by omega, fun h => by omega, fun _ => g2⟩
          · rw [dec_f g2]
            obtain ⟨m, q1, q2, q3, q4, q5⟩ := f4 (a + 1 + m') (by omega) (by omega)
            have hm : n' = m' := by
              by_cases h : n' ≤ 4000
              · exact (e7 h).symm
              · have := e8 (by omega); omega
            subst hm
            exact ⟨m, q1, q2, by omega, fun h => by rw [q4 (by omega)]; omega, fun h => q5 (by omega)⟩
  obtain ⟨s, h1, h2, h3, h4⟩ := loop l.length 0 (by omega)
  obtain ⟨m, q1, q2, q3, q4, q5⟩ := h4 0 (by omega) (by omega)
  simp only [List.drop_zero] at h2
  refine ⟨l.length + s, m, ?_, ?_, by omega, by omega, q2, by omega, fun h => by rw [q4 (by omega)]; omega, fun h => q5 (by omega)⟩
  · rw [enter29]; exact h3 _ (by omega) (by omega)
  · rw [enter26]; exact q1

/-- How deep nodes are nested. -/
theorem deep : ∀ l, AllN l → dmass.dmAll l ≤ 1048576 → ∀ b n : Int, ∃ r : Bool, RUN E 30 [.list l, .int b, .int n] = some [.bool r] ∧ RUN E 27 [.list l, .int b, .int n] = some [.bool r] := by
  refine doc_ind ?_
  intro l hN hk hb b n
  have hlen := len_le hN
  have loop : ∀ r i : Nat, i + r = l.length → ∃ t : Bool, L30a b n l l.length i = some [.bool t] ∧ L27a l b n l.length i = some [.bool t] := by
    intro r
    induction r with
    | zero =>
      intro i hi
      refine ⟨false, ?_, ?_⟩
      · rw [round30a, dec_f (by omega)]; rfl
      · rw [round27a, dec_f (by omega)]; rfl
    | succ r ih =>
      intro i hi
      have hil : i < l.length := by omega
      have hx := hN l[i] (List.getElem_mem hil)
      have hdm := drop_mass hil
      have hdl := drop_le l i
      have hmx := mass_nd hx
      have hkid := hk l[i] (List.getElem_mem hil) (by omega)
      obtain ⟨t, f1, f2⟩ := ih (i + 1) (by omega)
      have hg : l.getD i .no = l[i] := getD_eq l i .no hil
      have hki : D.toList (D.cell l[i] 5) = kidsOf l[i] := rfl
      have hnext : IntKind.wrap .i64 ((i : Int) + 1) = ((i + 1 : Nat) : Int) := by rw [wrap_id (by omega) (by omega)]; omega
      rw [round30a, round27a, dec_t (show (i : Int) < (l.length : Int) by omega), inb_nat hil]
      simp only [cond_true, Int.toNat_natCast, hg, hki, enter52, enter50, opt_s, List.getD_cons_zero, D.toBool, hnext]
      generalize (bif decide (11 ≤ (D.cell l[i] 0).toInt) then decide ((D.cell l[i] 0).toInt ≤ 18) else false) = inl
      cases inl with
      | true =>
        obtain ⟨t', g1, g2⟩ := hkid b (IntKind.wrap .i64 (n + 1))
        simp only [cond_true, g1, g2]
        generalize (bif decide (12 < b) then true else decide (12 < IntKind.wrap .i64 (n + 1))) = c
        cases c with
        | true => exact ⟨true, rfl, rfl⟩
        | false =>
          simp only [cond_false, cond_true, opt_s, List.getD_cons_zero, D.toBool]
          cases t' with
          | true => exact ⟨true, rfl, rfl⟩
          | false => exact ⟨t, f1, f2⟩
      | false =>
        obtain ⟨t', g1, g2⟩ := hkid (IntKind.wrap .i64 (b + 1)) n
        simp only [cond_false, g1, g2, cond_true]
        generalize (bif decide (12 < IntKind.wrap .i64 (b + 1)) then true else decide (12 < n)) = c
        cases c with
        | true => exact ⟨true, rfl, rfl⟩
        | false =>
          simp only [cond_false, cond_true, opt_s, List.getD_cons_zero, D.toBool]
          cases t' with
          | true => exact ⟨true, rfl, rfl⟩
          | false => exact ⟨t, f1, f2⟩
  obtain ⟨t, h1, h2⟩ := loop l.length 0 (by omega)
  exact ⟨t, by rw [enter30]; exact h1, by rw [enter27]; exact h2⟩

/-- Bytes that are not permitted. -/
theorem bytes {p : List UInt8} {tab feed : Bool} (hp : ∀ c : UInt8, decide (Lib.indexByte p c < 0) = !((tab && decide ((c.toNat : Int) = 9)) || (feed && decide ((c.toNat : Int) = 10)))) (s : List UInt8) (hs : s.length ≤ 1048576) :
    ∃ r : Bool, RUN E 70 [.str s, .bool tab, .bool feed] = some [.bool r] ∧ RUN E 84 [.str s, .str p] = some [.bool r] := by
  have loop : ∀ r i : Nat, i + r = s.length → ∃ t : Bool, L70a s tab feed i = some [.bool t] ∧ L84a s p i = some [.bool t] := by
    intro r
    induction r with
    | zero =>
      intro i hi
      refine ⟨false, ?_, ?_⟩
      · rw [round70a, dec_f (by omega)]; rfl
      · rw [round84a, dec_f (by omega)]; rfl
    | succ r ih =>
      intro i hi
      have hil : i < s.length := by omega
      obtain ⟨t, f1, f2⟩ := ih (i + 1) (by omega)
      have hnext : IntKind.wrap .i64 ((i : Int) + 1) = ((i + 1 : Nat) : Int) := by rw [wrap_id (by omega) (by omega)]; omega
      rw [round70a, round84a, dec_t (show (i : Int) < (s.length : Int) by omega), inb_nat hil]
      simp only [cond_true, Int.toNat_natCast, hnext]
      obtain ⟨c, hc⟩ : ∃ c, c = s.getD i 0 := ⟨_, rfl⟩
      simp only [← hc]
      have hpc := hp c
      have hcc : Nat.toUInt8 (Int.toNat (c.toNat : Int)) = c := by simp
      simp only [enter104, hcc]
      by_cases h32 : (c.toNat : Int) < 32
      · simp only [dec_t h32, cond_true, opt_s, List.getD_cons_zero, D.toInt, hpc, f1, f2]
        generalize decide ((c.toNat : Int) = 9) = d9
        generalize decide ((c.toNat : Int) = 10) = d10
        cases tab <;> cases feed <;> cases d9 <;> cases d10 <;> first | exact ⟨true, rfl, rfl⟩ | exact ⟨t, rfl, rfl⟩
      · simp only [dec_f h32, cond_true, cond_false, opt_s]
        exact ⟨t, f1, f2⟩
  obtain ⟨t, h1, h2⟩ := loop s.length 0 (by omega)
  exact ⟨t, by rw [enter70]; exact h1, by rw [enter84]; exact h2⟩

theorem tB (b : Bool) : D.toBool (.bool b) = b := rfl
theorem tI (n : Int) : D.toInt (.int n) = n := rfl
theorem tS (x : List UInt8) : D.toStr (.str x) = x := rfl
theorem tL (x : List D) : D.toList (.list x) = x := rfl
theorem perm (p k : Int) : ∃ b : Bool, RUN E 69 [.int p, .int k] = some [.bool b] ∧ RUN E 64 [.int k, .int p] = some [.bool b] ∧ (b = true → 1 ≤ k ∧ k ≤ 18) := by
  have e : RUN E 64 [.int k, .int p] = RUN E 69 [.int p, .int k] := by
    rw [enter69, enter64]; simp only [enter57, enter82, enter52, enter50]
  have ex : ∃ b : Bool, RUN E 69 [.int p, .int k] = some [.bool b] ∧ (b = true → 1 ≤ k ∧ k ≤ 18) := by
    have hc : ∀ (c : Bool) (x y : R), (∃ b : Bool, x = some [.bool b] ∧ (b = true → 1 ≤ k ∧ k ≤ 18)) → (∃ b : Bool, y = some [.bool b] ∧ (b = true → 1 ≤ k ∧ k ≤ 18)) → ∃ b : Bool, cond c x y = some [.bool b] ∧ (b = true → 1 ≤ k ∧ k ≤ 18) := by
      intro c x y h1 h2; cases c
      · exact h2
      · exact h1
    rw [enter69]
    simp only [enter57, enter52, opt_s, List.getD_cons_zero, D.toBool]
    repeat' (first | exact ⟨_, rfl, fun h => by first | (simp at h; omega) | cases h⟩ | apply hc)
  obtain ⟨b, h1, h2⟩ := ex
  exact ⟨b, h1, e.trans h1, h2⟩
theorem un (c : UInt8) (z : Bool) (u : List UInt8) : RUN E 66 [.str [c], .bool z, .str u] = some [.bool (!z && !decide (0 ≤ Lib.indexByte u c))] := by
  rw [enter66, enter67]
  cases z <;> rfl
theorem three {a1 b1 a2 b2 a3 b3 : List UInt8} {q1 q2 q3 : Bool} (h1 : RUN E 84 [.str a1, .str b1] = some [.bool q1]) (h2 : RUN E 84 [.str a2, .str b2] = some [.bool q2]) (h3 : RUN E 84 [.str a3, .str b3] = some [.bool q3]) :
    (opt (RUN E 84 [.str a1, .str b1]) fun r2 =>
      opt (cond (bif D.toBool (List.getD r2 0 D.no) then false else true) (RUN E 84 [.str a2, .str b2]) (some [])) fun r3 =>
        opt (cond (bif bif D.toBool (List.getD r2 0 D.no) then true else D.toBool (List.getD r3 0 D.no) then false else true) (RUN E 84 [.str a3, .str b3]) (some [])) fun r4 =>
          some [D.bool (bif bif D.toBool (List.getD r2 0 D.no) then true else D.toBool (List.getD r3 0 D.no) then true else D.toBool (List.getD r4 0 D.no))]) = some [.bool (q1 || q2 || q3)] := by
  rw [h1, h2, h3]
  cases q1 <;> cases q2 <;> cases q3 <;> rfl
def U (k : Int) : List UInt8 := if k = 1 ∨ k = 5 then [76, 75] else if k = 2 ∨ k = 4 ∨ k = 6 ∨ k = 8 ∨ k = 9 ∨ k = 10 ∨ k = 14 ∨ k = 15 then [75] else if k = 3 then [84, 68] else if k = 11 ∨ k = 16 then [84] else if k = 17 then [68, 78, 75] else if k = 18 then [68, 78, 84] else []
theorem kcases {k : Int} (h1 : 1 ≤ k) (h2 : k ≤ 18) : k = 1 ∨ k = 2 ∨ k = 3 ∨ k = 4 ∨ k = 5 ∨ k = 6 ∨ k = 7 ∨ k = 8 ∨ k = 9 ∨ k = 10 ∨ k = 11 ∨ k = 12 ∨ k = 13 ∨ k = 14 ∨ k = 15 ∨ k = 16 ∨ k = 17 ∨ k = 18 := by omega
theorem uses {k : Int} (h1 : 1 ≤ k) (h2 : k ≤ 18) : RUN E 65 [.int k] = some [.str (U k)] := by
  rcases kcases h1 h2 with h | h | h | h | h | h | h | h | h | h | h | h | h | h | h | h | h | h <;> subst h <;> exact (enter65 _).trans (by rfl)
def P1 (k : Int) : List UInt8 := if k = 11 ∨ k = 16 ∨ k = 18 then [9] else if k = 3 then [9, 10] else []
def P2 (k : Int) : List UInt8 := if k = 3 then [9] else []
theorem fault {k l : Int} {t d ti : List UInt8} {ks : List D} (h1 : 1 ≤ k) (h2 : k ≤ 18) {q1 q2 q3 : Bool} (g1 : RUN E 84 [.str t, .str (P1 k)] = some [.bool q1]) (g2 : RUN E 84 [.str d, .str (P2 k)] = some [.bool q2]) (g3 : RUN E 84 [.str ti, .str [9]] = some [.bool q3]) :
    RUN E 68 [.agg [.int k, .int l, .str t, .str d, .str ti, .list ks]] = some [.bool (q1 || q2 || q3)] := by
  rw [enter68]
  rcases kcases h1 h2 with h | h | h | h | h | h | h | h | h | h | h | h | h | h | h | h | h | h <;> subst h <;> exact three g1 g2 g3

theorem u8_ne {c a : UInt8} {n : Nat} (ha : a.toNat = n) (h : ¬ c = a) : ¬ (c.toNat : Int) = (n : Int) := by
  intro e
  exact h (UInt8.toNat_inj.1 (by omega))
theorem hp9 (c : UInt8) : decide (Lib.indexByte [9] c < 0) = !((true && decide ((c.toNat : Int) = 9)) || (false && decide ((c.toNat : Int) = 10))) := by
  by_cases h : c = 9
  · subst h; decide
  · have h1 := u8_ne (n := 9) rfl h
    have h2 : (9 == c) = false := by simp; exact fun e => h e.symm
    simp [Lib.indexByte, h2]; omega
theorem hp0 (c : UInt8) : decide (Lib.indexByte [] c < 0) = !((false && decide ((c.toNat : Int) = 9)) || (false && decide ((c.toNat : Int) = 10))) := by
  simp [Lib.indexByte]
theorem hp910 (c : UInt8) : decide (Lib.indexByte [9, 10] c < 0) = !((true && decide ((c.toNat : Int) = 9)) || (true && decide ((c.toNat : Int) = 10))) := by
  by_cases h : c = 9
  · subst h; decide
  · by_cases g : c = 10
    · subst g; decide
    · have h1 := u8_ne (n := 9) rfl h
      have h3 := u8_ne (n := 10) rfl g
      have h2 : (9 == c) = false := by simp; exact fun e => h e.symm
      have h4 : (10 == c) = false := by simp; exact fun e => g e.symm
      simp [Lib.indexByte, h2, h4]; omega
theorem none67 (feed : Bool) : RUN E 70 [.str [], .bool true, .bool feed] = some [.bool false] := by
  rw [enter70, round70a]; rfl
theorem none43 (p : List UInt8) : RUN E 84 [.str [], .str p] = some [.bool false] := by
  rw [enter84, round84a]; rfl
def isText (k : Int) : Bool := decide (k = 3 ∨ k = 11 ∨ k = 16 ∨ k = 18)
theorem textB {k : Int} (t : List UInt8) (hl : t.length ≤ 1048576) (ht : isText k = true ∨ t = []) : ∃ r : Bool, RUN E 70 [.str t, .bool true, .bool (decide (k = 3))] = some [.bool r] ∧ RUN E 84 [.str t, .str (P1 k)] = some [.bool r] := by
  rcases ht with ht | rfl
  · simp only [isText, decide_eq_true_eq] at ht
    rcases ht with rfl | rfl | rfl | rfl
    · exact bytes hp910 t hl
    · exact bytes hp9 t hl
    · exact bytes hp9 t hl
    · exact bytes hp9 t hl
  · exact ⟨false, none67 _, none43 _⟩
theorem destB {k : Int} (t : List UInt8) (hl : t.length ≤ 1048576) : ∃ r : Bool, RUN E 70 [.str t, .bool (decide (k = 3)), .bool false] = some [.bool r] ∧ RUN E 84 [.str t, .str (P2 k)] = some [.bool r] := by
  by_cases h : k = 3
  · subst h; exact bytes hp9 t hl
  · rw [dec_f h, show P2 k = [] by simp [P2, h]]
    exact bytes hp0 t hl
theorem titleB (t : List UInt8) (hl : t.length ≤ 1048576) : ∃ r : Bool, RUN E 70 [.str t, .bool true, .bool false] = some [.bool r] ∧ RUN E 84 [.str t, .str [9]] = some [.bool r] := bytes hp9 t hl
theorem three67 {a1 a2 a3 : List UInt8} {x1 y1 x2 y2 x3 y3 : Bool} {q1 q2 q3 : Bool} (h1 : RUN E 70 [.str a1, .bool x1, .bool y1] = some [.bool q1]) (h2 : RUN E 70 [.str a2, .bool x2, .bool y2] = some [.bool q2]) (h3 : RUN E 70 [.str a3, .bool x3, .bool y3] = some [.bool q3]) :
    (opt (RUN E 70 [.str a1, .bool x1, .bool y1]) fun r4 =>
      opt (cond (bif D.toBool (List.getD r4 0 D.no) then false else true) (RUN E 70 [.str a2, .bool x2, .bool y2]) (some [])) fun r5 =>
        opt (cond (bif bif D.toBool (List.getD r4 0 D.no) then true else D.toBool (List.getD r5 0 D.no) then false else true) (RUN E 70 [.str a3, .bool x3, .bool y3]) (some [])) fun r6 =>
          cond (bif bif D.toBool (List.getD r4 0 D.no) then true else D.toBool (List.getD r5 0 D.no) then true else D.toBool (List.getD r6 0 D.no)) (some [D.int 9]) (some [D.int 0])) = cond (q1 || q2 || q3) (some [.int 9]) (some [.int 0]) := by
  rw [h1, h2, h3]
  cases q1 <;> cases q2 <;> cases q3 <;> rfl
/-- The five fields that a kind does not use. -/
theorem five {u : List UInt8} {z1 z2 z3 z4 z5 : Bool} (K : R) :
    (opt (RUN E 66 [.str [76], .bool z1, .str u]) fun r4 =>
      opt (cond (bif D.toBool (List.getD r4 0 D.no) then false else true) (RUN E 66 [.str [84], .bool z2, .str u]) (some [])) fun r5 =>
      opt (cond (bif bif D.toBool (List.getD r4 0 D.no) then true else D.toBool (List.getD r5 0 D.no) then false else true) (RUN E 66 [.str [68], .bool z3, .str u]) (some [])) fun r6 =>
      opt (cond (bif bif bif D.toBool (List.getD r4 0 D.no) then true else D.toBool (List.getD r5 0 D.no) then true else D.toBool (List.getD r6 0 D.no) then false else true) (RUN E 66 [.str [78], .bool z4, .str u]) (some [])) fun r7 =>
      opt (cond (bif bif bif bif D.toBool (List.getD r4 0 D.no) then true else D.toBool (List.getD r5 0 D.no) then true else D.toBool (List.getD r6 0 D.no) then true else D.toBool (List.getD r7 0 D.no) then false else true) (RUN E 66 [.str [75], .bool z5, .str u]) (some [])) fun r8 =>
      cond (bif bif bif bif D.toBool (List.getD r4 0 D.no) then true else D.toBool (List.getD r5 0 D.no) then true else D.toBool (List.getD r6 0 D.no) then true else D.toBool (List.getD r7 0 D.no) then true else D.toBool (List.getD r8 0 D.no)) (some [D.int 1]) K) =
    cond ((!z1 && !decide (0 ≤ Lib.indexByte u 76)) || (!z2 && !decide (0 ≤ Lib.indexByte u 84)) || (!z3 && !decide (0 ≤ Lib.indexByte u 68)) || (!z4 && !decide (0 ≤ Lib.indexByte u 78)) || (!z5 && !decide (0 ≤ Lib.indexByte u 75))) (some [.int 1]) K := by
  rw [un, un, un, un, un]
  generalize (!z1 && !decide (0 ≤ Lib.indexByte u 76)) = a1
  generalize (!z2 && !decide (0 ≤ Lib.indexByte u 84)) = a2
  generalize (!z3 && !decide (0 ≤ Lib.indexByte u 68)) = a3
  generalize (!z4 && !decide (0 ≤ Lib.indexByte u 78)) = a4
  generalize (!z5 && !decide (0 ≤ Lib.indexByte u 75)) = a5
  cases a1 <;> cases a2 <;> cases a3 <;> cases a4 <;> cases a5 <;> rfl

def C53 (k : Int) (zl zt zd zn nk : Bool) : Bool := (bif bif bif bif bif bif bif decide (k = 1) then false else true then bif decide (k = 5) then false else true else false then bif zl then false else true else false then true else bif bif bif bif bif decide (k = 3) then true else decide (k = 11) then true else decide (k = 16) then true else decide (k = 18) then false else true then bif zt then false else true else false then true else bif bif bif bif decide (k = 3) then true else decide (k = 17) then true else decide (k = 18) then false else true then bif zd then false else true else false then true else bif bif bif decide (k = 17) then true else decide (k = 18) then false else true then bif zn then false else true else false then true else bif bif bif bif bif bif bif bif bif decide (k = 3) then false else true then bif decide (k = 7) then false else true else false then bif decide (k = 11) then false else true else false then bif decide (k = 12) then false else true else false then bif decide (k = 13) then false else true else false then bif decide (k = 16) then false else true else false then bif decide (k = 18) then false else true else false then false else true then nk else false)
def C51 (u : List UInt8) (z1 z2 z3 z4 z5 : Bool) : Bool := (!z1 && !decide (0 ≤ Lib.indexByte u 76)) || (!z2 && !decide (0 ≤ Lib.indexByte u 84)) || (!z3 && !decide (0 ≤ Lib.indexByte u 68)) || (!z4 && !decide (0 ≤ Lib.indexByte u 78)) || (!z5 && !decide (0 ≤ Lib.indexByte u 75))
def RG (k l : Int) : Bool := (bif bif decide (k = 1) then bif decide (l < 1) then true else decide (6 < l) else false then true else bif decide (k = 5) then bif decide (l < -1) then true else decide (9999 < l) else false)
theorem form {k : Int} (h1 : 1 ≤ k) (h2 : k ≤ 18) (zl zt zd zn zk : Bool) : C53 k zl zt zd zn (!zk) = C51 (U k) zl zt zd zn zk := by
  rcases kcases h1 h2 with h | h | h | h | h | h | h | h | h | h | h | h | h | h | h | h | h | h <;> subst h <;> cases zl <;> cases zt <;> cases zd <;> cases zn <;> cases zk <;> rfl
theorem form_text {k : Int} (h1 : 1 ≤ k) (h2 : k ≤ 18) {zl zt zd zn zk : Bool} (h : C53 k zl zt zd zn zk = false) : isText k = true ∨ zt = true := by
  cases zt with
  | true => exact .inr rfl
  | false =>
    left
    rcases kcases h1 h2 with g | g | g | g | g | g | g | g | g | g | g | g | g | g | g | g | g | g <;> subst g <;> first | rfl | (exfalso; cases zl <;> cases zd <;> cases zn <;> cases zk <;> cases h)
/-- A node's fault. -/
theorem nodeEq {k l : Int} {t d ti : List UInt8} {ks : List D} (ht : t.length ≤ 1048576) (hd : d.length ≤ 1048576) (hi : ti.length ≤ 1048576) (p : Int) :
    ∃ e : Int, RUN E 53 [.agg [.int k, .int l, .str t, .str d, .str ti, .list ks], .int p] = some [.int e] ∧ RUN E 51 [.agg [.int k, .int l, .str t, .str d, .str ti, .list ks], .int p] = some [.int e] := by
  obtain ⟨b, e1, e2, e3⟩ := perm p k
  rw [enter53, enter51]
  simp only [D.cell, D.cells, List.getD_cons_zero, List.getD_cons_succ, tI, tS, tL, e1, e2, opt_s, tB]
  cases b with
  | false => exact ⟨10, rfl, rfl⟩
  | true =>
    obtain ⟨h1, h2⟩ := e3 rfl
    simp only [uses h1 h2, opt_s, List.getD_cons_zero, tS, five, cond_true, cond_false]
    have hnk : decide ((0 : Int) < (ks.length : Int)) = !decide ((ks.length : Int) = 0) := by
      by_cases h : (ks.length : Int) = 0
      · rw [dec_t h, dec_f (by omega)]; rfl
      · rw [dec_f h, dec_t (by omega)]; rfl
    change ∃ e : Int, cond (RG k l) (some [D.int 2]) (cond (C53 k (decide (l = 0)) (decide (t = [])) (decide (d = [])) (decide (ti = [])) (decide ((0 : Int) < (ks.length : Int)))) (some [D.int 1]) _) = some [D.int e] ∧ cond (RG k l) (some [D.int 2]) (cond (C51 (U k) (decide (l = 0)) (decide (t = [])) (decide (d = [])) (decide (ti = [])) (decide ((ks.length : Int) = 0))) (some [D.int 1]) _) = some [D.int e]
    cases RG k l with
    | true => exact ⟨2, rfl, rfl⟩
    | false =>
      rw [hnk, form h1 h2, cond_false, cond_false]
      cases hf : C51 (U k) (decide (l = 0)) (decide (t = [])) (decide (d = [])) (decide (ti = [])) (decide ((ks.length : Int) = 0)) with
      | true => exact ⟨1, rfl, rfl⟩
      | false =>
        rw [← form h1 h2] at hf
        have htx : isText k = true ∨ t = [] := by
          rcases form_text h1 h2 hf with h | h
          · exact .inl h
          · exact .inr (by simpa using h)
        obtain ⟨q1, a1, b1⟩ := textB (k := k) t ht htx
        obtain ⟨q2, a2, b2⟩ := destB (k := k) d hd
        obtain ⟨q3, a3, b3⟩ := titleB ti hi
        rw [fault h1 h2 b1 b2 b3]
        simp only [cond_false, opt_s, List.getD_cons_zero, tB]
        rw [three67 a1 a2 a3]
        cases (q1 || q2 || q3) with
        | true => exact ⟨9, rfl, rfl⟩
        | false => exact ⟨0, rfl, rfl⟩

theorem nodeEq2 {x : D} (h : Nd x) (hb : dmass x ≤ 1048576) (p : Int) : ∃ e : Int, RUN E 53 [x, .int p] = some [.int e] ∧ RUN E 51 [x, .int p] = some [.int e] := by
  cases h with
  | mk k l t d ti ks h =>
    simp only [dmass, dmass.dmAll] at hb
    exact nodeEq (by omega) (by omega) (by omega) p
/-- The first fault of nodes. -/
theorem faults : ∀ l, AllN l → dmass.dmAll l ≤ 1048576 → ∀ p : Int, ∃ e : Int, RUN E 31 [.list l, .int p] = some [.int e] ∧ RUN E 28 [.list l, .int p] = some [.int e] := by
  refine doc_ind ?_
  intro l hN hk hb p
  have hlen := len_le hN
  have loop : ∀ r i : Nat, i + r = l.length → ∃ e : Int, L31a p l l.length i = some [.int e] ∧ L28a p l l.length i = some [.int e] := by
    intro r
    induction r with
    | zero =>
      intro i hi
      refine ⟨0, ?_, ?_⟩
      · rw [round31a, dec_f (by omega)]; rfl
      · rw [round28a, dec_f (by omega)]; rfl
    | succ r ih =>
      intro i hi
      have hil : i < l.length := by omega
      have hx := hN l[i] (List.getElem_mem hil)
      have hdm := drop_mass hil
      have hdl := drop_le l i
      have hmx := mass_nd hx
      obtain ⟨e, f1, f2⟩ := ih (i + 1) (by omega)
      have hg : l.getD i .no = l[i] := getD_eq l i .no hil
      have hki : D.toList (D.cell l[i] 5) = kidsOf l[i] := rfl
      have hnext : IntKind.wrap .i64 ((i : Int) + 1) = ((i + 1 : Nat) : Int) := by rw [wrap_id (by omega) (by omega)]; omega
      obtain ⟨e1, g1, g2⟩ := nodeEq2 hx (by omega) p
      obtain ⟨e2, g3, g4⟩ := hk l[i] (List.getElem_mem hil) (by omega) (D.toInt (D.cell l[i] 0))
      rw [round31a, round28a, dec_t (show (i : Int) < (l.length : Int) by omega), inb_nat hil]
      simp only [cond_true, Int.toNat_natCast, hg, hki, g1, g2, g3, g4, opt_s, List.getD_cons_zero, tI, hnext, f1, f2]
      cases decide (e1 = 0) with
      | false => exact ⟨e1, rfl, rfl⟩
      | true =>
        cases decide (e2 = 0) with
        | false => exact ⟨e2, rfl, rfl⟩
        | true => exact ⟨e, rfl, rfl⟩
  obtain ⟨e, h1, h2⟩ := loop l.length 0 (by omega)
  exact ⟨e, by rw [enter31]; exact h1, by rw [enter28]; exact h2⟩
/-- Check is DocError. -/
theorem check {l : List D} (hN : AllN l) (hb : dmass.dmAll l ≤ 1048576) : ∃ e : Int, RUN E 10 [.list l] = some [.int e] ∧ RUN E 9 [.list l] = some [.int e] ∧ (e = 0 → RUN E 31 [.list l, .int 0] = some [.int 0]) := by
  obtain ⟨n, m, h1, h2, h3, h4, h5, h6, h7, h8⟩ := nodes l hN hb
  obtain ⟨r, g1, g2⟩ := deep l hN hb 0 0
  obtain ⟨e, f1, f2⟩ := faults l hN hb 0
  rw [enter10, enter9]
  simp only [h1, h2, g1, g2, f1, f2, opt_s, List.getD_cons_zero, tI, tB]
  by_cases hn : 4000 < n
  · rw [dec_t hn, dec_t (h8 hn)]
    exact ⟨4, rfl, rfl, fun h => by cases h⟩
  · have := h7 (by omega)
    subst this
    rw [dec_f hn]
    cases r with
    | true => exact ⟨13, rfl, rfl, fun h => by cases h⟩
    | false => exact ⟨e, rfl, rfl, fun h => by rw [h]⟩

end check
end Go.Proofs.YthbncndefigidaaDoor.mc
