import Derived.Test.YtjofkhdnidjleabDoorDxTargB
set_option linter.unusedVariables false
set_option linter.unusedSimpArgs false
namespace Go.Proofs.YtjofkhdnidjleabDoor.tg
open Go.Proofs.YtjofkhdnidjleabDoor.DS
namespace res

theorem r66 (s : List UInt8) (c : UInt8) : RUN E 66 [.str s, .str [c]] = some [.int (Lib.indexByte s c)] := (RUN_eq _ _ _).trans (by kernel_rfl)
theorem r65 (s : List UInt8) (c : UInt8) : RUN E 65 [.str s, .str [c]] = some [.int (Lib.countByte s c : Int)] := (RUN_eq _ _ _).trans (by kernel_rfl)
theorem r28 (s p : List UInt8) (h : s.length ≤ 4194304) (hp : p.length ≤ 4194304) : RUN E 28 [.str s, .str p] = some [.bool (hasPre s p)] := by
  rw [enter28, enter45, pre_eq (by omega) (by omega)]; rfl
theorem r29 (s : List UInt8) (h : s.length ≤ 1048576) (c : UInt8) : RUN E 29 [.str s, .str [c]] = some [.list ((splitC c s).map .str)] := by
  have hc : s.count c ≤ s.length := List.count_le_length
  have n1 : IntKind.wrap IntKind.i64 ((s.count c : Int) + 1) = ((s.count c + 1 : Nat) : Int) := nxt (by omega)
  have n2 : IntKind.wrap IntKind.i64 ((s.length : Int) + 1) = ((s.length + 1 : Nat) : Int) := nxt (by omega)
  have mm : mmInt false ((s.count c + 1 : Nat) : Int) ((s.length + 1 : Nat) : Int) = ((s.count c + 1 : Nat) : Int) := by
    unfold mmInt; rw [dec_f (p := ((s.length + 1 : Nat) : Int) < ((s.count c + 1 : Nat) : Int)) (by omega)]; rfl
  have n3 : IntKind.wrap IntKind.i64 (((s.count c + 1 : Nat) : Int) - 1) = ((0 + s.count c : Nat) : Int) := by rw [wrap_id (by omega) (by omega)]; omega
  have lp := split_loop (L := fun s n i a => L46b s [c] 0 n i a) (X := fun s => RUN E 66 [.str s, .str [c]]) (c := c) (fun s _ => r66 s c) (fun s n i a => round46b s [c] 0 n i a) s.length s (Nat.le_refl _) (by omega) 0 (List.replicate (s.count c + 1) (.str [])) (by omega) (by simp)
  have e46 : RUN E 46 [.str s, .str [c], .int 0, .int (-1)] = some [.list ((splitC c s).map .str)] := by
    rw [enter46, dec_f (by omega), dec_f (by simp), dec_t (by omega), r65]
    simp only [cond_true, cond_false, opt_s, List.getD_cons_zero, tI, Lib.countByte, n1]
    rw [round46a, n2, mm, n3, dec_t (by omega), dec_t (by omega), dec_t (by rw [lim_val]; omega), Int.toNat_natCast]
    simpa using lp
  rw [enter29, e46]; rfl

/-! ### Parts -/
def ok1 (c : UInt8) : Bool := decide (97 ≤ (c.toNat : Int)) && decide ((c.toNat : Int) ≤ 122) || decide (48 ≤ (c.toNat : Int)) && decide ((c.toNat : Int) ≤ 57) || decide ((c.toNat : Int) = 45) || decide ((c.toNat : Int) = 95) || decide ((c.toNat : Int) = 46)
def part (s : List UInt8) : Bool := !(decide (s = ([] : List UInt8)) || decide (40 < (s.length : Int)) || decide (s = ([46] : List UInt8)) || decide (s = ([46, 46] : List UInt8))) && s.all ok1
theorem r30 (s : List UInt8) (h : s.length ≤ 1048576) : RUN E 30 [.str s] = some [.bool (part s)] := by
  have lp : L30a s 0 = some [.bool (s.all ok1)] := by
    refine all_loopS (L := fun i => L30a s i) (by show L30a s _ = _; rw [round30a, dec_f (by omega)]; rfl) fun i hi => ?_
    show L30a s i = _
    rw [round30a, dec_t (by omega), inb_nat hi, Int.toNat_natCast, nxt (by omega)]
    simp only [enter47, enter48]
    unfold ok1
    generalize ((s.getD i 0).toNat : Int) = x
    cases decide (97 ≤ x) <;> cases decide (x ≤ 122) <;> cases decide (48 ≤ x) <;> cases decide (x ≤ 57) <;> cases decide (x = 45) <;> cases decide (x = 95) <;> cases decide (x = 46) <;> rfl
  rw [enter30, lp]
  unfold part
  cases decide (s = ([] : List UInt8)) <;> cases decide (40 < (s.length : Int)) <;> cases decide (s = ([46] : List UInt8)) <;> cases decide (s = ([46, 46] : List UInt8)) <;> cases s.all ok1 <;> rfl
theorem r51 (x : Int) : RUN E 51 [.int x] = some [.bool (decide (97 ≤ x) && decide (x ≤ 122) || decide (48 ≤ x) && decide (x ≤ 57) || decide (x = 95))] := by
  rw [enter51]
  simp only [enter68]
  cases decide (97 ≤ x) <;> cases decide (x ≤ 122) <;> cases decide (48 ≤ x) <;> cases decide (x ≤ 57) <;> cases decide (x = 95) <;> rfl
theorem r34 (s : List UInt8) (h : s.length ≤ 1048576) : RUN E 34 [.str s] = some [.bool (part s)] := by
  have lp : L34a s 0 = some [.bool (s.all ok1)] := by
    refine all_loopS (L := fun i => L34a s i) (by show L34a s _ = _; rw [round34a, dec_f (by omega)]; rfl) fun i hi => ?_
    show L34a s i = _
    rw [round34a, dec_t (by omega), inb_nat hi, Int.toNat_natCast, nxt (by omega)]
    simp only [r51]
    unfold ok1
    generalize ((s.getD i 0).toNat : Int) = x
    cases decide (97 ≤ x) <;> cases decide (x ≤ 122) <;> cases decide (48 ≤ x) <;> cases decide (x ≤ 57) <;> cases decide (x = 45) <;> cases decide (x = 95) <;> cases decide (x = 46) <;> rfl
  have h0 : decide ((s.length : Int) < 1) = decide (s = ([] : List UInt8)) := by
    cases s with
    | nil => rfl
    | cons b r => rw [dec_f (p := (((b :: r).length : Nat) : Int) < 1) (by simp; omega), dec_f (by simp)]
  rw [enter34, lp, h0]
  unfold part
  cases decide (s = ([] : List UInt8)) <;> cases decide (40 < (s.length : Int)) <;> cases decide (s = ([46] : List UInt8)) <;> cases decide (s = ([46, 46] : List UInt8)) <;> cases s.all ok1 <;> rfl
theorem part_no {s : List UInt8} (h : part s = true) : (47 : UInt8) ∉ s := by
  intro hm
  unfold part at h
  simp only [Bool.and_eq_true] at h
  have := List.all_eq_true.1 h.2 47 hm
  revert this; decide

/-! ### Addresses -/
def fl (l : List (List UInt8)) : List UInt8 := l.flatMap (· ++ [47])
def ad (l : List (List UInt8)) : List UInt8 := 47 :: fl l
theorem ad_snoc (l : List (List UInt8)) (p : List UInt8) : ad (l ++ [p]) = ad l ++ (p ++ [47]) := by simp [ad, fl]
theorem ad_end (l : List (List UInt8)) : ∃ t, ad l = t ++ [47] := by
  rcases List.eq_nil_or_concat l with rfl | ⟨q, z, rfl⟩
  · exact ⟨[], rfl⟩
  · exact ⟨ad q ++ z, by rw [List.concat_eq_append, ad_snoc, List.append_assoc]⟩
theorem fl_cuts : ∀ (s w : List UInt8), fl (cuts 47 w s) = w ++ s ++ [47] := by
  intro s
  induction s with
  | nil => intro w; simp [cuts, fl]
  | cons b r ih =>
    intro w
    by_cases hb : b = 47
    · subst hb
      have := ih []
      simp only [cuts, fl, List.flatMap_cons] at this ⊢
      simp [this]
    · have hb2 : (b == 47) = false := by simpa using hb
      have := ih (w ++ [b])
      simp only [cuts, hb2] at this ⊢
      simpa using this
theorem fl_split (s : List UInt8) : fl (splitC 47 s) = s ++ [47] := by unfold splitC; rw [fl_cuts]; rfl
theorem getD_map (l : List (List UInt8)) {j : Nat} (h : j < l.length) : (l.map D.str).getD j .no = .str (l.getD j []) := by
  rw [List.getD_eq_getElem?_getD, List.getElem?_map, List.getD_eq_getElem?_getD, List.getElem?_eq_getElem h]; rfl
theorem r31 (l : List (List UInt8)) (h : (ad l).length ≤ 1048576) (hl : l.length ≤ 1048576) : RUN E 31 [.list (l.map .str)] = some [.str (ad l)] := by
  have key : ∀ n j : Nat, j + n = l.length → ∀ s : List UInt8, s.length + (fl (l.drop j)).length ≤ 1048576 → L31a s (l.map .str) (l.length : Int) (j : Int) = some [.str (s ++ fl (l.drop j))] := by
    intro n
    induction n with
    | zero =>
      intro j hj s hs
      have : j = l.length := by omega
      subst this
      rw [round31a, dec_f (by omega), List.drop_length]; simp [fl]
    | succ n ih =>
      intro j hj s hs
      have hjl : j < l.length := by omega
      rw [drop_cons [] hjl] at hs ⊢
      have e : fl (l.getD j [] :: l.drop (j + 1)) = l.getD j [] ++ [47] ++ fl (l.drop (j + 1)) := by simp [fl]
      rw [e] at hs ⊢
      simp only [List.length_append, List.length_singleton] at hs
      rw [round31a, dec_t (by omega), inb_nat (by simpa using hjl), Int.toNat_natCast, nxt (by omega), getD_map l hjl, tS]
      generalize l.getD j [] = q at *
      rw [lim_t (by simp; omega), lim_t (by simp; omega), cond_true, cond_true, cond_true, cond_true, ih (j + 1) (by omega) _ (by simp; omega)]
      simp
  have := key l.length 0 (by omega) [47] (by rw [List.drop_zero]; simp [ad] at h ⊢; omega)
  rw [enter31, List.length_map]
  simpa [ad] using this

/-! ### The last slash -/
theorem last_loop (t x : List UInt8) (hx : (47 : UInt8) ∉ x) (hl : (t ++ [47] ++ x).length ≤ 1048576) : ∀ k : Nat, k ≤ x.length → L49a (t ++ [47] ++ x) 47 ((t.length + k : Nat) : Int) = some [.int (t.length : Int)] := by
  intro k
  induction k with
  | zero =>
    intro _
    have e : (t ++ [47] ++ x).getD t.length 0 = 47 := by
      rw [List.getD_eq_getElem?_getD, List.append_assoc, List.getElem?_append_right (Nat.le_refl _), Nat.sub_self]; rfl
    rw [Nat.add_zero, round49a, dec_t (by omega), inb_nat (by simp), Int.toNat_natCast, e, dec_t (by decide)]; rfl
  | succ k ih =>
    intro hk
    have e : (t ++ [47] ++ x).getD (t.length + (k + 1)) 0 = x.getD k 0 := by
      rw [List.getD_eq_getElem?_getD, List.getElem?_append_right (by simp), List.getD_eq_getElem?_getD]
      congr 2
      simp; omega
    have hne : ¬ ((x.getD k 0).toNat : Int) = 47 := by
      intro h
      apply hx
      have : x.getD k 0 = 47 := UInt8.toNat_inj.1 (by show (x.getD k 0).toNat = 47; omega)
      rw [← this, List.getD_eq_getElem?_getD, List.getElem?_eq_getElem (by omega)]
      exact List.getElem_mem _
    simp only [List.length_append, List.length_singleton] at hl
    have hw : IntKind.wrap IntKind.i64 (((t.length + (k + 1) : Nat) : Int) - 1) = ((t.length + k : Nat) : Int) := by rw [wrap_id (by omega) (by omega)]; omega
    rw [round49a, dec_t (by omega), inb_nat (by simp; omega), Int.toNat_natCast, e, dec_f hne, hw, cond_true, cond_true, cond_false]
    exact ih (by omega)
theorem r33 (t x : List UInt8) (hx : (47 : UInt8) ∉ x) (hl : (t ++ [47] ++ x).length ≤ 1048576) : RUN E 33 [.str (t ++ [47] ++ x), .str [47]] = some [.int (t.length : Int)] := by
  have := last_loop t x hx hl x.length (Nat.le_refl _)
  have hlen : (t ++ [47] ++ x).length = t.length + 1 + x.length := by simp; omega
  have hw : IntKind.wrap IntKind.i64 (((t ++ [47] ++ x).length : Int) - 1) = ((t.length + x.length : Nat) : Int) := by rw [hlen] at hl ⊢; rw [wrap_id (by omega) (by omega)]; omega
  have a1 : decide ((([47] : List UInt8).length : Int) = 0) = false := rfl
  have a2 : decide ((([47] : List UInt8).length : Int) = 1) = true := rfl
  have a3 : inb 0 ([47] : List UInt8).length = true := rfl
  have a4 : (((([47] : List UInt8).getD 0 0).toNat : Int)) = 47 := rfl
  rw [enter33, a1, a2, a3, a4, enter49, hw, this]; rfl

/-! ### The walk along the reference -/
theorem walk (v : List (List UInt8)) (hv : v.length ≤ 1048576) (hp : ∀ x ∈ v, x.length ≤ 200) : ∀ n i : Nat, i + n = v.length → ∀ l : List (List UInt8), (∀ x ∈ l, (47 : UInt8) ∉ x) → (ad l).length ≤ 200 → l.length ≤ 200 →
    ∃ s e, L12b (l.map .str) (v.map .str) (v.length : Int) (i : Int) = some [.str s, .int e] ∧ L13b (ad l) (v.map .str) (v.length : Int) (i : Int) = some [.str s, .int e] ∧ s.length ≤ 200 := by
  intro n
  induction n with
  | zero =>
    intro i hi l hl ha hll
    have : i = v.length := by omega
    subst this
    refine ⟨ad l, 0, ?_, by rw [round13b, dec_f (by omega)]; rfl, ha⟩
    rw [round12b, dec_f (by omega), r31 l (by omega) (by omega)]
    simp only [cond_false, opt_s, List.getD_cons_zero, tS]
    rw [dec_f (by omega)]; rfl
  | succ n ih =>
    intro i hi l hl ha hll
    have hil : i < v.length := by omega
    have hpl : (v.getD i []).length ≤ 200 := by rw [List.getD_eq_getElem?_getD, List.getElem?_eq_getElem hil]; exact hp _ (List.getElem_mem hil)
    rw [round12b, round13b, dec_t (by omega), inb_nat (by simpa using hil), Int.toNat_natCast, nxt (by omega), getD_map v hil, tS]
    simp only [cond_true]
    generalize hpp : v.getD i [] = p at *
    obtain ⟨s, e, h1, h2, h3⟩ := ih (i + 1) (by omega) l hl ha hll
    by_cases c1 : p = ([] : List UInt8)
    · rw [dec_t c1]
      exact ⟨s, e, h1, h2, h3⟩
    rw [dec_f c1]
    by_cases c2 : p = ([46] : List UInt8)
    · rw [dec_t c2]
      exact ⟨s, e, h1, h2, h3⟩
    rw [dec_f c2]
    simp only [cond_true, cond_false]
    by_cases c3 : p = ([46, 46] : List UInt8)
    · rw [dec_t c3]
      simp only [cond_true, cond_false]
      rcases List.eq_nil_or_concat l with rfl | ⟨q, z, rfl⟩
      · exact ⟨_, _, rfl, by rw [dec_t (show ad [] = ([47] : List UInt8) from rfl)]; rfl, by simp⟩
      · rw [List.concat_eq_append] at *
        obtain ⟨t, ht⟩ := ad_end q
        have hz := hl z (by simp)
        have hadl : (ad (q ++ [z])).length = (ad q).length + z.length + 1 := by rw [ad_snoc]; simp; omega
        have hne : ¬ ad (q ++ [z]) = ([47] : List UInt8) := by
          intro h
          have := congrArg List.length h
          rw [hadl] at this
          have h0 : 1 ≤ (ad q).length := by simp [ad]
          simp only [List.length_singleton] at this; omega
        have hw1 : IntKind.wrap IntKind.i64 ((((q ++ [z]).map D.str).length : Int) - 1) = (q.length : Int) := by
          simp only [List.length_append, List.length_singleton] at hll
          rw [List.length_map, List.length_append, List.length_singleton, wrap_id (by omega) (by omega)]; omega
        have hw2 : IntKind.wrap IntKind.i64 (((ad (q ++ [z])).length : Int) - 1) = (((ad q).length + z.length : Nat) : Int) := by rw [hadl] at ha ⊢; rw [wrap_id (by omega) (by omega)]; omega
        have tk : (ad (q ++ [z])).take ((ad q).length + z.length) = t ++ [47] ++ z := by
          rw [ad_snoc, ← List.append_assoc, ← ht]
          exact List.take_left' (by simp)
        have tk2 : (ad (q ++ [z])).take (t.length + 1) = ad q := by
          have : (ad q).length = t.length + 1 := by rw [ht]; simp
          rw [ad_snoc, ← this, List.take_left]
        have hq : ((q ++ [z]).map D.str).take q.length = q.map D.str := by rw [List.map_append]; exact List.take_left' (by simp)
        have htl : t.length + 1 = (ad q).length := by rw [ht]; simp
        have hl0 : ¬ (((q ++ [z]).map D.str).length : Int) = 0 := by simp; omega
        obtain ⟨s, e, h1, h2, h3⟩ := ih (i + 1) (by omega) q (fun x hx => hl x (by simp [hx])) (by omega) (by simp at hll; omega)
        rw [dec_f hl0, dec_f hne, hw1, hw2, cutOk_hi (by simp), cutOk_hi (by omega), cut_hi, cut_hi, hq, tk]
        simp only [cond_true, cond_false]
        rw [r33 t z hz (by rw [← ht]; simp; omega)]
        simp only [opt_s, List.getD_cons_zero, tI]
        rw [nxt (by omega), cutOk_hi (by omega), cut_hi, tk2]
        exact ⟨s, e, h1, h2, h3⟩
    · rw [dec_f c3, r30 p (by omega), r34 p (by omega)]
      simp only [cond_true, cond_false, opt_s, List.getD_cons_zero, tB]
      cases hpt : part p with
      | false => exact ⟨_, _, rfl, rfl, by simp⟩
      | true =>
        have hno := part_no hpt
        have hadl : (ad (l ++ [p])).length = (ad l).length + p.length + 1 := by rw [ad_snoc]; simp; omega
        have hml : l.map D.str ++ [D.str p] = (l ++ [p]).map .str := by simp
        rw [hml, r31 (l ++ [p]) (by omega) (by simp; omega), fit_t (by simp; omega), fit_t (by simp; omega), lim_t (by simp; omega), lim_t (by simp; omega)]
        simp only [cond_true, cond_false, opt_s, List.getD_cons_zero, tS]
        rw [show ad l ++ (p ++ ([47] : List UInt8)) = ad (l ++ [p]) from (ad_snoc l p).symm]
        by_cases c4 : 200 < ((ad (l ++ [p])).length : Int)
        · rw [dec_t c4]; exact ⟨_, _, rfl, rfl, by simp⟩
        · rw [dec_f c4]
          have h0 : 1 ≤ (ad l).length := by simp [ad]
          have hll2 : (l ++ [p]).length ≤ 200 := by
            have : ∀ m : List (List UInt8), m.length ≤ (fl m).length := by
              intro m
              induction m with
              | nil => simp [fl]
              | cons a m ih => simp only [fl, List.flatMap_cons, List.length_append, List.length_cons, List.length_singleton] at ih ⊢; omega
            have := this (l ++ [p])
            simp only [ad, List.length_cons] at c4
            omega
          exact ih (i + 1) (by omega) (l ++ [p]) (fun x hx => by rcases List.mem_append.1 hx with h | h; exact hl x h; rw [List.mem_singleton.1 h]; exact hno) (by omega) hll2

/-! ### Where the walk starts -/
theorem start (s : List UInt8) : ∃ b, RUN E 32 [.str s] = some [.bool b] ∧ ((b = false ∧ ∃ d, RUN E 27 [.str s] = some [d, .bool false]) ∨
    (b = true ∧ ∃ l : List (List UInt8), RUN E 27 [.str s] = some [.list (l.map .str), .bool true] ∧ (∀ x ∈ l, (47 : UInt8) ∉ x) ∧ ad l = s ∧ s.length ≤ 200 ∧ l.length ≤ 200)) := by
  rw [enter32, enter27]
  by_cases c0 : s = [47]
  · subst c0
    exact ⟨true, rfl, .inr ⟨rfl, [], rfl, (fun x hx => by cases hx), rfl, by decide, by decide⟩⟩
  rw [dec_f c0]
  by_cases c1 : 200 < (s.length : Int)
  · refine ⟨false, ?_, .inl ⟨rfl, .list [], ?_⟩⟩
    · rw [dec_t c1]; cases decide ((s.length : Int) < 1) <;> cases inb 0 s.length <;> cases inb (IntKind.wrap IntKind.i64 ((s.length : Int) - 1)) s.length <;> rfl
    · rw [dec_t c1]; cases inb 0 s.length <;> cases inb (IntKind.wrap IntKind.i64 ((s.length : Int) - 1)) s.length <;> rfl
  rw [dec_f c1]
  by_cases c2 : (s.length : Int) < 1
  · refine ⟨false, ?_, .inl ⟨rfl, .list [], ?_⟩⟩
    · rw [dec_t c2]; cases inb 0 s.length <;> cases inb (IntKind.wrap IntKind.i64 ((s.length : Int) - 1)) s.length <;> rfl
    · rw [dec_t (p := (s.length : Int) < 2) (by omega)]; cases inb 0 s.length <;> cases inb (IntKind.wrap IntKind.i64 ((s.length : Int) - 1)) s.length <;> rfl
  rw [dec_f c2]
  have hw : IntKind.wrap IntKind.i64 ((s.length : Int) - 1) = ((s.length - 1 : Nat) : Int) := by rw [wrap_id (by omega) (by omega)]; omega
  have i0 : inb 0 s.length = true := inb_nat (i := 0) (by omega)
  rw [hw, i0, inb_nat (i := s.length - 1) (by omega), Int.toNat_natCast]
  by_cases c3 : ((s.getD 0 0).toNat : Int) = 47
  · rw [dec_t c3]
    by_cases c4 : ((s.getD (s.length - 1) 0).toNat : Int) = 47
    · rw [dec_t c4]
      have h0 : s.getD 0 0 = 47 := UInt8.toNat_inj.1 (by show (s.getD 0 0).toNat = 47; omega)
      have h1 : s.getD (s.length - 1) 0 = 47 := UInt8.toNat_inj.1 (by show (s.getD (s.length - 1) 0).toNat = 47; omega)
      have h2 : 2 ≤ s.length := by
        refine Classical.byContradiction fun hn => c0 ?_
        match s, c2, hn, h0 with
        | [], c2, _, _ => simp at c2
        | [a], _, _, h0 => rw [List.getD_cons_zero] at h0; rw [h0]
        | _ :: _ :: _, _, hn, _ => simp at hn
      have hcut : s = 47 :: (sub s 1 (s.length - 1) ++ [47]) := by
        have e1 := drop_cons (0 : UInt8) (show 0 < s.length by omega)
        rw [List.drop_zero, h0] at e1
        have e2 := take_snoc (0 : UInt8) (show s.length - 1 < s.length by omega)
        rw [show s.length - 1 + 1 = s.length by omega, List.take_length, h1] at e2
        have e3 : (s.take (s.length - 1)).drop 1 ++ [47] = s.drop 1 := by
          conv => rhs; rw [e2]
          rw [List.drop_append_of_le_length (by simp; omega)]
        unfold sub
        rw [e3]; exact e1
      have hsl : (sub s 1 (s.length - 1)).length ≤ 200 := by rw [sub_len (by omega)]; omega
      have hck : cutOk s.length (some 1) (some ((s.length - 1 : Nat) : Int)) = true := cutOk_both (i := 1) (k := s.length - 1) (by omega) (by omega)
      rw [dec_f (p := (s.length : Int) < 2) (by omega), hck]
      simp only [cond_true, cond_false]
      rw [show cutL s (some 1) (some ((s.length - 1 : Nat) : Int)) = sub s 1 (s.length - 1) from rfl, r29 _ (by omega) 47]
      simp only [opt_s, List.getD_cons_zero, tL]
      generalize hu : sub s 1 (s.length - 1) = u at *
      have hlen := split_len 47 u.length u (Nat.le_refl _)
      have hcnt : u.count 47 ≤ u.length := List.count_le_length
      have hsp := fl_split u
      generalize splitC 47 u = v at *
      have hvl : v.length ≤ 201 := by omega
      have ed : ∀ i, i < v.length → D.toStr ((v.map D.str).getD i .no) = v.getD i [] ∧ (v.getD i []).length ≤ 200 := by
        intro i hi
        rw [getD_map v hi]
        refine ⟨rfl, ?_⟩
        rw [List.getD_eq_getElem?_getD, List.getElem?_eq_getElem hi]
        exact Nat.le_trans (hlen.2 _ (List.getElem_mem hi)) hsl
      have lp2 : L32a (v.map .str) ((v.map D.str).length : Int) 0 = some [.bool ((v.map D.str).all fun d => part d.toStr)] := by
        refine all_loop (L := fun i => L32a (v.map .str) ((v.map D.str).length : Int) i) (by show L32a _ _ _ = _; rw [round32a, dec_f (by omega)]; rfl) fun i hi => ?_
        show L32a _ _ _ = _
        obtain ⟨q1, q2⟩ := ed i (by simpa using hi)
        rw [round32a, dec_t (by omega), inb_nat hi, Int.toNat_natCast, nxt (by simp at hi; omega), r34 _ (by rw [q1]; omega)]
        simp only [cond_true, opt_s, List.getD_cons_zero, tB]
        cases part (D.toStr ((v.map D.str).getD i .no)) <;> rfl
      have key : ∀ n i : Nat, i + n = v.length → L27a (v.map .str) (v.map .str) ((v.map D.str).length : Int) (i : Int) = cond ((v.drop i).all part) (some [.list (v.map .str), .bool true]) (some [.list [], .bool false]) := by
        intro n
        induction n with
        | zero =>
          intro i hi
          rw [round27a, dec_f (by simp; omega), List.drop_eq_nil_of_le (by omega)]; rfl
        | succ n ih =>
          intro i hi
          have hil : i < v.length := by omega
          obtain ⟨q1, q2⟩ := ed i hil
          rw [round27a, dec_t (by simp; omega), inb_nat (by simpa using hil), Int.toNat_natCast, nxt (by omega), r30 _ (by rw [q1]; omega), q1, ih (i + 1) (by omega), drop_cons [] hil]
          simp only [cond_true, opt_s, List.getD_cons_zero, tB, List.all_cons]
          cases part (v.getD i []) <;> rfl
      have lp1 := key v.length 0 (by omega)
      rw [List.drop_zero] at lp1
      have hall : ((v.map D.str).all fun d => part d.toStr) = v.all part := by rw [List.all_map]; rfl
      refine ⟨v.all part, by rw [lp2, hall], ?_⟩
      cases hc : v.all part with
      | false =>
        rw [hc] at lp1
        exact .inl ⟨rfl, _, lp1⟩
      | true =>
        rw [hc] at lp1
        refine .inr ⟨rfl, v, lp1, fun x hx => part_no (List.all_eq_true.1 hc x hx), ?_, by omega, ?_⟩
        · unfold ad; rw [hsp]; exact hcut.symm
        · have : u.length + 2 ≤ 200 := by have := congrArg List.length hcut; simp at this; omega
          omega
    · rw [dec_f c4]
      exact ⟨false, rfl, .inl ⟨rfl, .list [], by cases decide ((s.length : Int) < 2) <;> rfl⟩⟩
  · rw [dec_f c3]
    refine ⟨false, ?_, .inl ⟨rfl, .list [], ?_⟩⟩ <;> cases decide (((s.getD (s.length - 1) 0).toNat : Int) = 47) <;> cases decide ((s.length : Int) < 2) <;> rfl

theorem both (from0 ref : List UInt8) : ∃ s e, RUN E 12 [.str from0, .str ref] = some [.str s, .int e] ∧ RUN E 13 [.str from0, .str ref] = some [.str s, .int e] ∧ s.length ≤ 200 := by
  rw [enter12, enter13]
  obtain ⟨b, h32, h⟩ := start from0
  rw [h32]
  rcases h with ⟨rfl, d, h27⟩ | ⟨rfl, l, h27, hl, had, hs, hll⟩
  · rw [h27]; exact ⟨_, _, rfl, rfl, by simp⟩
  · rw [h27]
    simp only [opt_s, List.getD_cons_zero, List.getD_cons_succ, tB, tL, cond_true, cond_false]
    by_cases c1 : 200 < (ref.length : Int)
    · rw [dec_t c1]; exact ⟨_, _, rfl, rfl, by simp⟩
    · rw [dec_f c1, r28 _ _ (by omega) (by simp)]
      simp only [opt_s, List.getD_cons_zero, tB, cond_false]
      have hlen := split_len 47 ref.length ref (Nat.le_refl _)
      have hcnt : ref.count 47 ≤ ref.length := List.count_le_length
      have go : ∀ l : List (List UInt8), (∀ x ∈ l, (47 : UInt8) ∉ x) → (ad l).length ≤ 200 → l.length ≤ 200 → ∃ s e, C12a ref (l.map .str) = some [.str s, .int e] ∧ C13a ref (ad l) = some [.str s, .int e] ∧ s.length ≤ 200 := by
        intro l h1 h2 h3
        obtain ⟨s, e, q1, q2, q3⟩ := walk (splitC 47 ref) (by omega) (fun x hx => Nat.le_trans (hlen.2 x hx) (by omega)) _ 0 (Nat.zero_add _) l h1 h2 h3
        refine ⟨s, e, ?_, ?_, q3⟩
        · rw [round12a, r29 ref (by omega) 47]
          simpa [opt_s, tL] using q1
        · rw [round13a, r29 ref (by omega) 47]
          simpa [opt_s, tL] using q2
      cases hasPre ref [47] with
      | true => exact go [] (fun x hx => by cases hx) (by decide) (by decide)
      | false =>
        have := go l hl (by rw [had]; exact hs) hll
        rw [had] at this
        exact this
end res
end Go.Proofs.YtjofkhdnidjleabDoor.tg
