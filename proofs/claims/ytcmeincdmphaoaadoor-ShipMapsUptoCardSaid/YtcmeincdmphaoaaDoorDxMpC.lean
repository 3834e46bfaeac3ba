/- Paths of outputs. -/
import Derived.Test.YtcmeincdmphaoaaDoorDxMpB
import Derived.Test.YtcmeincdmphaoaaDoorF8
import Derived.Sort.Walk0
set_option linter.unusedVariables false
set_option linter.unusedSimpArgs false
namespace Go.Proofs.YtcmeincdmphaoaaDoor.mp
open Go.Proofs.YtcmeincdmphaoaaDoor.DS
namespace words
end words
namespace paths
theorem r19 (s : List UInt8) (c : UInt8) : RUN E 42 [.str s, .str [c]] = some [.int (Lib.indexByte s c)] := (RUN_eq _ _ _).trans (by kernel_rfl)
theorem r60 (s : List UInt8) (c : UInt8) : RUN E 41 [.str s, .str [c]] = some [.int (Lib.countByte s c : Int)] := (RUN_eq _ _ _).trans (by kernel_rfl)
theorem r28 (s p : List UInt8) (h : s.length ≤ 4194304) (hp : p.length ≤ 4194304) : RUN E 15 [.str s, .str p] = some [.bool (hasPre s p)] := by
  rw [enter15, enter27, pre_eq (by omega) (by omega)]; rfl
theorem r43 (s p : List UInt8) (h : s.length ≤ 4194304) (hp : p.length ≤ 4194304) : RUN E 30 [.str s, .str p] = some [.bool (hasSuf s p)] := by
  rw [enter30, suf_eq (by omega) (by omega)]
theorem r30 (s p : List UInt8) (h : s.length ≤ 4194304) (hp : p.length ≤ 4194304) : RUN E 21 [.str s, .str p] = some [.bool (hasSuf s p)] := by
  rw [enter21, r43 s p h hp]; rfl
theorem r39 (s : List UInt8) (h : s.length ≤ 1048576) (c : UInt8) : RUN E 25 [.str s, .str [c]] = some [.list ((splitC c s).map .str)] := by
  have hc : s.count c ≤ s.length := List.count_le_length
  have n1 : IntKind.wrap IntKind.i64 ((s.count c : Int) + 1) = ((s.count c + 1 : Nat) : Int) := nxt (by omega)
  have n2 : IntKind.wrap IntKind.i64 ((s.length : Int) + 1) = ((s.length + 1 : Nat) : Int) := nxt (by omega)
  have mm : mmInt false ((s.count c + 1 : Nat) : Int) ((s.length + 1 : Nat) : Int) = ((s.count c + 1 : Nat) : Int) := by
    unfold mmInt; rw [dec_f (p := ((s.length + 1 : Nat) : Int) < ((s.count c + 1 : Nat) : Int)) (by omega)]; rfl
  have n3 : IntKind.wrap IntKind.i64 (((s.count c + 1 : Nat) : Int) - 1) = ((0 + s.count c : Nat) : Int) := by rw [wrap_id (by omega) (by omega)]; omega
  have lp := split_loop (L := fun s n i a => L34b s [c] 0 n i a) (X := fun s => RUN E 42 [.str s, .str [c]]) (c := c) (fun s _ => r19 s c) (fun s n i a => round34b s [c] 0 n i a) s.length s (Nat.le_refl _) (by omega) 0 (List.replicate (s.count c + 1) (.str [])) (by omega) (by simp)
  have e50 : RUN E 34 [.str s, .str [c], .int 0, .int (-1)] = some [.list ((splitC c s).map .str)] := by
    rw [enter34, dec_f (by omega), dec_f (by simp), dec_t (by omega), r60]
    simp only [cond_true, cond_false, opt_s, List.getD_cons_zero, tI, Lib.countByte, n1]
    rw [round34a, n2, mm, n3, dec_t (by omega), dec_t (by omega), dec_t (by rw [lim_val]; omega), Int.toNat_natCast]
    simpa using lp
  rw [enter25, e50]; rfl

/-! ### Parts of paths -/
def ok1 (c : UInt8) : Bool := decide (97 ≤ (c.toNat : Int)) && decide ((c.toNat : Int) ≤ 122) || decide (48 ≤ (c.toNat : Int)) && decide ((c.toNat : Int) ≤ 57) || decide ((c.toNat : Int) = 45) || decide ((c.toNat : Int) = 95) || decide ((c.toNat : Int) = 46)
def part (s : List UInt8) : Bool := !(decide (s = ([] : List UInt8)) || decide (40 < (s.length : Int)) || decide (s = ([46] : List UInt8)) || decide (s = ([46, 46] : List UInt8))) && s.all ok1
theorem r40 (s : List UInt8) (h : s.length ≤ 1048576) : RUN E 28 [.str s] = some [.bool (part s)] := by
  have lp : L28a s 0 = some [.bool (s.all ok1)] := by
    refine all_loopS (L := fun i => L28a s i) (by show L28a s _ = _; rw [round28a, dec_f (by omega)]; rfl) fun i hi => ?_
    show L28a s i = _
    rw [round28a, dec_t (by omega), inb_nat hi, Int.toNat_natCast, nxt (by omega)]
    simp only [enter36]
    unfold ok1
    generalize ((s.getD i 0).toNat : Int) = x
    cases decide (97 ≤ x) <;> cases decide (x ≤ 122) <;> cases decide (48 ≤ x) <;> cases decide (x ≤ 57) <;> cases decide (x = 45) <;> cases decide (x = 95) <;> cases decide (x = 46) <;> rfl
  rw [enter28, lp]
  unfold part
  cases decide (s = ([] : List UInt8)) <;> cases decide (40 < (s.length : Int)) <;> cases decide (s = ([46] : List UInt8)) <;> cases decide (s = ([46, 46] : List UInt8)) <;> cases s.all ok1 <;> rfl
theorem r52 (x : Int) : RUN E 35 [.int x] = some [.bool (decide (97 ≤ x) && decide (x ≤ 122) || decide (48 ≤ x) && decide (x ≤ 57) || decide (x = 95))] := by
  rw [enter35]
  simp only [enter43]
  cases decide (97 ≤ x) <;> cases decide (x ≤ 122) <;> cases decide (48 ≤ x) <;> cases decide (x ≤ 57) <;> cases decide (x = 95) <;> rfl
theorem r42 (s : List UInt8) (h : s.length ≤ 1048576) : RUN E 26 [.str s] = some [.bool (part s)] := by
  have lp : L26a s 0 = some [.bool (s.all ok1)] := by
    refine all_loopS (L := fun i => L26a s i) (by show L26a s _ = _; rw [round26a, dec_f (by omega)]; rfl) fun i hi => ?_
    show L26a s i = _
    rw [round26a, dec_t (by omega), inb_nat hi, Int.toNat_natCast, nxt (by omega)]
    simp only [r52]
    unfold ok1
    generalize ((s.getD i 0).toNat : Int) = x
    cases decide (97 ≤ x) <;> cases decide (x ≤ 122) <;> cases decide (48 ≤ x) <;> cases decide (x ≤ 57) <;> cases decide (x = 45) <;> cases decide (x = 95) <;> cases decide (x = 46) <;> rfl
  have h0 : decide ((s.length : Int) < 1) = decide (s = ([] : List UInt8)) := by
    cases s with
    | nil => rfl
    | cons b r => rw [dec_f (p := (((b :: r).length : Nat) : Int) < 1) (by simp; omega), dec_f (by simp)]
  rw [enter26, lp, h0]
  unfold part
  cases decide (s = ([] : List UInt8)) <;> cases decide (40 < (s.length : Int)) <;> cases decide (s = ([46] : List UInt8)) <;> cases decide (s = ([46, 46] : List UInt8)) <;> cases s.all ok1 <;> rfl
def path (s : List UInt8) : Bool := !decide (200 < (s.length : Int)) && ((splitC 47 s).map D.str).all fun d => part d.toStr
theorem parts_len {s : List UInt8} {i : Nat} : (D.toStr (((splitC 47 s).map D.str).getD i .no)).length ≤ s.length := by
  rw [List.getD_eq_getElem?_getD, List.getElem?_map]
  cases h : (splitC 47 s)[i]? with
  | none => simp [D.toStr]
  | some x => exact (split_len 47 s.length s (Nat.le_refl _)).2 x (List.mem_of_getElem? h)
theorem r27 (s : List UInt8) (h : s.length ≤ 1048576) : RUN E 19 [.str s] = some [.bool (path s)] := by
  rw [enter19]
  unfold path
  by_cases h2 : (200 : Int) < (s.length : Int)
  · rw [dec_t h2]; rfl
  · rw [dec_f h2]
    have e := r39 s h 47
    have hl := (split_len 47 s.length s (Nat.le_refl _)).1
    have hc : s.count 47 ≤ s.length := List.count_le_length
    generalize hxs : (splitC 47 s).map D.str = xs at *
    have hxl : xs.length ≤ 1048577 := by rw [← hxs, List.length_map]; omega
    have lp : L19a xs (xs.length : Int) 0 = some [.bool (xs.all fun d => part d.toStr)] := by
      refine all_loop (L := fun i => L19a xs (xs.length : Int) i) (by show L19a xs _ _ = _; rw [round19a, dec_f (by omega)]; rfl) fun i hi => ?_
      show L19a xs _ i = _
      have hp := @parts_len s i
      rw [hxs] at hp
      rw [round19a, dec_t (by omega), inb_nat hi, Int.toNat_natCast, nxt (by omega), r40 _ (by omega)]
      simp only [cond_true, opt_s, List.getD_cons_zero, tB]
      cases part (D.toStr (xs.getD i .no)) <;> rfl
    show opt (RUN E 25 [.str s, .str [47]]) _ = _
    rw [e]
    exact lp
theorem r29 (s : List UInt8) (h : s.length ≤ 1048576) : RUN E 14 [.str s] = some [.bool (path s)] := by
  rw [enter14]
  unfold path
  by_cases h2 : (200 : Int) < (s.length : Int)
  · rw [dec_t h2]; cases decide ((s.length : Int) < 1) <;> rfl
  · rw [dec_f h2]
    by_cases h1 : (s.length : Int) < 1
    · have : s = [] := List.length_eq_zero_iff.1 (by omega)
      subst this; rfl
    · rw [dec_f h1]
      have e := r39 s h 47
      have hl := (split_len 47 s.length s (Nat.le_refl _)).1
      have hc : s.count 47 ≤ s.length := List.count_le_length
      generalize hxs : (splitC 47 s).map D.str = xs at *
      have hxl : xs.length ≤ 1048577 := by rw [← hxs, List.length_map]; omega
      have lp : L14a xs (xs.length : Int) 0 = some [.bool (xs.all fun d => part d.toStr)] := by
        refine all_loop (L := fun i => L14a xs (xs.length : Int) i) (by show L14a xs _ _ = _; rw [round14a, dec_f (by omega)]; rfl) fun i hi => ?_
        show L14a xs _ i = _
        have hp := @parts_len s i
        rw [hxs] at hp
        rw [round14a, dec_t (by omega), inb_nat hi, Int.toNat_natCast, nxt (by omega), r42 _ (by omega)]
        simp only [cond_true, opt_s, List.getD_cons_zero, tB]
        cases part (D.toStr (xs.getD i .no)) <;> rfl
      show opt (RUN E 25 [.str s, .str [47]]) _ = _
      rw [e]
      exact lp

/-! ### Addresses -/
end paths
namespace paths
abbrev B := List UInt8
abbrev pa (x : D) : B := D.toStr (x.cell 0)
/-! ### Outputs -/
theorem mass_drop : ∀ (m : List D) (k : Nat), dmass.dmAll (m.drop k) ≤ dmass.dmAll m := by
  intro m
  induction m with
  | nil => intro k; simp
  | cons x r ih => intro k; cases k with
    | zero => simp
    | succ k => have := ih k; simp only [List.drop_succ_cons, dmass.dmAll]; omega
section
variable (l : List D) (hl : dmass.dmAll l ≤ 1048576) (hn : l.length ≤ 480)
def Good (l : List D) (i : Nat) : Prop := ∀ j, i ≤ j → j < l.length → path (pa (l.getD j .no)) = true ∧ (0 < j → pa (l.getD (j - 1) .no) < pa (l.getD j .no))
include hl hn in
theorem inner (i : Nat) (hi : i < l.length) (e : Int) (hnext : L7a l l l.length ((i + 1 : Nat) : Int) = some [.int e] ∧ L5a l l l.length ((i + 1 : Nat) : Int) = some [.int e]) : ∃ e' : Int,
    L7b l l l.length i (l.drop (i + 1)) ((l.drop (i + 1)).length : Int) 0 (l.getD i .no) = some [.int e'] ∧ L5b l l l.length i (l.drop (i + 1)) ((l.drop (i + 1)).length : Int) 0 (l.getD i .no) = some [.int e'] ∧ (e' = 0 → e = 0) := by
  have ho := Nat.le_trans (cellS_le (l.getD i .no) 0) (Nat.le_trans (mass_getD l i) hl)
  generalize l.getD i .no = o at *
  have hll : (l.drop (i + 1)).length ≤ 480 := by simp; omega
  have key : ∀ n j : Nat, j + n = (l.drop (i + 1)).length → ∃ e' : Int, L7b l l l.length i (l.drop (i + 1)) ((l.drop (i + 1)).length : Int) j o = some [.int e'] ∧ L5b l l l.length i (l.drop (i + 1)) ((l.drop (i + 1)).length : Int) j o = some [.int e'] ∧ (e' = 0 → e = 0) := by
    intro n
    induction n with
    | zero =>
      intro j hj
      have e1 : decide ((j : Int) < (((l.drop (i + 1)).length : Nat) : Int)) = false := dec_f (by omega)
      rw [round7b, round5b, e1, nxt (i := i) (by omega)]
      cases decide ((200000 : Int) < ((D.toStr (o.cell 1)).length : Int)) with
      | true => exact ⟨4, rfl, rfl, fun h => by cases h⟩
      | false => exact ⟨e, hnext.1, hnext.2, id⟩
    | succ n ih =>
      intro j hj
      have hjl : j < (l.drop (i + 1)).length := by omega
      have e1 : decide ((j : Int) < (((l.drop (i + 1)).length : Nat) : Int)) = true := dec_t (by omega)
      have hx := Nat.le_trans (cellS_le ((l.drop (i + 1)).getD j .no) 0) (Nat.le_trans (mass_getD (l.drop (i + 1)) j) (Nat.le_trans (mass_drop l (i + 1)) hl))
      obtain ⟨e', f1, f2, f3⟩ := ih (j + 1) (by omega)
      have hlim : decide ((D.toStr (o.cell 0)).length + List.length ([47] : List UInt8) ≤ lim) = true := lim_t (by show _ + 1 ≤ _; omega)
      rw [round7b, round5b, e1, inb_nat hjl, Int.toNat_natCast, nxt (i := j) (by omega), hlim, r28 _ _ (by omega) (by rw [List.length_append]; show _ + 1 ≤ _; omega)]
      simp only [cond_true, opt_s, List.getD_cons_zero, tB]
      cases hasPre (D.toStr (((l.drop (i + 1)).getD j .no).cell 0)) (D.toStr (o.cell 0) ++ ([47] : List UInt8)) with
      | true => exact ⟨6, rfl, rfl, fun h => by cases h⟩
      | false => exact ⟨e', f1, f2, f3⟩
  exact key (l.drop (i + 1)).length 0 (by omega)
theorem tri {a b : B} (h1 : ¬ a < b) (h2 : a ≠ b) : b < a :=
  Classical.byContradiction fun h => h2 (List.le_antisymm (List.not_lt.1 h) (List.not_lt.1 h1))
include hl hn in
theorem outer : ∀ n i : Nat, i + n = l.length → ∃ e : Int, L7a l l l.length i = some [.int e] ∧ L5a l l l.length i = some [.int e] ∧ (e = 0 → Good l i) := by
  intro n
  induction n with
  | zero =>
    intro i hi
    have e1 : decide ((i : Int) < ((l.length : Nat) : Int)) = false := dec_f (by omega)
    rw [round7a, round5a, e1]
    exact ⟨0, rfl, rfl, fun _ j h1 h2 => absurd h2 (by omega)⟩
  | succ n ih =>
    intro i hi
    have hil : i < l.length := by omega
    obtain ⟨e, h1, h2, h3⟩ := ih (i + 1) (by omega)
    obtain ⟨e', g1, g2, g3⟩ := inner l hl hn i hil e ⟨h1, h2⟩
    have e1 : decide ((i : Int) < ((l.length : Nat) : Int)) = true := dec_t (by omega)
    have ho := Nat.le_trans (cellS_le (l.getD i .no) 0) (Nat.le_trans (mass_getD l i) hl)
    rw [round7a, round5a, e1, inb_nat hil, Int.toNat_natCast, nxt (by omega), cutOk_lo (by omega), cut_lo, r27 _ ho, r29 _ ho, g1, g2]
    simp only [cond_true, opt_s, List.getD_cons_zero, tB]
    cases hp : path (D.toStr ((l.getD i .no).cell 0)) with
    | false => exact ⟨3, rfl, rfl, fun h => by cases h⟩
    | true =>
      have hg : (bif inb (IntKind.wrap IntKind.i64 ((i : Int) - 1)) l.length then true else bif bif decide ((0 : Int) < (i : Int)) then true else false then false else true) = true := by
        by_cases h0 : (0 : Int) < (i : Int)
        · rw [show IntKind.wrap IntKind.i64 ((i : Int) - 1) = ((i - 1 : Nat) : Int) by rw [wrap_id (by omega) (by omega)]; omega, inb_nat (by omega)]; rfl
        · rw [dec_f h0]; cases inb (IntKind.wrap IntKind.i64 ((i : Int) - 1)) l.length <;> rfl
      rw [hg]
      simp only [cond_true, cond_false]
      generalize hz : (bif decide ((0 : Int) < (i : Int)) then _ else false : Bool) = z
      cases z with
      | true => exact ⟨5, rfl, rfl, fun h => by cases h⟩
      | false =>
        refine ⟨e', rfl, rfl, fun h0 j hj hjl => ?_⟩
        rcases Nat.lt_or_ge i j with hij | hij
        · exact h3 (g3 h0) j hij hjl
        · have : j = i := by omega
          subst this
          refine ⟨hp, fun hpos => ?_⟩
          rw [dec_t (by omega), wrap_id (by omega) (by omega), show ((j : Int) - 1) = ((j - 1 : Nat) : Int) by omega, Int.toNat_natCast, bytesLess_eq] at hz
          simp only [cond_true] at hz
          by_cases hlt : pa (l.getD j .no) < pa (l.getD (j - 1) .no)
          · rw [dec_t hlt] at hz; cases hz
          · by_cases heq : pa (l.getD j .no) = pa (l.getD (j - 1) .no)
            · rw [dec_t heq] at hz
              cases hb : decide (pa (l.getD j .no) < pa (l.getD (j - 1) .no)) <;> rw [hb] at hz <;> cases hz
            · exact tri hlt heq
end
theorem check (l : List D) (hl : dmass.dmAll l ≤ 1048576) : ∃ e : Int, RUN E 7 [.list l] = some [.int e] ∧ RUN E 5 [.list l] = some [.int e] ∧ (e = 0 → l.length ≤ 480 ∧ Good l 0) := by
  rw [enter7, enter5]
  by_cases h : (480 : Int) < (l.length : Int)
  · rw [dec_t h]; exact ⟨4, rfl, rfl, fun h => by cases h⟩
  · rw [dec_f h]
    obtain ⟨e, h1, h2, h3⟩ := outer l hl (by omega) l.length 0 (by omega)
    exact ⟨e, h1, h2, fun h0 => ⟨by omega, h3 h0⟩⟩
/-! ### Addresses -/
def idx : List UInt8 := [105, 110, 100, 101, 120, 46, 104, 116, 109, 108]
theorem suf_slash (p x : List UInt8) (b : UInt8) : hasSuf (b :: p) (b :: x) = (decide (p = x) || hasSuf p (b :: x)) := by
  unfold hasSuf
  rw [Bool.eq_iff_iff]
  simp only [Bool.or_eq_true, Bool.and_eq_true, decide_eq_true_eq, List.length_cons]
  by_cases h2 : p.length = x.length
  · rw [h2, Nat.sub_self, List.drop_zero]
    constructor
    · intro h; injection h.2 with _ h; exact .inl h
    · intro h
      rcases h with h | ⟨h, _⟩
      · exact ⟨Nat.le_refl _, by rw [h]⟩
      · omega
  · by_cases h1 : p.length < x.length
    · constructor
      · intro h; omega
      · intro h
        rcases h with h | ⟨h, _⟩
        · exact absurd (congrArg List.length h) h2
        · omega
    · rw [show p.length + 1 - (x.length + 1) = (p.length - (x.length + 1)) + 1 by omega, List.drop_succ_cons]
      constructor
      · intro h; exact .inr ⟨by omega, h.2⟩
      · intro h
        rcases h with h | ⟨_, h⟩
        · exact absurd (congrArg List.length h) h2
        · exact ⟨by omega, h⟩
theorem suf_tail {s x : List UInt8} {b : UInt8} (h : hasSuf s (b :: x) = true) : hasSuf s x = true := by
  unfold hasSuf at *
  simp only [Bool.and_eq_true, decide_eq_true_eq, List.length_cons] at h ⊢
  refine ⟨by omega, ?_⟩
  have := congrArg (List.drop 1) h.2
  rw [List.drop_drop] at this
  rw [show s.length - x.length = s.length - (x.length + 1) + 1 by omega, this]; rfl
theorem r70 (s p : List UInt8) (h : s.length ≤ 4194304) (hp : p.length ≤ s.length) : RUN E 22 [.str s, .str p] = some [.str (bif hasSuf s p then s.take (s.length - p.length) else s)] := by
  have e : IntKind.wrap IntKind.i64 ((s.length : Int) - (p.length : Int)) = ((s.length - p.length : Nat) : Int) := by rw [wrap_id (by omega) (by omega)]; omega
  rw [enter22, enter31, r43 s p h (by omega), e, cutOk_hi (by omega), cut_hi]
  simp only [opt_s, List.getD_cons_zero, tB]
  cases hasSuf s p <;> rfl
/-- The address of a path. -/
def ad (p : B) : B := 47 :: (bif decide (p = idx) then [] else bif hasSuf p (47 :: idx) then p.take (p.length - 10) else p)
theorem addr (p : List UInt8) (h : p.length ≤ 1048576) (hp : path p = true) : RUN E 11 [.str p] = some [.str (ad p), .int 0] ∧ RUN E 17 [.str p] = some [.str (ad p), .int 0] := by
  rw [enter11, enter17, r27 p h, r29 p h, hp]
  simp only [opt_s, List.getD_cons_zero, tB, cond_true, cond_false]
  have hlim : ∀ q : List UInt8, q.length ≤ p.length → decide (List.length ([47] : List UInt8) + q.length ≤ lim) = true := fun q hq => lim_t (by show 1 + q.length ≤ _; omega)
  have hs : RUN E 21 [D.str (([47] : List UInt8) ++ p), D.str ([47, 105, 110, 100, 101, 120, 46, 104, 116, 109, 108] : List UInt8)] = some [.bool (hasSuf (47 :: p) (47 :: idx))] := r30 (47 :: p) (47 :: idx) (by simp; omega) (by decide)
  have hs2 : RUN E 21 [D.str p, D.str ([47, 105, 110, 100, 101, 120, 46, 104, 116, 109, 108] : List UInt8)] = some [.bool (hasSuf p (47 :: idx))] := r30 p (47 :: idx) (by omega) (by decide)
  rw [hs, hs2, hlim p (Nat.le_refl _), suf_slash]
  simp only [cond_true, cond_false, opt_s, List.getD_cons_zero, tB]
  unfold ad
  by_cases he : p = idx
  · subst he
    refine ⟨?_, rfl⟩
    have q := r70 (47 :: idx) idx (by decide) (by decide)
    have hq : hasSuf (47 :: idx) idx = true := by decide
    rw [hq] at q
    simp only [decide_true, Bool.true_or, cond_true]
    show opt (RUN E 22 [.str (47 :: idx), .str idx]) _ = _
    rw [q]; rfl
  · rw [dec_f (p := p = ([105, 110, 100, 101, 120, 46, 104, 116, 109, 108] : List UInt8)) he, dec_f he]
    simp only [cond_false, Bool.false_or]
    cases hc : hasSuf p (47 :: idx) with
    | false => exact ⟨rfl, rfl⟩
    | true =>
      have hlen : 11 ≤ p.length := by
        unfold hasSuf at hc
        simp only [Bool.and_eq_true, decide_eq_true_eq] at hc
        exact hc.1
      have e10 : IntKind.wrap IntKind.i64 ((p.length : Int) - 10) = ((p.length - 10 : Nat) : Int) := by rw [wrap_id (by omega) (by omega)]; omega
      have q := r70 (47 :: p) idx (by simp; omega) (by simp; show 10 ≤ _; omega)
      have hq : hasSuf (47 :: p) idx = true := suf_tail (b := 47) (by rw [suf_slash, hc]; simp)
      rw [hq] at q
      refine ⟨?_, ?_⟩
      · simp only [cond_true]
        show opt (RUN E 22 [.str (47 :: p), .str idx]) _ = _
        rw [q]
        simp only [cond_true, opt_s, List.getD_cons_zero, tS, List.length_cons]
        rw [show p.length + 1 - idx.length = p.length - 10 + 1 by show p.length + 1 - 10 = _; omega]
        rfl
      · simp only [cond_true]
        rw [e10, cutOk_hi (by omega), cut_hi, hlim _ (by simp)]
        rfl
end paths
end Go.Proofs.YtcmeincdmphaoaaDoor.mp
