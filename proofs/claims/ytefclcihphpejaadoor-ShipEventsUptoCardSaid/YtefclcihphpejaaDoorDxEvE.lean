/- Events of two sites: the two walks make one list, and it rises. -/
import Derived.Test.YtefclcihphpejaaDoorDxEvB
import Derived.Test.YtefclcihphpejaaDoorF8
import Derived.Sort.Walk0
set_option linter.unusedVariables false
set_option linter.unusedSimpArgs false
namespace Go.Proofs.YtefclcihphpejaaDoor.ev
open Go.Proofs.YtefclcihphpejaaDoor.DS
namespace words
end words
namespace paths
theorem r19 (s : List UInt8) (c : UInt8) : RUN E 98 [.str s, .str [c]] = some [.int (Lib.indexByte s c)] := (RUN_eq _ _ _).trans (by kernel_rfl)
theorem r60 (s : List UInt8) (c : UInt8) : RUN E 97 [.str s, .str [c]] = some [.int (Lib.countByte s c : Int)] := (RUN_eq _ _ _).trans (by kernel_rfl)
theorem r28 (s p : List UInt8) (h : s.length ≤ 4194304) (hp : p.length ≤ 4194304) : RUN E 29 [.str s, .str p] = some [.bool (hasPre s p)] := by
  rw [enter29, enter64, pre_eq (by omega) (by omega)]; rfl
theorem r43 (s p : List UInt8) (h : s.length ≤ 4194304) (hp : p.length ≤ 4194304) : RUN E 62 [.str s, .str p] = some [.bool (hasSuf s p)] := by
  rw [enter62, suf_eq (by omega) (by omega)]
theorem r30 (s p : List UInt8) (h : s.length ≤ 4194304) (hp : p.length ≤ 4194304) : RUN E 27 [.str s, .str p] = some [.bool (hasSuf s p)] := by
  rw [enter27, r43 s p h hp]; rfl
theorem r39 (s : List UInt8) (h : s.length ≤ 1048576) (c : UInt8) : RUN E 35 [.str s, .str [c]] = some [.list ((splitC c s).map .str)] := by
  have hc : s.count c ≤ s.length := List.count_le_length
  have n1 : IntKind.wrap IntKind.i64 ((s.count c : Int) + 1) = ((s.count c + 1 : Nat) : Int) := nxt (by omega)
  have n2 : IntKind.wrap IntKind.i64 ((s.length : Int) + 1) = ((s.length + 1 : Nat) : Int) := nxt (by omega)
  have mm : mmInt false ((s.count c + 1 : Nat) : Int) ((s.length + 1 : Nat) : Int) = ((s.count c + 1 : Nat) : Int) := by
    unfold mmInt; rw [dec_f (p := ((s.length + 1 : Nat) : Int) < ((s.count c + 1 : Nat) : Int)) (by omega)]; rfl
  have n3 : IntKind.wrap IntKind.i64 (((s.count c + 1 : Nat) : Int) - 1) = ((0 + s.count c : Nat) : Int) := by rw [wrap_id (by omega) (by omega)]; omega
  have lp := split_loop (L := fun s n i a => L67b s [c] 0 n i a) (X := fun s => RUN E 98 [.str s, .str [c]]) (c := c) (fun s _ => r19 s c) (fun s n i a => round67b s [c] 0 n i a) s.length s (Nat.le_refl _) (by omega) 0 (List.replicate (s.count c + 1) (.str [])) (by omega) (by simp)
  have e50 : RUN E 67 [.str s, .str [c], .int 0, .int (-1)] = some [.list ((splitC c s).map .str)] := by
    rw [enter67, dec_f (by omega), dec_f (by simp), dec_t (by omega), r60]
    simp only [cond_true, cond_false, opt_s, List.getD_cons_zero, tI, Lib.countByte, n1]
    rw [round67a, n2, mm, n3, dec_t (by omega), dec_t (by omega), dec_t (by rw [lim_val]; omega), Int.toNat_natCast]
    simpa using lp
  rw [enter35, e50]; rfl

/-! ### Parts of paths -/
def ok1 (c : UInt8) : Bool := decide (97 ≤ (c.toNat : Int)) && decide ((c.toNat : Int) ≤ 122) || decide (48 ≤ (c.toNat : Int)) && decide ((c.toNat : Int) ≤ 57) || decide ((c.toNat : Int) = 45) || decide ((c.toNat : Int) = 95) || decide ((c.toNat : Int) = 46)
def part (s : List UInt8) : Bool := !(decide (s = ([] : List UInt8)) || decide (40 < (s.length : Int)) || decide (s = ([46] : List UInt8)) || decide (s = ([46, 46] : List UInt8))) && s.all ok1
theorem r40 (s : List UInt8) (h : s.length ≤ 1048576) : RUN E 100 [.str s] = some [.bool (part s)] := by
  have lp : L100a s 0 = some [.bool (s.all ok1)] := by
    refine all_loopS (L := fun i => L100a s i) (by show L100a s _ = _; rw [round100a, dec_f (by omega)]; rfl) fun i hi => ?_
    show L100a s i = _
    rw [round100a, dec_t (by omega), inb_nat hi, Int.toNat_natCast, nxt (by omega)]
    simp only [enter90]
    unfold ok1
    generalize ((s.getD i 0).toNat : Int) = x
    cases decide (97 ≤ x) <;> cases decide (x ≤ 122) <;> cases decide (48 ≤ x) <;> cases decide (x ≤ 57) <;> cases decide (x = 45) <;> cases decide (x = 95) <;> cases decide (x = 46) <;> rfl
  rw [enter100, lp]
  unfold part
  cases decide (s = ([] : List UInt8)) <;> cases decide (40 < (s.length : Int)) <;> cases decide (s = ([46] : List UInt8)) <;> cases decide (s = ([46, 46] : List UInt8)) <;> cases s.all ok1 <;> rfl
theorem r52 (x : Int) : RUN E 104 [.int x] = some [.bool (decide (97 ≤ x) && decide (x ≤ 122) || decide (48 ≤ x) && decide (x ≤ 57) || decide (x = 95))] := by
  rw [enter104]
  simp only [enter58]
  cases decide (97 ≤ x) <;> cases decide (x ≤ 122) <;> cases decide (48 ≤ x) <;> cases decide (x ≤ 57) <;> cases decide (x = 95) <;> rfl
theorem r42 (s : List UInt8) (h : s.length ≤ 1048576) : RUN E 72 [.str s] = some [.bool (part s)] := by
  have lp : L72a s 0 = some [.bool (s.all ok1)] := by
    refine all_loopS (L := fun i => L72a s i) (by show L72a s _ = _; rw [round72a, dec_f (by omega)]; rfl) fun i hi => ?_
    show L72a s i = _
    rw [round72a, dec_t (by omega), inb_nat hi, Int.toNat_natCast, nxt (by omega)]
    simp only [r52]
    unfold ok1
    generalize ((s.getD i 0).toNat : Int) = x
    cases decide (97 ≤ x) <;> cases decide (x ≤ 122) <;> cases decide (48 ≤ x) <;> cases decide (x ≤ 57) <;> cases decide (x = 45) <;> cases decide (x = 95) <;> cases decide (x = 46) <;> rfl
  have h0 : decide ((s.length : Int) < 1) = decide (s = ([] : List UInt8)) := by
    cases s with
    | nil => rfl
    | cons b r => rw [dec_f (p := (((b :: r).length : Nat) : Int) < 1) (by simp; omega), dec_f (by simp)]
  rw [enter72, lp, h0]
  unfold part
  cases decide (s = ([] : List UInt8)) <;> cases decide (40 < (s.length : Int)) <;> cases decide (s = ([46] : List UInt8)) <;> cases decide (s = ([46, 46] : List UInt8)) <;> cases s.all ok1 <;> rfl
def path (s : List UInt8) : Bool := !decide (200 < (s.length : Int)) && ((splitC 47 s).map D.str).all fun d => part d.toStr
theorem parts_len {s : List UInt8} {i : Nat} : (D.toStr (((splitC 47 s).map D.str).getD i .no)).length ≤ s.length := by
  rw [List.getD_eq_getElem?_getD, List.getElem?_map]
  cases h : (splitC 47 s)[i]? with
  | none => simp [D.toStr]
  | some x => exact (split_len 47 s.length s (Nat.le_refl _)).2 x (List.mem_of_getElem? h)
theorem r27 (s : List UInt8) (h : s.length ≤ 1048576) : RUN E 69 [.str s] = some [.bool (path s)] := by
  rw [enter69]
  unfold path
  by_cases h2 : (200 : Int) < (s.length : Int)
  · rw [dec_t h2]; rfl
  · rw [dec_f h2]
    have e := r39 s h 47
    have hl := (split_len 47 s.length s (Nat.le_refl _)).1
    have hc : s.count 47 ≤ s.length := List.count_le_length
    generalize hxs : (splitC 47 s).map D.str = xs at *
    have hxl : xs.length ≤ 1048577 := by rw [← hxs, List.length_map]; omega
    have lp : L69a xs (xs.length : Int) 0 = some [.bool (xs.all fun d => part d.toStr)] := by
      refine all_loop (L := fun i => L69a xs (xs.length : Int) i) (by show L69a xs _ _ = _; rw [round69a, dec_f (by omega)]; rfl) fun i hi => ?_
      show L69a xs _ i = _
      have hp := @parts_len s i
      rw [hxs] at hp
      rw [round69a, dec_t (by omega), inb_nat hi, Int.toNat_natCast, nxt (by omega), r40 _ (by omega)]
      simp only [cond_true, opt_s, List.getD_cons_zero, tB]
      cases part (D.toStr (xs.getD i .no)) <;> rfl
    show opt (RUN E 35 [.str s, .str [47]]) _ = _
    rw [e]
    exact lp
theorem r29 (s : List UInt8) (h : s.length ≤ 1048576) : RUN E 43 [.str s] = some [.bool (path s)] := by
  rw [enter43]
  unfold path
  by_cases h2 : (200 : Int) < (s.length : Int)
  · rw [dec_t h2]; cases decide ((s.length : Int) < 1) <;> rfl
  · rw [dec_f h2]
    by_cases h1 : (s.length : Int) < 1
    · have : s = [] := List.length_eq_zero_iff.1 (by omega)
      subst this; rfl
    · rw [dec_f h1]
      have e := r39 s h 47
      have hl := (split_len 47 s.length s (Nat.le_refl _)).1
      have hc : s.count 47 ≤ s.length := List.count_le_length
      generalize hxs : (splitC 47 s).map D.str = xs at *
      have hxl : xs.length ≤ 1048577 := by rw [← hxs, List.length_map]; omega
      have lp : L43a xs (xs.length : Int) 0 = some [.bool (xs.all fun d => part d.toStr)] := by
        refine all_loop (L := fun i => L43a xs (xs.length : Int) i) (by show L43a xs _ _ = _; rw [round43a, dec_f (by omega)]; rfl) fun i hi => ?_
        show L43a xs _ i = _
        have hp := @parts_len s i
        rw [hxs] at hp
        rw [round43a, dec_t (by omega), inb_nat hi, Int.toNat_natCast, nxt (by omega), r42 _ (by omega)]
        simp only [cond_true, opt_s, List.getD_cons_zero, tB]
        cases part (D.toStr (xs.getD i .no)) <;> rfl
      show opt (RUN E 35 [.str s, .str [47]]) _ = _
      rw [e]
      exact lp

/-! ### Addresses -/
end paths
end Go.Proofs.YtefclcihphpejaaDoor.ev

namespace Go.Proofs.YtefclcihphpejaaDoor.ev
open Go.Proofs.YtefclcihphpejaaDoor.DS
namespace paths
abbrev B := List UInt8
abbrev SS (l : List B) : Prop := l.Pairwise (· < ·)
abbrev pa (x : D) : B := D.toStr (x.cell 0)
abbrev bo (x : D) : B := D.toStr (x.cell 1)

/-! ### Outputs -/
theorem mass_drop : ∀ (m : List D) (k : Nat), dmass.dmAll (m.drop k) ≤ dmass.dmAll m := by
  intro m
  induction m with
  | nil => intro k; simp
  | cons x r ih => intro k; cases k with
    | zero => simp
    | succ k => have := ih k; simp only [List.drop_succ_cons, dmass.dmAll]; omega
section
variable (l : List D) (hl : dmass.dmAll l ≤ 1048576) (hn : l.length ≤ 480)
def Good (l : List D) (i : Nat) : Prop := ∀ j, i ≤ j → j < l.length → path (pa (l.getD j .no)) = true ∧ (0 < j → pa (l.getD (j - 1) .no) < pa (l.getD j .no))
include hl hn in
theorem inner (i : Nat) (hi : i < l.length) (e : Int) (hnext : L39a l l l.length ((i + 1 : Nat) : Int) = some [.int e] ∧ L14a l l l.length ((i + 1 : Nat) : Int) = some [.int e]) : ∃ e' : Int,
    L39b l l l.length i (l.drop (i + 1)) ((l.drop (i + 1)).length : Int) 0 (l.getD i .no) = some [.int e'] ∧ L14b l l l.length i (l.drop (i + 1)) ((l.drop (i + 1)).length : Int) 0 (l.getD i .no) = some [.int e'] ∧ (e' = 0 → e = 0) := by
  have ho := Nat.le_trans (cellS_le (l.getD i .no) 0) (Nat.le_trans (mass_getD l i) hl)
  generalize l.getD i .no = o at *
  have hll : (l.drop (i + 1)).length ≤ 480 := by simp; omega
  have key : ∀ n j : Nat, j + n = (l.drop (i + 1)).length → ∃ e' : Int, L39b l l l.length i (l.drop (i + 1)) ((l.drop (i + 1)).length : Int) j o = some [.int e'] ∧ L14b l l l.length i (l.drop (i + 1)) ((l.drop (i + 1)).length : Int) j o = some [.int e'] ∧ (e' = 0 → e = 0) := by
    intro n
    induction n with
    | zero =>
      intro j hj
      have e1 : decide ((j : Int) < (((l.drop (i + 1)).length : Nat) : Int)) = false := dec_f (by omega)
      rw [round39b, round14b, e1, nxt (i := i) (by omega)]
      cases decide ((200000 : Int) < ((D.toStr (o.cell 1)).length : Int)) with
      | true => exact ⟨4, rfl, rfl, fun h => by cases h⟩
      | false => exact ⟨e, hnext.1, hnext.2, id⟩
    | succ n ih =>
      intro j hj
      have hjl : j < (l.drop (i + 1)).length := by omega
      have e1 : decide ((j : Int) < (((l.drop (i + 1)).length : Nat) : Int)) = true := dec_t (by omega)
      have hx := Nat.le_trans (cellS_le ((l.drop (i + 1)).getD j .no) 0) (Nat.le_trans (mass_getD (l.drop (i + 1)) j) (Nat.le_trans (mass_drop l (i + 1)) hl))
      obtain ⟨e', f1, f2, f3⟩ := ih (j + 1) (by omega)
      have hlim : decide ((D.toStr (o.cell 0)).length + List.length ([47] : List UInt8) ≤ lim) = true := lim_t (by show _ + 1 ≤ _; omega)
      rw [round39b, round14b, e1, inb_nat hjl, Int.toNat_natCast, nxt (i := j) (by omega), hlim, r28 _ _ (by omega) (by rw [List.length_append]; show _ + 1 ≤ _; omega)]
      simp only [cond_true, opt_s, List.getD_cons_zero, tB]
      cases hasPre (D.toStr (((l.drop (i + 1)).getD j .no).cell 0)) (D.toStr (o.cell 0) ++ ([47] : List UInt8)) with
      | true => exact ⟨6, rfl, rfl, fun h => by cases h⟩
      | false => exact ⟨e', f1, f2, f3⟩
  exact key (l.drop (i + 1)).length 0 (by omega)
theorem tri {a b : B} (h1 : ¬ a < b) (h2 : a ≠ b) : b < a :=
  Classical.byContradiction fun h => h2 (List.le_antisymm (List.not_lt.1 h) (List.not_lt.1 h1))
include hl hn in
theorem outer : ∀ n i : Nat, i + n = l.length → ∃ e : Int, L39a l l l.length i = some [.int e] ∧ L14a l l l.length i = some [.int e] ∧ (e = 0 → Good l i) := by
  intro n
  induction n with
  | zero =>
    intro i hi
    have e1 : decide ((i : Int) < ((l.length : Nat) : Int)) = false := dec_f (by omega)
    rw [round39a, round14a, e1]
    exact ⟨0, rfl, rfl, fun _ j h1 h2 => absurd h2 (by omega)⟩
  | succ n ih =>
    intro i hi
    have hil : i < l.length := by omega
    obtain ⟨e, h1, h2, h3⟩ := ih (i + 1) (by omega)
    obtain ⟨e', g1, g2, g3⟩ := inner l hl hn i hil e ⟨h1, h2⟩
    have e1 : decide ((i : Int) < ((l.length : Nat) : Int)) = true := dec_t (by omega)
    have ho := Nat.le_trans (cellS_le (l.getD i .no) 0) (Nat.le_trans (mass_getD l i) hl)
    rw [round39a, round14a, e1, inb_nat hil, Int.toNat_natCast, nxt (by omega), cutOk_lo (by omega), cut_lo, r27 _ ho, r29 _ ho, g1, g2]
    simp only [cond_true, opt_s, List.getD_cons_zero, tB]
    cases hp : path (D.toStr ((l.getD i .no).cell 0)) with
    | false => exact ⟨3, rfl, rfl, fun h => by cases h⟩
    | true =>
      have hg : (bif inb (IntKind.wrap IntKind.i64 ((i : Int) - 1)) l.length then true else bif bif decide ((0 : Int) < (i : Int)) then true else false then false else true) = true := by
        by_cases h0 : (0 : Int) < (i : Int)
        · rw [show IntKind.wrap IntKind.i64 ((i : Int) - 1) = ((i - 1 : Nat) : Int) by rw [wrap_id (by omega) (by omega)]; omega, inb_nat (by omega)]; rfl
        · rw [dec_f h0]; cases inb (IntKind.wrap IntKind.i64 ((i : Int) - 1)) l.length <;> rfl
      rw [hg]
      simp only [cond_true, cond_false]
      generalize hz : (bif decide ((0 : Int) < (i : Int)) then _ else false : Bool) = z
      cases z with
      | true => exact ⟨5, rfl, rfl, fun h => by cases h⟩
      | false =>
        refine ⟨e', rfl, rfl, fun h0 j hj hjl => ?_⟩
        rcases Nat.lt_or_ge i j with hij | hij
        · exact h3 (g3 h0) j hij hjl
        · have : j = i := by omega
          subst this
          refine ⟨hp, fun hpos => ?_⟩
          rw [dec_t (by omega), wrap_id (by omega) (by omega), show ((j : Int) - 1) = ((j - 1 : Nat) : Int) by omega, Int.toNat_natCast, bytesLess_eq] at hz
          simp only [cond_true] at hz
          by_cases hlt : pa (l.getD j .no) < pa (l.getD (j - 1) .no)
          · rw [dec_t hlt] at hz; cases hz
          · by_cases heq : pa (l.getD j .no) = pa (l.getD (j - 1) .no)
            · rw [dec_t heq] at hz
              cases hb : decide (pa (l.getD j .no) < pa (l.getD (j - 1) .no)) <;> rw [hb] at hz <;> cases hz
            · exact tri hlt heq
end
theorem check (l : List D) (hl : dmass.dmAll l ≤ 1048576) : ∃ e : Int, RUN E 39 [.list l] = some [.int e] ∧ RUN E 14 [.list l] = some [.int e] ∧ (e = 0 → l.length ≤ 480 ∧ Good l 0) := by
  rw [enter39, enter14]
  by_cases h : (480 : Int) < (l.length : Int)
  · rw [dec_t h]; exact ⟨4, rfl, rfl, fun h => by cases h⟩
  · rw [dec_f h]
    obtain ⟨e, h1, h2, h3⟩ := outer l hl (by omega) l.length 0 (by omega)
    exact ⟨e, h1, h2, fun h0 => ⟨by omega, h3 h0⟩⟩
theorem good_lt {l : List D} (h : Good l 0) : ∀ (d i : Nat), i + 1 + d < l.length → pa (l.getD i .no) < pa (l.getD (i + 1 + d) .no) := by
  intro d
  induction d with
  | zero => intro i hi; exact (h (i + 1) (Nat.zero_le _) hi).2 (by omega)
  | succ d ih => intro i hi; exact List.lt_trans (ih i (by omega)) ((h (i + 1 + (d + 1)) (Nat.zero_le _) hi).2 (by omega))
theorem good_pw {l : List D} (h : Good l 0) : l.Pairwise fun x y => pa x < pa y := by
  rw [List.pairwise_iff_getElem]
  intro i j hi hj hij
  have := good_lt h (j - (i + 1)) i (by omega)
  rwa [show i + 1 + (j - (i + 1)) = j by omega, getD_eq l i .no hi, getD_eq l j .no hj] at this
theorem good_path {l : List D} (h : Good l 0) : ∀ x ∈ l, path (pa x) = true := by
  intro x hx
  obtain ⟨i, hi, rfl⟩ := List.getElem_of_mem hx
  have := (h i (Nat.zero_le _) hi).1
  rwa [getD_eq l i .no hi] at this

/-! ### Addresses -/
def idx : List UInt8 := [105, 110, 100, 101, 120, 46, 104, 116, 109, 108]
theorem suf_slash (p x : List UInt8) (b : UInt8) : hasSuf (b :: p) (b :: x) = (decide (p = x) || hasSuf p (b :: x)) := by
  unfold hasSuf
  rw [Bool.eq_iff_iff]
  simp only [Bool.or_eq_true, Bool.and_eq_true, decide_eq_true_eq, List.length_cons]
  by_cases h2 : p.length = x.length
  · rw [h2, Nat.sub_self, List.drop_zero]
    constructor
    · intro h; injection h.2 with _ h; exact .inl h
    · intro h
      rcases h with h | ⟨h, _⟩
      · exact ⟨Nat.le_refl _, by rw [h]⟩
      · omega
  · by_cases h1 : p.length < x.length
    · constructor
      · intro h; omega
      · intro h
        rcases h with h | ⟨h, _⟩
        · exact absurd (congrArg List.length h) h2
        · omega
    · rw [show p.length + 1 - (x.length + 1) = (p.length - (x.length + 1)) + 1 by omega, List.drop_succ_cons]
      constructor
      · intro h; exact .inr ⟨by omega, h.2⟩
      · intro h
        rcases h with h | ⟨_, h⟩
        · exact absurd (congrArg List.length h) h2
        · exact ⟨by omega, h⟩
theorem suf_tail {s x : List UInt8} {b : UInt8} (h : hasSuf s (b :: x) = true) : hasSuf s x = true := by
  unfold hasSuf at *
  simp only [Bool.and_eq_true, decide_eq_true_eq, List.length_cons] at h ⊢
  refine ⟨by omega, ?_⟩
  have := congrArg (List.drop 1) h.2
  rw [List.drop_drop] at this
  rw [show s.length - x.length = s.length - (x.length + 1) + 1 by omega, this]; rfl
theorem r70 (s p : List UInt8) (h : s.length ≤ 4194304) (hp : p.length ≤ s.length) : RUN E 70 [.str s, .str p] = some [.str (bif hasSuf s p then s.take (s.length - p.length) else s)] := by
  have e : IntKind.wrap IntKind.i64 ((s.length : Int) - (p.length : Int)) = ((s.length - p.length : Nat) : Int) := by rw [wrap_id (by omega) (by omega)]; omega
  rw [enter70, enter101, r43 s p h (by omega), e, cutOk_hi (by omega), cut_hi]
  simp only [opt_s, List.getD_cons_zero, tB]
  cases hasSuf s p <;> rfl
/-- The address of a path. -/
def ad (p : B) : B := 47 :: (bif decide (p = idx) then [] else bif hasSuf p (47 :: idx) then p.take (p.length - 10) else p)
theorem addr (p : List UInt8) (h : p.length ≤ 1048576) (hp : path p = true) : RUN E 41 [.str p] = some [.str (ad p), .int 0] ∧ RUN E 45 [.str p] = some [.str (ad p), .int 0] := by
  rw [enter41, enter45, r27 p h, r29 p h, hp]
  simp only [opt_s, List.getD_cons_zero, tB, cond_true, cond_false]
  have hlim : ∀ q : List UInt8, q.length ≤ p.length → decide (List.length ([47] : List UInt8) + q.length ≤ lim) = true := fun q hq => lim_t (by show 1 + q.length ≤ _; omega)
  have hs : RUN E 27 [D.str (([47] : List UInt8) ++ p), D.str ([47, 105, 110, 100, 101, 120, 46, 104, 116, 109, 108] : List UInt8)] = some [.bool (hasSuf (47 :: p) (47 :: idx))] := r30 (47 :: p) (47 :: idx) (by simp; omega) (by decide)
  have hs2 : RUN E 27 [D.str p, D.str ([47, 105, 110, 100, 101, 120, 46, 104, 116, 109, 108] : List UInt8)] = some [.bool (hasSuf p (47 :: idx))] := r30 p (47 :: idx) (by omega) (by decide)
  rw [hs, hs2, hlim p (Nat.le_refl _), suf_slash]
  simp only [cond_true, cond_false, opt_s, List.getD_cons_zero, tB]
  unfold ad
  by_cases he : p = idx
  · subst he
    refine ⟨?_, rfl⟩
    have q := r70 (47 :: idx) idx (by decide) (by decide)
    have hq : hasSuf (47 :: idx) idx = true := by decide
    rw [hq] at q
    simp only [decide_true, Bool.true_or, cond_true]
    show opt (RUN E 70 [.str (47 :: idx), .str idx]) _ = _
    rw [q]; rfl
  · rw [dec_f (p := p = ([105, 110, 100, 101, 120, 46, 104, 116, 109, 108] : List UInt8)) he, dec_f he]
    simp only [cond_false, Bool.false_or]
    cases hc : hasSuf p (47 :: idx) with
    | false => exact ⟨rfl, rfl⟩
    | true =>
      have hlen : 11 ≤ p.length := by
        unfold hasSuf at hc
        simp only [Bool.and_eq_true, decide_eq_true_eq] at hc
        exact hc.1
      have e10 : IntKind.wrap IntKind.i64 ((p.length : Int) - 10) = ((p.length - 10 : Nat) : Int) := by rw [wrap_id (by omega) (by omega)]; omega
      have q := r70 (47 :: p) idx (by simp; omega) (by simp; show 10 ≤ _; omega)
      have hq : hasSuf (47 :: p) idx = true := suf_tail (b := 47) (by rw [suf_slash, hc]; simp)
      rw [hq] at q
      refine ⟨?_, ?_⟩
      · simp only [cond_true]
        show opt (RUN E 70 [.str (47 :: p), .str idx]) _ = _
        rw [q]
        simp only [cond_true, opt_s, List.getD_cons_zero, tS, List.length_cons]
        rw [show p.length + 1 - idx.length = p.length - 10 + 1 by show p.length + 1 - 10 = _; omega]
        rfl
      · simp only [cond_true]
        rw [e10, cutOk_hi (by omega), cut_hi, hlim _ (by simp)]
        rfl
theorem cuts_end (c : UInt8) : ∀ (q w : List UInt8), [] ∈ cuts c w (q ++ [c]) := by
  intro q
  induction q with
  | nil => intro w; simp [cuts]
  | cons b r ih =>
    intro w
    simp only [List.cons_append, cuts]
    cases b == c with
    | true => exact List.mem_cons_of_mem _ (ih [])
    | false => exact ih _
theorem path_end {p : B} (hp : path p = true) : p ≠ [] ∧ ∀ q, p ≠ q ++ [47] := by
  unfold path at hp
  simp only [Bool.and_eq_true, List.all_eq_true, List.mem_map] at hp
  refine ⟨fun e => ?_, fun q e => ?_⟩
  · have := hp.2 (.str []) ⟨[], by rw [e]; simp [splitC, cuts], rfl⟩
    simp [part, D.toStr] at this
  · have := hp.2 (.str []) ⟨[], by rw [e]; exact cuts_end 47 q [], rfl⟩
    simp [part, D.toStr] at this
/-- The path of an address. -/
def un (a : B) : B := bif decide (a.getLast? = some 47) then a.tail ++ idx else a.tail
theorem un_ad {p : B} (hp : path p = true) : un (ad p) = p := by
  obtain ⟨h0, h1⟩ := path_end hp
  unfold ad
  by_cases he : p = idx
  · subst he; decide
  · rw [dec_f he]
    simp only [cond_false]
    cases hc : hasSuf p (47 :: idx) with
    | true =>
      unfold hasSuf at hc
      simp only [Bool.and_eq_true, decide_eq_true_eq] at hc
      have hlen : 11 ≤ p.length := hc.1
      have hd : p.drop (p.length - 11) = 47 :: idx := hc.2
      have e1 : p.take (p.length - 10) = p.take (p.length - 11) ++ [47] := by
        rw [show p.length - 10 = p.length - 11 + 1 by omega, List.take_add, hd]; rfl
      have e2 : p.drop (p.length - 10) = idx := by
        rw [show p.length - 10 = p.length - 11 + 1 by omega, ← List.drop_drop, hd]; rfl
      unfold un
      simp only [cond_true, List.tail_cons]
      rw [dec_t (by rw [e1, ← List.cons_append, List.getLast?_append]; rfl)]
      simp only [cond_true]
      rw [← e2, List.take_append_drop]
    | false =>
      unfold un
      simp only [cond_false, List.tail_cons]
      rw [dec_f]
      · rfl
      · intro hl
        obtain ⟨q, b, rfl⟩ : ∃ q b, p = q ++ [b] := ⟨_, _, (List.dropLast_concat_getLast h0).symm⟩
        rw [← List.cons_append, List.getLast?_append] at hl
        simp at hl
        exact h1 q (by rw [hl])

/-! ### Bodies -/
def look (l : List D) (q : B) : Option B := (l.find? fun x => decide (pa x = q)).map bo
def putAll : List (D × D) → List D → List (D × D)
  | m, [] => m
  | m, x :: r => putAll (putKV .str (.str (pa x)) (.str (bo x)) m) r
theorem find_cons (q : B) (a w : D) (r : List (D × D)) : findKV .str (.str q) ((a, w) :: r) = bif decide (q = D.toStr a) then some w else findKV .str (.str q) r := rfl
theorem find_put (q k v : B) : ∀ m : List (D × D), findKV .str (.str q) (putKV .str (.str k) (.str v) m) = if q = k then some (.str v) else findKV .str (.str q) m := by
  intro m
  induction m with
  | nil =>
    show (bif decide (q = k) then some (D.str v) else none) = _
    by_cases h : q = k
    · rw [dec_t h, if_pos h]; rfl
    · rw [dec_f h, if_neg h]; rfl
  | cons p r ih =>
    obtain ⟨a, w⟩ := p
    have hp : putKV .str (.str k) (.str v) ((a, w) :: r) = bif decide (k = D.toStr a) then (a, .str v) :: r else (a, w) :: putKV .str (.str k) (.str v) r := rfl
    rw [hp, find_cons]
    by_cases h : k = D.toStr a
    · rw [show decide (k = D.toStr a) = true from dec_t h, cond_true, find_cons]
      by_cases h2 : q = k
      · rw [dec_t (by rw [h2, h]), if_pos h2]; rfl
      · rw [dec_f (by rw [← h]; exact h2), if_neg h2]; rfl
    · rw [show decide (k = D.toStr a) = false from dec_f h, cond_false, find_cons]
      by_cases h2 : q = D.toStr a
      · rw [dec_t h2, if_neg (by rw [h2]; exact fun e => h e.symm)]; rfl
      · rw [dec_f h2]; exact ih
theorem find_all (q : B) : ∀ (l : List D) (m : List (D × D)), l.Pairwise (fun x y => pa x < pa y) → findKV .str (.str q) (putAll m l) = ((look l q).map D.str).or (findKV .str (.str q) m) := by
  intro l
  induction l with
  | nil => intro m _; rfl
  | cons x r ih =>
    intro m h
    obtain ⟨h1, h2⟩ := List.pairwise_cons.1 h
    rw [putAll, ih _ h2, find_put]
    unfold look
    by_cases hq : q = pa x
    · have hn : r.find? (fun y => decide (pa y = q)) = none := by
        rw [List.find?_eq_none]
        intro y hy he
        have he := of_decide_eq_true he
        have := h1 y hy
        rw [he, hq] at this
        exact List.lt_irrefl _ this
      rw [hn, if_pos hq, List.find?_cons_of_pos (by rw [hq]; simp)]; rfl
    · rw [if_neg hq, List.find?_cons_of_neg (by simp; exact fun e => hq e.symm)]
theorem r40m (l : List D) (hl : l.length ≤ 480) : RUN E 40 [.list l] = some [.list (kvD (putAll [] l))] := by
  have key : ∀ n i : Nat, i + n = l.length → ∀ m, L40a l l.length i m = some [.list (kvD (putAll m (l.drop i)))] := by
    intro n
    induction n with
    | zero =>
      intro i hi m
      rw [round40a, dec_f (by omega), List.drop_eq_nil_of_le (by omega)]; rfl
    | succ n ih =>
      intro i hi m
      rw [round40a, dec_t (by omega), inb_nat (by omega), nxt (by omega), Int.toNat_natCast, drop_cons .no (by omega)]
      exact ih (i + 1) (by omega) _
  rw [enter40]
  exact key l.length 0 (by omega) []
theorem r73 (l : List D) (q : B) (hl : l.length ≤ 480) : ∀ n i : Nat, i + n = l.length →
    (look (l.drop i) q = none ∧ L73a q l l.length i = some [.int (-1)]) ∨ ∃ j : Nat, i ≤ j ∧ j < l.length ∧ look (l.drop i) q = some (bo (l.getD j .no)) ∧ L73a q l l.length i = some [.int (j : Int)] := by
  intro n
  induction n with
  | zero =>
    intro i hi
    left
    rw [round73a, dec_f (by omega), List.drop_eq_nil_of_le (by omega)]; exact ⟨rfl, rfl⟩
  | succ n ih =>
    intro i hi
    rw [round73a, dec_t (by omega), inb_nat (by omega), nxt (by omega), Int.toNat_natCast, drop_cons .no (by omega)]
    unfold look
    by_cases h : pa (l.getD i .no) = q
    · right
      refine ⟨i, Nat.le_refl _, by omega, ?_, ?_⟩
      · rw [List.find?_cons_of_pos (p := fun x => decide (pa x = q)) (dec_t h)]; rfl
      · rw [dec_t h]; rfl
    · rw [List.find?_cons_of_neg (by rw [dec_f h]; exact Bool.false_ne_true), dec_f h]
      rcases ih (i + 1) (by omega) with ⟨a, b⟩ | ⟨j, a, b, c, d⟩
      · exact .inl ⟨a, b⟩
      · exact .inr ⟨j, by omega, b, c, d⟩
theorem r44 (l : List D) (q : B) (hl : l.length ≤ 480) : RUN E 44 [.list l, .str q] = some [.str ((look l q).getD []), .bool (look l q).isSome] := by
  rw [enter44, enter73]
  rcases r73 l q hl l.length 0 (by omega) with ⟨a, b⟩ | ⟨j, _, b, c, d⟩
  · rw [List.drop_zero] at a
    show opt (L73a q l l.length ((0 : Nat) : Int)) _ = _
    rw [b, a]; rfl
  · rw [List.drop_zero] at c
    show opt (L73a q l l.length ((0 : Nat) : Int)) _ = _
    rw [d, c]
    simp only [opt_s, List.getD_cons_zero, tI]
    rw [dec_t (by omega), inb_nat b, Int.toNat_natCast]; rfl
end paths
end Go.Proofs.YtefclcihphpejaaDoor.ev

namespace Go.Proofs.YtefclcihphpejaaDoor.ev
open Go.Proofs.YtefclcihphpejaaDoor.DS
namespace paths
theorem getB (A : List B) {i : Nat} (hi : i < A.length) : D.toStr ((A.map D.str).getD i .no) = A[i] := by
  simp [List.getD_eq_getElem?_getD, hi, D.toStr]
theorem uniq : ∀ (a b : List B), SS a → SS b → (∀ x, x ∈ a ↔ x ∈ b) → a = b := by
  intro a
  induction a with
  | nil =>
    intro b _ _ h
    cases b with
    | nil => rfl
    | cons y s => exact absurd ((h y).2 List.mem_cons_self) (by simp)
  | cons x r ih =>
    intro b ha hb h
    cases b with
    | nil => exact absurd ((h x).1 List.mem_cons_self) (by simp)
    | cons y s =>
      obtain ⟨a1, a2⟩ := List.pairwise_cons.1 ha
      obtain ⟨b1, b2⟩ := List.pairwise_cons.1 hb
      have e : x = y := by
        rcases List.mem_cons.1 ((h x).1 List.mem_cons_self) with e | e
        · exact e
        · rcases List.mem_cons.1 ((h y).2 List.mem_cons_self) with e' | e'
          · exact e'.symm
          · exact absurd (List.lt_trans (b1 x e) (a1 y e')) (List.lt_irrefl _)
      subst e
      rw [ih s a2 b2 fun z => ?_]
      constructor
      · intro hz
        rcases List.mem_cons.1 ((h z).1 (List.mem_cons_of_mem _ hz)) with e | e
        · subst e; exact absurd (a1 z hz) (List.lt_irrefl _)
        · exact e
      · intro hz
        rcases List.mem_cons.1 ((h z).2 (List.mem_cons_of_mem _ hz)) with e | e
        · subst e; exact absurd (b1 z hz) (List.lt_irrefl _)
        · exact e
theorem r42s (x : List D) (h : x.length ≤ 1048576) : RUN E 42 [.list x] = some [.list (srt x)] := by
  have : RUN E 42 [.list x] = cond (decide (x.length ≤ lim)) (some [.list (srt x)]) none := (RUN_eq _ _ _).trans (by kernel_rfl)
  rw [this, dec_t (by rw [lim_val]; omega)]; rfl
theorem srt_map (Bs : List B) : srt (Bs.map .str) = (srtS Bs).map .str := by
  unfold srt
  have : (Bs.map D.str).map D.toStr = Bs := by
    rw [List.map_map]
    have : (D.toStr ∘ D.str) = id := by funext x; rfl
    rw [this, List.map_id]
  rw [this]
theorem sorted (Bs : List B) (hl : Bs.length ≤ 1048576) : ∃ A : List B, RUN E 46 [.list (Bs.map .str)] = some [.list (A.map .str)] ∧ SS A ∧ (∀ x, x ∈ A ↔ x ∈ Bs) ∧ A.length ≤ Bs.length := by
  have hS : (srtS Bs).Pairwise (· ≤ ·) := by
    have := List.pairwise_mergeSort (le := fun x y : B => decide (x ≤ y)) (fun a b c h1 h2 => by
      simp only [decide_eq_true_eq] at *; exact List.le_trans h1 h2) (fun a b => by
      simp only [Bool.or_eq_true, decide_eq_true_eq]; exact List.le_total a b) Bs
    exact this.imp fun h => by simpa using h
  have hmem : ∀ x, x ∈ srtS Bs ↔ x ∈ Bs := fun x => (List.mergeSort_perm _ _).mem_iff
  have hlen : (srtS Bs).length = Bs.length := by simp [srtS]
  have e0 : RUN E 46 [.list (Bs.map .str)] = L46a ((srtS Bs).length : Int) ((0 : Nat) : Int) (([] : List B).map .str) ((srtS Bs).map .str) := by
    rw [enter46, r42s _ (by simp; omega), srt_map]
    simp only [opt_s, List.getD_cons_zero, tL, List.length_map]
    rfl
  generalize srtS Bs = S at *
  have lp : ∀ n i : Nat, i + n = S.length → ∀ out : List B, SS out → (∀ x, x ∈ out ↔ x ∈ S.take i) → out.length ≤ i →
      ∃ A : List B, L46a (S.length : Int) i (out.map .str) (S.map .str) = some [.list (A.map .str)] ∧ SS A ∧ (∀ x, x ∈ A ↔ x ∈ S) ∧ A.length ≤ S.length := by
    intro n
    induction n with
    | zero =>
      intro i hi out h1 h2 h3
      refine ⟨out, ?_, h1, fun x => by rw [h2, List.take_of_length_le (by omega)], by omega⟩
      rw [round46a, dec_f (by omega)]; rfl
    | succ n ih =>
      intro i hi out h1 h2 h3
      have hiS : i < S.length := by omega
      have htake : S.take (i + 1) = S.take i ++ [S[i]] := by rw [List.take_add_one]; simp [hiS]
      have e10 : L46a (S.length : Int) i (out.map .str) (S.map .str) = _ := round46a _ _ _ _
      rw [dec_t (by omega), List.length_map, inb_nat hiS, Int.toNat_natCast, getB S hiS] at e10
      have hg : (bif inb (IntKind.wrap IntKind.i64 ((i : Int) - 1)) S.length then true else bif bif decide ((i : Int) = 0) then false else true then false else true) = true := by
        rcases Nat.eq_zero_or_pos i with h0 | h0
        · subst h0; cases inb (IntKind.wrap IntKind.i64 (((0 : Nat) : Int) - 1)) S.length <;> rfl
        · rw [wrap_id (by omega) (by omega), show ((i : Int) - 1) = ((i - 1 : Nat) : Int) by omega, inb_nat (by omega)]; rfl
      rw [hg] at e10
      simp only [cond_true] at e10
      have push : (∀ x ∈ out, x < S[i]) → (L46a (S.length : Int) i (out.map .str) (S.map .str) = L46a (S.length : Int) ((i + 1 : Nat) : Int) (out.map .str ++ [.str S[i]]) (S.map .str)) →
          ∃ A : List B, L46a (S.length : Int) i (out.map .str) (S.map .str) = some [.list (A.map .str)] ∧ SS A ∧ (∀ x, x ∈ A ↔ x ∈ S) ∧ A.length ≤ S.length := by
        intro hlt he
        obtain ⟨A, a1, a2⟩ := ih (i + 1) (by omega) (out ++ [S[i]]) (List.pairwise_append.2 ⟨h1, List.pairwise_singleton _ _, fun x hx y hy => by rw [List.mem_singleton.1 hy]; exact hlt x hx⟩)
          (fun x => by rw [htake, List.mem_append, List.mem_append, h2]) (by simp; omega)
        refine ⟨A, ?_, a2⟩
        rw [he, ← a1]; simp
      have hpush : L46a (S.length : Int) ((i + 1 : Nat) : Int) (out.map .str ++ [.str S[i]]) (S.map .str) = cond (fitL (out.map D.str).length (List.length [D.str S[i]])) (L46a (S.length : Int) (IntKind.wrap IntKind.i64 ((i : Int) + 1)) (out.map .str ++ [.str S[i]]) (S.map .str)) none := by
        rw [fitL_le (by rw [lim_val]; simp; omega), nxt (by omega)]; rfl
      rcases Nat.eq_zero_or_pos i with h0 | h0
      · refine push (fun x hx => ?_) ?_
        · rw [h2, h0] at hx; cases hx
        · rw [e10, hpush, dec_t (p := (i : Int) = 0) (by omega)]; rfl
      · rw [dec_f (p := (i : Int) = 0) (by omega), wrap_id (i := (i : Int) - 1) (by omega) (by omega), show ((i : Int) - 1) = ((i - 1 : Nat) : Int) by omega, Int.toNat_natCast, getB S (by omega)] at e10
        simp only [cond_false] at e10
        by_cases he : S[i] = S[i - 1]
        · rw [dec_t he] at e10
          simp only [cond_true, cond_false] at e10
          rw [nxt (by omega)] at e10
          obtain ⟨A, a1, a2⟩ := ih (i + 1) (by omega) out h1 (fun x => by
            rw [htake, List.mem_append, h2]
            refine ⟨.inl, fun h => h.elim id fun h => ?_⟩
            rw [List.mem_singleton.1 h, he]
            exact List.mem_take_iff_getElem.2 ⟨i - 1, by omega, rfl⟩) (by omega)
          exact ⟨A, e10.trans a1, a2⟩
        · rw [dec_f he] at e10
          refine push (fun x hx => ?_) (by rw [e10, hpush]; rfl)
          rw [h2] at hx
          obtain ⟨j, hj, rfl⟩ := List.mem_take_iff_getElem.1 hx
          have hle : ∀ (a b : Nat) (hab : a < b) (hb : b < S.length), S[a] ≤ S[b] := fun a b hab hb => List.pairwise_iff_getElem.1 hS a b (by omega) hb hab
          have k1 : S[j] ≤ S[i - 1] := by
            rcases Nat.lt_or_ge j (i - 1) with h | h
            · exact hle j (i - 1) h (by omega)
            · have : j = i - 1 := by omega
              subst this; exact List.le_refl _
          have k2 : S[i - 1] < S[i] := Classical.byContradiction fun h => he (List.le_antisymm (List.not_lt.1 h) (hle (i - 1) i (by omega) hiS))
          exact List.lt_of_le_of_lt k1 k2
  obtain ⟨A, a1, a2, a3, a4⟩ := lp S.length 0 (Nat.zero_add _) [] List.Pairwise.nil (fun x => by simp) (Nat.le_refl _)
  exact ⟨A, e0.trans a1, a2, fun x => (a3 x).trans (hmem x), by omega⟩

theorem push_loop {L : Int → List D → R} {l : List D} {c : D → Bool} {f : D → D} {fin : List D → R} (n0 : Nat) (hend : ∀ out, L (l.length : Nat) out = fin out)
    (hL : ∀ (i : Nat) (out : List D), i < l.length → out.length ≤ n0 + i → L i out = cond (c (l.getD i .no)) (L ((i + 1 : Nat) : Int) (out ++ [f (l.getD i .no)])) (L ((i + 1 : Nat) : Int) out))
    (out : List D) (ho : out.length ≤ n0) : L 0 out = fin (out ++ (l.filter c).map f) := by
  have key : ∀ n i : Nat, i + n = l.length → ∀ out : List D, out.length ≤ n0 + i → L i out = fin (out ++ ((l.drop i).filter c).map f) := by
    intro n
    induction n with
    | zero =>
      intro i hi out _
      have : i = l.length := by omega
      subst this
      rw [hend, List.drop_length]; simp
    | succ n ih =>
      intro i hi out h
      have hil : i < l.length := by omega
      rw [hL i out hil h, drop_cons .no hil]
      cases hc : c (l.getD i .no) with
      | true =>
        rw [List.filter_cons_of_pos hc, cond_true, ih (i + 1) (by omega) _ (by simp; omega)]; simp
      | false =>
        rw [List.filter_cons_of_neg (by rw [hc]; exact Bool.false_ne_true), cond_false, ih (i + 1) (by omega) _ (by omega)]
  exact key l.length 0 (by omega) out (by omega)

def c1 (new : List D) (x : D) : Bool := !decide (look new (pa x) = some (bo x))
def c2 (old : List D) (x : D) : Bool := !(look old (pa x)).isSome
/-- The addresses that differ. -/
def evs (old new : List D) : List B := ((old.filter (c1 new)) ++ (new.filter (c2 old))).map fun x => ad (pa x)
theorem evs_map (old new : List D) : ([] ++ (old.filter (c1 new)).map (fun x => D.str (ad (pa x)))) ++ (new.filter (c2 old)).map (fun x => D.str (ad (pa x))) = (evs old new).map .str := by
  simp [evs, List.map_append, List.map_map, Function.comp_def]
theorem evs_len (old new : List D) : (evs old new).length ≤ old.length + new.length := by
  simp only [evs, List.length_map, List.length_append]
  have := List.length_filter_le (c1 new) old
  have := List.length_filter_le (c2 old) new
  omega
theorem look_some {l : List D} {x : D} (h : x ∈ l) : (look l (pa x)).isSome = true := by
  unfold look
  rw [Option.isSome_map, List.find?_isSome]
  exact ⟨x, h, by simp⟩
theorem evs_nodup {old new : List D} (ho : Good old 0) (hn : Good new 0) : (evs old new).Pairwise (· ≠ ·) := by
  have inj : ∀ {x y : D}, path (pa x) = true → path (pa y) = true → pa x ≠ pa y → ad (pa x) ≠ ad (pa y) := fun hx hy hne he => hne (by rw [← un_ad hx, ← un_ad hy, he])
  unfold evs
  rw [List.pairwise_map, List.pairwise_append]
  have hpo := good_path ho
  have hpn := good_path hn
  have part : ∀ {l : List D} {c : D → Bool}, Good l 0 → (l.filter c).Pairwise fun x y => ad (pa x) ≠ ad (pa y) := by
    intro l c h
    refine List.Pairwise.imp_of_mem (fun {x y} hx hy hlt => ?_) ((good_pw h).sublist List.filter_sublist)
    exact inj (good_path h x (List.mem_filter.1 hx).1) (good_path h y (List.mem_filter.1 hy).1) fun e => by rw [e] at hlt; exact List.lt_irrefl _ hlt
  refine ⟨part ho, part hn, fun x hx y hy => ?_⟩
  have hx' := (List.mem_filter.1 hx).1
  obtain ⟨hy', hc⟩ := List.mem_filter.1 hy
  refine inj (hpo x hx') (hpn y hy') fun e => ?_
  unfold c2 at hc
  rw [← e, look_some hx'] at hc
  cases hc
theorem look_c (o : Option B) (y : B) : (bif bif Option.isSome (o.map D.str) then false else true then true else bif decide (D.toStr (Option.getD (o.map D.str) (D.str [])) = y) then false else true) = !decide (o = some y) := by
  cases o with
  | none => rfl
  | some b =>
    show (bif decide (b = y) then false else true) = _
    by_cases h : b = y
    · rw [dec_t h, dec_t (by rw [h])]; rfl
    · rw [dec_f h, dec_f (fun e => h (Option.some.inj e))]; rfl
theorem fin13 (m : List D) (h : m.length ≤ 1048576) : opt (RUN E 42 [D.list m]) (fun ρ1 => some [D.list (D.toList (List.getD ρ1 0 D.no)), D.int 0]) = some [D.list (srt m), .int 0] := by
  rw [r42s m h]; rfl
theorem get_path {l : List D} (h : Good l 0) {i : Nat} (hi : i < l.length) : path (pa (l.getD i .no)) = true := (h i (Nat.zero_le _) hi).1
theorem get_len {l : List D} (hl : dmass.dmAll l ≤ 1048576) (i : Nat) : (pa (l.getD i .no)).length ≤ 1048576 := Nat.le_trans (cellS_le _ 0) (Nat.le_trans (mass_getD l i) hl)
section
variable (old new : List D) (h1 : dmass.dmAll old ≤ 1048576) (h2 : dmass.dmAll new ≤ 1048576) (l1 : old.length ≤ 480) (l2 : new.length ≤ 480) (g1 : Good old 0) (g2 : Good new 0)
include h1 h2 l1 l2 g1 g2 in
theorem prog : opt (RUN E 40 [D.list old]) (fun ρ4 => opt (RUN E 40 [D.list new]) fun ρ5 => L13a new old ((old.length : Nat) : Int) 0 [] (unkv (D.toList (List.getD ρ4 0 D.no))) (unkv (D.toList (List.getD ρ5 0 D.no)))) = some [.list (srt ((evs old new).map .str)), .int 0] := by
  rw [r40m old l1, r40m new l2]
  simp only [opt_s, List.getD_cons_zero, tL, unkv_kvD]
  have f1 : ∀ q, findKV .str (.str q) (putAll [] old) = (look old q).map D.str := fun q => by rw [find_all q old [] (good_pw g1)]; simp [findKV]
  have f2 : ∀ q, findKV .str (.str q) (putAll [] new) = (look new q).map D.str := fun q => by rw [find_all q new [] (good_pw g2)]; simp [findKV]
  generalize putAll [] old = m1 at *
  generalize putAll [] new = m2 at *
  have b2 : ∀ out : List D, out.length ≤ 1000 → L13b new new.length 0 out m1 = some [.list (srt (out ++ (new.filter (c2 old)).map fun x => D.str (ad (pa x)))), .int 0] := by
    intro out ho
    have hfl : ∀ out : List D, out.length ≤ 2000 → opt (RUN E 42 [D.list out]) (fun ρ1 => some [D.list (D.toList (List.getD ρ1 0 D.no)), D.int 0]) = some [D.list (srt out), .int 0] := fun out h => fin13 out (by omega)
    have := push_loop (L := fun i out => L13b new new.length i out m1) (l := new) (c := c2 old) (f := fun x => D.str (ad (pa x))) (fin := fun out => opt (RUN E 42 [D.list out]) (fun ρ1 => some [D.list (D.toList (List.getD ρ1 0 D.no)), D.int 0])) 1000
      (fun out => by show L13b _ _ _ _ _ = _; rw [round13b, dec_f (by omega)]; rfl)
      (fun i out hi hou => by
        show L13b _ _ _ _ _ = _
        rw [round13b, dec_t (by omega), inb_nat hi, Int.toNat_natCast, nxt (by omega), f1, (addr _ (get_len h2 i) (get_path g2 hi)).1]
        simp only [cond_true, opt_s, List.getD_cons_zero, tS, Option.isSome_map]
        rw [fitL_le (by rw [lim_val]; show _ + 1 ≤ _; omega)]
        unfold c2
        cases (look old (pa (new.getD i .no))).isSome <;> rfl) out ho
    refine this.trans (hfl _ ?_)
    have := List.length_filter_le (c2 old) new
    simp; omega
  have := push_loop (L := fun i out => L13a new old old.length i out m1 m2) (l := old) (c := c1 new) (f := fun x => D.str (ad (pa x))) (fin := fun out => L13b new new.length 0 out m1) 0
      (fun out => by show L13a _ _ _ _ _ _ _ = _; rw [round13a, dec_f (by omega)]; rfl)
      (fun i out hi hou => by
        show L13a _ _ _ _ _ _ _ = _
        rw [round13a, dec_t (by omega), inb_nat hi, Int.toNat_natCast, nxt (by omega), f2, (addr _ (get_len h1 i) (get_path g1 hi)).1]
        rw [look_c]
        simp only [cond_true, opt_s, List.getD_cons_zero, tS]
        rw [fitL_le (by rw [lim_val]; show _ + 1 ≤ _; omega)]
        rfl) [] (by simp)
  refine (show L13a new old old.length 0 [] m1 m2 = _ from this).trans ?_
  rw [b2 _ (by have := List.length_filter_le (c1 new) old; simp; omega), evs_map]
include h1 h2 l1 l2 g1 g2 in
theorem ref : RUN E 16 [D.list old, D.list new] = opt (RUN E 46 [.list ((evs old new).map .str)]) fun ρ1 => some [D.list (D.toList (List.getD ρ1 0 D.no))] := by
  have b2 : ∀ out : List D, out.length ≤ 1000 → L16b old new new.length 0 out = opt (RUN E 46 [.list (out ++ (new.filter (c2 old)).map fun x => D.str (ad (pa x)))]) fun ρ1 => some [D.list (D.toList (List.getD ρ1 0 D.no))] := by
    intro out ho
    exact push_loop (L := fun i out => L16b old new new.length i out) (l := new) (c := c2 old) (f := fun x => D.str (ad (pa x))) (fin := fun out => opt (RUN E 46 [D.list out]) (fun ρ1 => some [D.list (D.toList (List.getD ρ1 0 D.no))])) 1000
      (fun out => by show L16b _ _ _ _ _ = _; rw [round16b, dec_f (by omega)]; rfl)
      (fun i out hi hou => by
        show L16b _ _ _ _ _ = _
        rw [round16b, dec_t (by omega), inb_nat hi, Int.toNat_natCast, nxt (by omega), r44 _ _ l1, (addr _ (get_len h2 i) (get_path g2 hi)).2]
        simp only [cond_true, opt_s, List.getD_cons_zero, List.getD_cons_succ, tS, tB]
        rw [fitL_le (by rw [lim_val]; show _ + 1 ≤ _; omega)]
        unfold c2
        cases (look old (pa (new.getD i .no))).isSome <;> rfl) out ho
  rw [enter16]
  have := push_loop (L := fun i out => L16a old new old old.length i out) (l := old) (c := c1 new) (f := fun x => D.str (ad (pa x))) (fin := fun out => L16b old new new.length 0 out) 0
      (fun out => by show L16a _ _ _ _ _ _ = _; rw [round16a, dec_f (by omega)]; rfl)
      (fun i out hi hou => by
        show L16a _ _ _ _ _ _ = _
        rw [round16a, dec_t (by omega), inb_nat hi, Int.toNat_natCast, nxt (by omega), r44 _ _ l2, (addr _ (get_len h1 i) (get_path g1 hi)).2]
        simp only [cond_true, opt_s, List.getD_cons_zero, List.getD_cons_succ, tS, tB]
        rw [fitL_le (by rw [lim_val]; show _ + 1 ≤ _; omega)]
        unfold c1
        cases hk : look new (pa (old.getD i .no)) with
        | none => rfl
        | some b =>
          simp only [Option.isSome_some, Option.getD_some, cond_true, cond_false, Option.some.injEq]
          by_cases hb : b = bo (old.getD i .no)
          · rw [show decide (b = bo (old.getD i .no)) = true from dec_t hb]; rfl
          · rw [show decide (b = bo (old.getD i .no)) = false from dec_f hb]; rfl) [] (by simp)
  refine (show L16a old new old old.length 0 [] = _ from this).trans ?_
  rw [b2 _ (by have := List.length_filter_le (c1 new) old; simp; omega), evs_map]
include h1 h2 l1 l2 g1 g2 in
theorem both : ∃ m : List D, m.length ≤ 2000 ∧ opt (RUN E 40 [D.list old]) (fun ρ4 => opt (RUN E 40 [D.list new]) fun ρ5 => L13a new old ((old.length : Nat) : Int) 0 [] (unkv (D.toList (List.getD ρ4 0 D.no))) (unkv (D.toList (List.getD ρ5 0 D.no)))) = some [.list m, .int 0] ∧ RUN E 16 [D.list old, D.list new] = some [.list m] := by
  rw [prog old new h1 h2 l1 l2 g1 g2, ref old new h1 h2 l1 l2 g1 g2]
  have hlen := evs_len old new
  obtain ⟨A, a1, a2, a3, a4⟩ := sorted (evs old new) (by omega)
  have hs : SS (srtS (evs old new)) := by
    have p1 := List.pairwise_mergeSort (le := fun x y : B => decide (x ≤ y)) (fun a b c h1 h2 => by
      simp only [decide_eq_true_eq] at *; exact List.le_trans h1 h2) (fun a b => by
      simp only [Bool.or_eq_true, decide_eq_true_eq]; exact List.le_total a b) (evs old new)
    have p2 : (srtS (evs old new)).Pairwise (· ≠ ·) := ((List.mergeSort_perm _ _).symm.pairwise_iff (fun h => h.symm)).1 (evs_nodup g1 g2)
    refine List.Pairwise.imp₂ (fun a b h h' => ?_) p1 p2
    exact Classical.byContradiction fun hlt => h' (List.le_antisymm (by simpa using h) (List.not_lt.1 hlt))
  have : A = srtS (evs old new) := uniq _ _ a2 hs fun x => (a3 x).trans (List.mergeSort_perm _ _).mem_iff.symm
  refine ⟨(srtS (evs old new)).map .str, by rw [← this, List.length_map]; omega, by rw [srt_map], ?_⟩
  rw [a1, this]; rfl
end
theorem eq15 (m : List D) (h : m.length ≤ 1048576) : RUN E 15 [.list m, .list m] = some [.bool true] := by
  rw [enter15, dec_t rfl]
  exact eq_same (L := fun i => L15a m m m.length i) (e := fun d => decide (D.toStr d = D.toStr d)) (fun d => dec_t rfl) (fun v => round15a m m m.length v) (by omega)
theorem law5 (old new : List D) (h : dmass.dmAll [.list old, .list new] ≤ 1048576) : RUN E 5 [.list old, .list new] = some [.bool true] := by
  simp only [mass_list, mass_nil] at h
  obtain ⟨e1, a1, a2, a3⟩ := check old (by omega)
  obtain ⟨e2, b1, b2, b3⟩ := check new (by omega)
  rw [enter5, enter13, a1, a2, b1, b2]
  simp only [opt_s, List.getD_cons_zero, tI]
  by_cases h1 : e1 = 0
  · by_cases h2 : e2 = 0
    · obtain ⟨l1, g1⟩ := a3 h1
      obtain ⟨l2, g2⟩ := b3 h2
      obtain ⟨m, m1, m2, m3⟩ := both old new (by omega) (by omega) l1 l2 g1 g2
      rw [dec_t h1, dec_t h2, m2, m3]
      have ht : decide ((0 : Int) = 0) = true := rfl
      simp only [cond_true, cond_false, opt_s, List.getD_cons_zero, List.getD_cons_succ, tI, tL, ht]
      show opt (RUN E 15 [.list m, .list m]) _ = _
      rw [eq15 m (by omega)]; rfl
    · rw [dec_t h1, dec_f h2]
      simp only [cond_true, cond_false, opt_s, List.getD_cons_zero, List.getD_cons_succ, tI, tL]
      simp
  · rw [dec_f h1]
    simp only [cond_true, cond_false, opt_s, List.getD_cons_zero, List.getD_cons_succ, tI, tL]
    simp
end paths
namespace evx
theorem lawR {M M' : Mem} {v v' : Value} {a b : TypeId} {l m : List D} (_ : Rep E.tt M (.slice a) v (.list l)) (_ : Rep E.tt M' (.slice b) v' (.list m)) (hb : dmass.dmAll [.list l, .list m] ≤ 1048576) : RUN E 5 [.list l, .list m] = some [.bool true] := paths.law5 l m hb
end evx
end Go.Proofs.YtefclcihphpejaaDoor.ev
