/- An index as a text: both sides' bytes; the law. -/
import Derived.Test.YtefclcihphpejaaDoorDxRdB
import Derived.Test.YtefclcihphpejaaDoorF8
import Derived.Lib.LaidTab
import Derived.MakeChecks
set_option linter.unusedVariables false
set_option linter.unusedSimpArgs false
namespace Go.Proofs.YtefclcihphpejaaDoor.rd
open Go.Proofs.YtefclcihphpejaaDoor.DS
namespace words
def isL (x : Int) : Bool := bif bif decide (97 ≤ x) then decide (x ≤ 122) else false then true else bif decide (65 ≤ x) then decide (x ≤ 90) else false
def isD (x : Int) : Bool := bif decide (48 ≤ x) then decide (x ≤ 57) else false
def isw (c : UInt8) : Bool := bif bif isL (c.toNat : Int) then true else isD (c.toNat : Int) then true else decide (128 ≤ (c.toNat : Int))
theorem r21 (x : Int) : RUN E 89 [.int x] = some [.bool (isL x)] := enter89 x
theorem r22 (x : Int) : RUN E 90 [.int x] = some [.bool (isD x)] := enter90 x
theorem r24 (x : Int) : RUN E 57 [.int x] = some [.bool (isL x)] := enter57 x
theorem r25 (x : Int) : RUN E 58 [.int x] = some [.bool (isD x)] := enter58 x
theorem r23 (s : List UInt8) (h : s.length ≤ 1048576) : RUN E 91 [.str s] = some [.str (s.map low1)] := by
  rw [enter91]; exact lower_loop round91a s (by omega)
theorem r26 (s : List UInt8) (h : s.length ≤ 1048576) : RUN E 59 [.str s] = some [.str (s.map low1)] := by
  rw [enter59]; exact lower_loop round59a s (by omega)
def fin (w : List UInt8) : List D := bif (bif (bif decide (w = []) then false else true) then decide ((w.length : Int) ≤ 30) else false) then [.str w] else []
/-- The words, behind what has been read of one. -/
def wf : List UInt8 → List UInt8 → List D
  | w, [] => fin w
  | w, c :: r => bif isw c then wf (w ++ [low1 c]) r else fin w ++ wf [] r
theorem fin_nil : fin [] = [] := rfl
theorem wf_stop {w l : List UInt8} (h : ∀ c r, l = c :: r → isw c = false) : wf w l = fin w ++ wf [] l := by
  cases l with
  | nil => simp [wf, fin_nil]
  | cons c r => simp [wf, h c r rfl, fin_nil]

section
variable (t : List UInt8) (ht : t.length ≤ 1048576)

/-- The program: where a word ends. -/
noncomputable def ex (i k : Nat) (o : List D) : R :=
  cond (bif decide ((i : Int) < (k : Int)) then decide (IntKind.wrap IntKind.i64 ((k : Int) - (i : Int)) ≤ 30) else false)
    (cond (cutOk (List.length t) (some (i : Int)) (some (k : Int)))
      (opt (RUN E 91 [D.str (cutL t (some (i : Int)) (some (k : Int)))]) fun r8 =>
        cond (fitL (List.length o) (List.length [D.str (D.toStr (List.getD r8 0 D.no))]))
          (L51a t (mmInt true (k : Int) (IntKind.wrap IntKind.i64 ((i : Int) + 1))) (o ++ [D.str (D.toStr (List.getD r8 0 D.no))]))
          (none))
      (none))
    (L51a t (mmInt true (k : Int) (IntKind.wrap IntKind.i64 ((i : Int) + 1))) o)
theorem in8 {i k : Nat} (o : List D) (hk : k < t.length) (h2 : t.length ≤ 1048576) : L51b t i k o = cond (isw (t.getD k 0)) (L51b t i ((k + 1 : Nat) : Int) o) (ex t i k o) := by
  rw [round51b, inb_nat hk, dec_t (by omega), Int.toNat_natCast, nxt (by omega)]
  simp only [r21, r22]
  unfold ex isw
  generalize ((t.getD k 0).toNat : Int) = x
  cases h1 : isL x <;> cases h2 : isD x <;> simp [h1, h2, opt_s, tB]
theorem out8 {i : Nat} (o : List D) : L51b t i (t.length : Nat) o = ex t i t.length o := by
  rw [round51b, dec_f (by omega)]
  unfold ex
  simp [opt_s]
theorem mm {i k : Nat} (hk : k ≤ 1048576) (hi : i ≤ 1048576) : mmInt true (k : Int) (IntKind.wrap IntKind.i64 ((i : Int) + 1)) = ((max k (i + 1) : Nat) : Int) := by
  rw [nxt (by omega)]
  unfold mmInt
  by_cases h : (k : Int) < ((i + 1 : Nat) : Int)
  · rw [dec_t h]; simp; omega
  · rw [dec_f h]; simp; omega

include ht in
theorem prog : ∀ n i : Nat, t.length - i ≤ n → i ≤ t.length → ∀ o : List D, o.length ≤ i → L51a t i o = some [.list (o ++ wf [] (t.drop i))] := by
  intro n
  induction n with
  | zero =>
    intro i hn hi o ho
    have : i = t.length := by omega
    subst this
    rw [round51a, dec_f (by omega)]; simp [wf, fin_nil]
  | succ n ih =>
    intro i hn hi o ho
    by_cases hil : i < t.length
    · have stop : ∀ k : Nat, i ≤ k → k ≤ t.length → (i = k → k < t.length) → (∀ c r, t.drop k = c :: r → isw c = false) → ex t i k o = some [.list (o ++ wf ((sub t i k).map low1) (t.drop k))] := by
        intro k hik hkl hne hst
        have hsl : (sub t i k).length = k - i := sub_len hkl
        unfold ex
        rw [mm (by omega) (by omega), cutOk_both hik hkl, cut_both, r23 _ (by omega), wf_stop hst]
        by_cases hlt : i < k
        · have hmx : max k (i + 1) = k := by omega
          have hnn : (sub t i k).map low1 ≠ [] := by
            intro h
            have hz : ((sub t i k).map low1).length = 0 := by rw [h]; rfl
            rw [List.length_map, hsl] at hz; omega
          have hw : IntKind.wrap IntKind.i64 ((k : Int) - (i : Int)) = (((sub t i k).map low1).length : Int) := by rw [wrap_id (by omega) (by omega), List.length_map, hsl]; omega
          rw [dec_t (p := (i : Int) < (k : Int)) (by omega), hmx, hw]
          unfold fin
          rw [dec_f hnn]
          by_cases h30 : ((((sub t i k).map low1).length : Nat) : Int) ≤ 30
          · rw [dec_t h30]
            simp only [cond_true, opt_s, List.getD_cons_zero, tS, fit_t (show o.length + [D.str ((sub t i k).map low1)].length ≤ 68719476736 by simp; omega)]
            rw [ih k (by omega) hkl _ (by simp; omega)]
            simp
          · rw [dec_f h30]
            simp only [cond_true, cond_false]
            rw [ih k (by omega) hkl _ (by omega)]
            simp
        · have hk : k = i := by omega
          subst hk
          have hmx : max k (k + 1) = k + 1 := by omega
          have hkl2 := hne rfl
          rw [dec_f (by omega), hmx, sub_self]
          simp only [cond_false, List.map_nil, fin_nil, List.nil_append]
          rw [ih (k + 1) (by omega) (by omega) o (by omega), drop_cons 0 hkl2]
          have := hst _ _ (drop_cons 0 hkl2)
          simp only [wf, this, fin_nil, cond_false, List.nil_append]
      have inner : ∀ m k : Nat, k + m = t.length → i ≤ k → L51b t i k o = some [.list (o ++ wf ((sub t i k).map low1) (t.drop k))] := by
        intro m
        induction m with
        | zero =>
          intro k hk hik
          have : k = t.length := by omega
          subst this
          rw [out8]
          exact stop _ hik (Nat.le_refl _) (fun h => by omega) (fun c r h => by simp at h)
        | succ m ihm =>
          intro k hk hik
          have hkl : k < t.length := by omega
          rw [in8 t o hkl ht]
          cases hc : isw (t.getD k 0) with
          | true =>
            rw [cond_true, ihm (k + 1) (by omega) (by omega), sub_snoc 0 hik hkl, drop_cons 0 hkl]
            simp only [wf, hc, cond_true, List.map_append, List.map_cons, List.map_nil]
          | false =>
            rw [cond_false]
            refine stop k hik (by omega) (fun _ => hkl) fun c r h => ?_
            rw [drop_cons 0 hkl] at h
            injection h with h1 h2
            rw [← h1]; exact hc
      have := inner (t.length - i) i (by omega) (Nat.le_refl _)
      rw [round51a, dec_t (by omega), cond_true, this, sub_self]; rfl
    · have : i = t.length := by omega
      subst this
      rw [round51a, dec_f (by omega)]; simp [wf, fin_nil]

include ht in
theorem spec : ∀ n i : Nat, i + n = t.length → ∀ (w : List UInt8) (o : List D), w.length ≤ i → o.length ≤ i → L24a t w i o = some [.list (o ++ wf w (t.drop i))] := by
  intro n
  induction n with
  | zero =>
    intro i hi w o hw ho
    have : i = t.length := by omega
    subst this
    have hl : L24a t [] ((t.length + 1 : Nat) : Int) (o ++ fin w) = some [.list (o ++ fin w)] := by rw [round24a, dec_f (by omega)]; rfl
    rw [round24a, dec_t (by omega), dec_f (p := ((t.length : Nat) : Int) < ((t.length : Nat) : Int)) (by omega), nxt (by omega)]
    simp only [emp, List.drop_length, wf]
    rw [show fin w = bif (bif (bif decide (w = []) then false else true) then decide ((w.length : Int) ≤ 30) else false) then [.str w] else [] from rfl] at hl ⊢
    have hf := fit_t (show o.length + [D.str w].length ≤ 68719476736 by simp; omega)
    cases hc : (bif (bif decide (w = []) then false else true) then decide ((w.length : Int) ≤ 30) else false) <;> rw [hc] at hl <;> simp_all [opt_s, D.toBool]
  | succ n ih =>
    intro i hi w o hw ho
    have hil : i < t.length := by omega
    rw [round24a, inb_nat hil, dec_t (by omega), dec_t (p := (i : Int) < ((t.length : Nat) : Int)) (by omega), Int.toNat_natCast, nxt (by omega), cutOk_both (by omega) (by omega), cut_both, sub_one 0 hil, r26 _ (by simp), drop_cons 0 hil]
    simp only [r24, r25, emp, wf]
    have e1 := ih (i + 1) (by omega) (w ++ [low1 (t.getD i 0)]) o (by simp; omega) (by omega)
    have e2 := ih (i + 1) (by omega) [] o (by simp) (by omega)
    have e3 := ih (i + 1) (by omega) [] (o ++ [D.str w]) (by simp) (by simp; omega)
    have hf := fit_t (show o.length + [D.str w].length ≤ 68719476736 by simp; omega)
    have hlm : decide (w.length + ([t.getD i 0].map low1).length ≤ lim) = true := lim_t (by simp; omega)
    unfold isw fin
    generalize ((t.getD i 0).toNat : Int) = x at *
    cases h1 : isL x <;> cases h2 : isD x <;> cases h3 : decide (128 ≤ x) <;> cases h4 : decide (w = []) <;> cases h5 : decide ((w.length : Int) ≤ 30) <;> simp_all [opt_s, D.toBool, D.toStr]
end

theorem words (t : List UInt8) (ht : t.length ≤ 1048576) : RUN E 51 [.str t] = some [.list (wf [] t)] ∧ RUN E 24 [.str t] = some [.list (wf [] t)] := by
  have h1 := prog t ht t.length 0 (by omega) (by omega) [] (by simp)
  have h2 := spec t ht t.length 0 (by omega) [] [] (by simp) (by simp)
  rw [List.drop_zero, List.nil_append] at h1 h2
  exact ⟨by rw [enter51]; exact h1, by rw [enter24]; exact h2⟩
end words
namespace paths
theorem r19 (s : List UInt8) (c : UInt8) : RUN E 98 [.str s, .str [c]] = some [.int (Lib.indexByte s c)] := (RUN_eq _ _ _).trans (by kernel_rfl)
theorem r60 (s : List UInt8) (c : UInt8) : RUN E 97 [.str s, .str [c]] = some [.int (Lib.countByte s c : Int)] := (RUN_eq _ _ _).trans (by kernel_rfl)
theorem r28 (s p : List UInt8) (h : s.length ≤ 4194304) (hp : p.length ≤ 4194304) : RUN E 29 [.str s, .str p] = some [.bool (hasPre s p)] := by
  rw [enter29, enter64, pre_eq (by omega) (by omega)]; rfl
theorem r43 (s p : List UInt8) (h : s.length ≤ 4194304) (hp : p.length ≤ 4194304) : RUN E 62 [.str s, .str p] = some [.bool (hasSuf s p)] := by
  rw [enter62, suf_eq (by omega) (by omega)]
theorem r30 (s p : List UInt8) (h : s.length ≤ 4194304) (hp : p.length ≤ 4194304) : RUN E 27 [.str s, .str p] = some [.bool (hasSuf s p)] := by
  rw [enter27, r43 s p h hp]; rfl
theorem r39 (s : List UInt8) (h : s.length ≤ 1048576) (c : UInt8) : RUN E 35 [.str s, .str [c]] = some [.list ((splitC c s).map .str)] := by
  have hc : s.count c ≤ s.length := List.count_le_length
  have n1 : IntKind.wrap IntKind.i64 ((s.count c : Int) + 1) = ((s.count c + 1 : Nat) : Int) := nxt (by omega)
  have n2 : IntKind.wrap IntKind.i64 ((s.length : Int) + 1) = ((s.length + 1 : Nat) : Int) := nxt (by omega)
  have mm : mmInt false ((s.count c + 1 : Nat) : Int) ((s.length + 1 : Nat) : Int) = ((s.count c + 1 : Nat) : Int) := by
    unfold mmInt; rw [dec_f (p := ((s.length + 1 : Nat) : Int) < ((s.count c + 1 : Nat) : Int)) (by omega)]; rfl
  have n3 : IntKind.wrap IntKind.i64 (((s.count c + 1 : Nat) : Int) - 1) = ((0 + s.count c : Nat) : Int) := by rw [wrap_id (by omega) (by omega)]; omega
  have lp := split_loop (L := fun s n i a => L67b s [c] 0 n i a) (X := fun s => RUN E 98 [.str s, .str [c]]) (c := c) (fun s _ => r19 s c) (fun s n i a => round67b s [c] 0 n i a) s.length s (Nat.le_refl _) (by omega) 0 (List.replicate (s.count c + 1) (.str [])) (by omega) (by simp)
  have e50 : RUN E 67 [.str s, .str [c], .int 0, .int (-1)] = some [.list ((splitC c s).map .str)] := by
    rw [enter67, dec_f (by omega), dec_f (by simp), dec_t (by omega), r60]
    simp only [cond_true, cond_false, opt_s, List.getD_cons_zero, tI, Lib.countByte, n1]
    rw [round67a, n2, mm, n3, dec_t (by omega), dec_t (by omega), dec_t (by rw [lim_val]; omega), Int.toNat_natCast]
    simpa using lp
  rw [enter35, e50]; rfl

/-! ### Parts of paths -/
def ok1 (c : UInt8) : Bool := decide (97 ≤ (c.toNat : Int)) && decide ((c.toNat : Int) ≤ 122) || decide (48 ≤ (c.toNat : Int)) && decide ((c.toNat : Int) ≤ 57) || decide ((c.toNat : Int) = 45) || decide ((c.toNat : Int) = 95) || decide ((c.toNat : Int) = 46)
def part (s : List UInt8) : Bool := !(decide (s = ([] : List UInt8)) || decide (40 < (s.length : Int)) || decide (s = ([46] : List UInt8)) || decide (s = ([46, 46] : List UInt8))) && s.all ok1
theorem r40 (s : List UInt8) (h : s.length ≤ 1048576) : RUN E 100 [.str s] = some [.bool (part s)] := by
  have lp : L100a s 0 = some [.bool (s.all ok1)] := by
    refine all_loopS (L := fun i => L100a s i) (by show L100a s _ = _; rw [round100a, dec_f (by omega)]; rfl) fun i hi => ?_
    show L100a s i = _
    rw [round100a, dec_t (by omega), inb_nat hi, Int.toNat_natCast, nxt (by omega)]
    simp only [enter90]
    unfold ok1
    generalize ((s.getD i 0).toNat : Int) = x
    cases decide (97 ≤ x) <;> cases decide (x ≤ 122) <;> cases decide (48 ≤ x) <;> cases decide (x ≤ 57) <;> cases decide (x = 45) <;> cases decide (x = 95) <;> cases decide (x = 46) <;> rfl
  rw [enter100, lp]
  unfold part
  cases decide (s = ([] : List UInt8)) <;> cases decide (40 < (s.length : Int)) <;> cases decide (s = ([46] : List UInt8)) <;> cases decide (s = ([46, 46] : List UInt8)) <;> cases s.all ok1 <;> rfl
theorem r52 (x : Int) : RUN E 104 [.int x] = some [.bool (decide (97 ≤ x) && decide (x ≤ 122) || decide (48 ≤ x) && decide (x ≤ 57) || decide (x = 95))] := by
  rw [enter104]
  simp only [enter58]
  cases decide (97 ≤ x) <;> cases decide (x ≤ 122) <;> cases decide (48 ≤ x) <;> cases decide (x ≤ 57) <;> cases decide (x = 95) <;> rfl
theorem r42 (s : List UInt8) (h : s.length ≤ 1048576) : RUN E 72 [.str s] = some [.bool (part s)] := by
  have lp : L72a s 0 = some [.bool (s.all ok1)] := by
    refine all_loopS (L := fun i => L72a s i) (by show L72a s _ = _; rw [round72a, dec_f (by omega)]; rfl) fun i hi => ?_
    show L72a s i = _
    rw [round72a, dec_t (by omega), inb_nat hi, Int.toNat_natCast, nxt (by omega)]
    simp only [r52]
    unfold ok1
    generalize ((s.getD i 0).toNat : Int) = x
    cases decide (97 ≤ x) <;> cases decide (x ≤ 122) <;> cases decide (48 ≤ x) <;> cases decide (x ≤ 57) <;> cases decide (x = 45) <;> cases decide (x = 95) <;> cases decide (x = 46) <;> rfl
  have h0 : decide ((s.length : Int) < 1) = decide (s = ([] : List UInt8)) := by
    cases s with
    | nil => rfl
    | cons b r => rw [dec_f (p := (((b :: r).length : Nat) : Int) < 1) (by simp; omega), dec_f (by simp)]
  rw [enter72, lp, h0]
  unfold part
  cases decide (s = ([] : List UInt8)) <;> cases decide (40 < (s.length : Int)) <;> cases decide (s = ([46] : List UInt8)) <;> cases decide (s = ([46, 46] : List UInt8)) <;> cases s.all ok1 <;> rfl
def path (s : List UInt8) : Bool := !decide (200 < (s.length : Int)) && ((splitC 47 s).map D.str).all fun d => part d.toStr
theorem parts_len {s : List UInt8} {i : Nat} : (D.toStr (((splitC 47 s).map D.str).getD i .no)).length ≤ s.length := by
  rw [List.getD_eq_getElem?_getD, List.getElem?_map]
  cases h : (splitC 47 s)[i]? with
  | none => simp [D.toStr]
  | some x => exact (split_len 47 s.length s (Nat.le_refl _)).2 x (List.mem_of_getElem? h)
theorem r27 (s : List UInt8) (h : s.length ≤ 1048576) : RUN E 69 [.str s] = some [.bool (path s)] := by
  rw [enter69]
  unfold path
  by_cases h2 : (200 : Int) < (s.length : Int)
  · rw [dec_t h2]; rfl
  · rw [dec_f h2]
    have e := r39 s h 47
    have hl := (split_len 47 s.length s (Nat.le_refl _)).1
    have hc : s.count 47 ≤ s.length := List.count_le_length
    generalize hxs : (splitC 47 s).map D.str = xs at *
    have hxl : xs.length ≤ 1048577 := by rw [← hxs, List.length_map]; omega
    have lp : L69a xs (xs.length : Int) 0 = some [.bool (xs.all fun d => part d.toStr)] := by
      refine all_loop (L := fun i => L69a xs (xs.length : Int) i) (by show L69a xs _ _ = _; rw [round69a, dec_f (by omega)]; rfl) fun i hi => ?_
      show L69a xs _ i = _
      have hp := @parts_len s i
      rw [hxs] at hp
      rw [round69a, dec_t (by omega), inb_nat hi, Int.toNat_natCast, nxt (by omega), r40 _ (by omega)]
      simp only [cond_true, opt_s, List.getD_cons_zero, tB]
      cases part (D.toStr (xs.getD i .no)) <;> rfl
    show opt (RUN E 35 [.str s, .str [47]]) _ = _
    rw [e]
    exact lp
theorem r29 (s : List UInt8) (h : s.length ≤ 1048576) : RUN E 43 [.str s] = some [.bool (path s)] := by
  rw [enter43]
  unfold path
  by_cases h2 : (200 : Int) < (s.length : Int)
  · rw [dec_t h2]; cases decide ((s.length : Int) < 1) <;> rfl
  · rw [dec_f h2]
    by_cases h1 : (s.length : Int) < 1
    · have : s = [] := List.length_eq_zero_iff.1 (by omega)
      subst this; rfl
    · rw [dec_f h1]
      have e := r39 s h 47
      have hl := (split_len 47 s.length s (Nat.le_refl _)).1
      have hc : s.count 47 ≤ s.length := List.count_le_length
      generalize hxs : (splitC 47 s).map D.str = xs at *
      have hxl : xs.length ≤ 1048577 := by rw [← hxs, List.length_map]; omega
      have lp : L43a xs (xs.length : Int) 0 = some [.bool (xs.all fun d => part d.toStr)] := by
        refine all_loop (L := fun i => L43a xs (xs.length : Int) i) (by show L43a xs _ _ = _; rw [round43a, dec_f (by omega)]; rfl) fun i hi => ?_
        show L43a xs _ i = _
        have hp := @parts_len s i
        rw [hxs] at hp
        rw [round43a, dec_t (by omega), inb_nat hi, Int.toNat_natCast, nxt (by omega), r42 _ (by omega)]
        simp only [cond_true, opt_s, List.getD_cons_zero, tB]
        cases part (D.toStr (xs.getD i .no)) <;> rfl
      show opt (RUN E 35 [.str s, .str [47]]) _ = _
      rw [e]
      exact lp

/-! ### Addresses -/
def idx : List UInt8 := [105, 110, 100, 101, 120, 46, 104, 116, 109, 108]
theorem suf_slash (p x : List UInt8) (b : UInt8) : hasSuf (b :: p) (b :: x) = (decide (p = x) || hasSuf p (b :: x)) := by
  unfold hasSuf
  rw [Bool.eq_iff_iff]
  simp only [Bool.or_eq_true, Bool.and_eq_true, decide_eq_true_eq, List.length_cons]
  by_cases h2 : p.length = x.length
  · rw [h2, Nat.sub_self, List.drop_zero]
    constructor
    · intro h; injection h.2 with _ h; exact .inl h
    · intro h
      rcases h with h | ⟨h, _⟩
      · exact ⟨Nat.le_refl _, by rw [h]⟩
      · omega
  · by_cases h1 : p.length < x.length
    · constructor
      · intro h; omega
      · intro h
        rcases h with h | ⟨h, _⟩
        · exact absurd (congrArg List.length h) h2
        · omega
    · rw [show p.length + 1 - (x.length + 1) = (p.length - (x.length + 1)) + 1 by omega, List.drop_succ_cons]
      constructor
      · intro h; exact .inr ⟨by omega, h.2⟩
      · intro h
        rcases h with h | ⟨_, h⟩
        · exact absurd (congrArg List.length h) h2
        · exact ⟨by omega, h⟩
theorem pathOf (a : List UInt8) (h : a.length ≤ 1048576) : ∃ r : List D, RUN E 87 [.str a] = some r ∧ RUN E 55 [.str a] = some r ∧ (D.toInt (r.getD 1 .no) = 0 ∨ D.toInt (r.getD 1 .no) = 3) := by
  have hid : ([105, 110, 100, 101, 120, 46, 104, 116, 109, 108] : List UInt8) = idx := rfl
  rw [enter87, enter55, hid, r28 a [47] (by omega) (by decide)]
  simp only [emp, opt_s, List.getD_cons_zero, tB]
  cases hp : hasPre a [47] with
  | false => exact ⟨_, rfl, rfl, .inr rfl⟩
  | true =>
    unfold hasPre at hp
    simp only [Bool.and_eq_true, decide_eq_true_eq] at hp
    cases a with
    | nil => simp at hp
    | cons b s =>
      have hb : b = 47 := by simpa using hp.2
      subst hb
      simp only [List.length_cons] at h
      have hcut : cutOk (47 :: s).length (some 1) none = true := cutOk_lo (i := 1) (by simp)
      have hcl : cutL (47 :: s) (some 1) none = s := rfl
      have hlim : decide (s.length + idx.length ≤ lim) = true := lim_t (by show s.length + 10 ≤ _; omega)
      have hsl : (s ++ idx).length ≤ 1048600 := by simp; show s.length + 10 ≤ _; omega
      have hfin : ∀ t : List UInt8, t.length ≤ 1048600 → ∃ v : Bool, RUN E 69 [.str t] = some [.bool v] ∧ RUN E 43 [.str t] = some [.bool v] := by
        intro t ht
        by_cases hb : t.length ≤ 1048576
        · exact ⟨_, r27 t hb, r29 t hb⟩
        · refine ⟨false, ?_, ?_⟩
          · rw [enter69, dec_t (by omega)]; rfl
          · rw [enter43, dec_t (p := (200 : Int) < (t.length : Int)) (by omega)]; cases decide ((t.length : Int) < 1) <;> rfl
      obtain ⟨v1, g1, g2⟩ := hfin (s ++ idx) hsl
      obtain ⟨v2, g3, g4⟩ := hfin s (by omega)
      rw [hcut, hcl, r30 (47 :: s) [47] (by simp; omega) (by decide), r30 s [47] (by omega) (by decide), suf_slash, hlim, g1, g2, g3, g4]
      simp only [opt_s, List.getD_cons_zero, tB, cond_true, cond_false]
      cases hs : decide (s = []) <;> cases hf : hasSuf s [47] <;> cases v1 <;> cases v2 <;> first | exact ⟨_, rfl, rfl, .inl rfl⟩ | exact ⟨_, rfl, rfl, .inr rfl⟩
end paths
end Go.Proofs.YtefclcihphpejaaDoor.rd

namespace Go.Proofs.YtefclcihphpejaaDoor.rd
open Go.Proofs.YtefclcihphpejaaDoor.DS
namespace wr

theorem tI (n : Int) : D.toInt (.int n) = n := rfl
theorem tS (x : List UInt8) : D.toStr (.str x) = x := rfl
theorem tL (x : List D) : D.toList (.list x) = x := rfl
theorem r92 (l : List D) : RUN E 92 [.agg [.no, .list l]] = some [.agg [.no, .list l]] := (RUN_eq _ _ _).trans (by kernel_rfl)
theorem r54 (l : List D) : RUN E 54 [.agg [.no, .list l]] = some [.str (dBytes l)] := (RUN_eq _ _ _).trans (by kernel_rfl)
theorem r53 (x s : List UInt8) (h : x.length + s.length ≤ 68719476736) : RUN E 53 [.agg [.no, .list (bytesD x)], .str s] = some [.int s.length, .no, .agg [.no, .list (bytesD (x ++ s))]] := by
  rw [enter53, r92, opt_s]
  show cond (fitL (bytesD x).length (bytesD s).length) (some [_, _, D.agg [D.no, D.list (bytesD x ++ bytesD s)]]) none = _
  rw [fitL_le (by rw [bytesD_len, bytesD_len]; exact h), ← bytesD_append]; rfl
theorem join_flat (xs : List (List UInt8)) : Lib.join xs [] = xs.flatten := by
  cases xs with
  | nil => rfl
  | cons x r =>
    rw [Lib.join_cons]
    unfold Lib.joinTail
    simp
theorem r26 (xs : List (List UInt8)) (h1 : xs.length ≤ 140737488355328) (h2 : xs.flatten.length ≤ 140737488355328) : RUN E 26 [.list (xs.map .str), .str []] = some [.str xs.flatten] := by
  have e : RUN E 26 [.list (xs.map .str), .str []] = xJoin [.list (xs.map .str), .str []] := (RUN_eq _ _ _).trans (by kernel_rfl)
  rw [e]
  show cond (decide ((xs.map D.str).length ≤ 140737488355328) && decide ((Lib.join ((xs.map D.str).map D.toStr) []).length ≤ 140737488355328)) (some [D.str (Lib.join ((xs.map D.str).map D.toStr) [])]) none = _
  have hm : (xs.map D.str).map D.toStr = xs := by rw [List.map_map]; simp [Function.comp_def, D.toStr]
  rw [hm, join_flat, List.length_map, dec_t h1, dec_t h2]; rfl
theorem r25 (n : Int) : RUN E 25 [.int n] = some [.str (Lib.itoa n)] := (RUN_eq _ _ _).trans (by kernel_rfl)
theorem itoa20 {n : Int} (h0 : 0 ≤ n) (h1 : n ≤ 1048576) : (Lib.itoa n).length ≤ 20 := itoa_len (by omega) (by omega)

theorem any_loop {L : Int → R} {s : List UInt8} {p : UInt8 → Bool} (hend : L (s.length : Nat) = some [.bool false]) (hL : ∀ i : Nat, i < s.length → L i = cond (p (s.getD i 0)) (some [.bool true]) (L ((i + 1 : Nat) : Int))) : L 0 = some [.bool (s.any p)] := by
  have key : ∀ n i : Nat, i + n = s.length → L i = some [.bool ((s.drop i).any p)] := by
    intro n
    induction n with
    | zero =>
      intro i hi
      have : i = s.length := by omega
      subst this
      rw [hend, List.drop_length]; rfl
    | succ n ih =>
      intro i hi
      have hil : i < s.length := by omega
      rw [hL i hil, ih (i + 1) (by omega), drop_cons 0 hil, List.any_cons]
      cases p (s.getD i 0) <;> rfl
  exact key s.length 0 (by omega)
def ctl (s : List UInt8) : Bool := s.any fun c => decide ((c.toNat : Int) < 32)
theorem r88 (s : List UInt8) (h : s.length ≤ 1048576) : RUN E 88 [.str s] = some [.bool (ctl s)] := by
  rw [enter88]
  refine any_loop (L := fun i => L88a s i) (by show L88a s _ = _; rw [round88a, dec_f (by omega)]; rfl) fun i hi => ?_
  show L88a s i = _
  rw [round88a, dec_t (by omega), inb_nat hi, Int.toNat_natCast, nxt (by omega)]; rfl
theorem r56 (s : List UInt8) (h : s.length ≤ 1048576) : RUN E 56 [.str s, .bool false, .bool false] = some [.bool (ctl s)] := by
  rw [enter56]
  refine any_loop (L := fun i => L56a s false false i) (by show L56a s _ _ _ = _; rw [round56a, dec_f (by omega)]; rfl) fun i hi => ?_
  show L56a s false false i = _
  rw [round56a, dec_t (by omega), inb_nat hi, Int.toNat_natCast, nxt (by omega)]
  generalize decide (((s.getD i 0).toNat : Int) < 32) = b
  cases b <;> rfl

def ordc (a b : List UInt8) (i : Int) : Bool := bif decide (0 < i) then bif Op.bytesLess a b then true else (fun (_ : Unit) => decide (a = b)) () else false
theorem ordc_eq (a b : List UInt8) (i : Int) : (bif decide (0 < i) then bif Op.bytesLess a b then true else (fun (_ : Unit) => decide (a = b)) () else false) = ordc a b i := rfl
theorem gprev {i n : Nat} (h : i ≤ n) (hn : n ≤ 4194304) : (bif inb (IntKind.wrap IntKind.i64 ((i : Int) - 1)) n then true else bif bif decide ((0 : Int) < (i : Int)) then true else false then false else true) = true := by
  by_cases h0 : i = 0
  · subst h0
    cases inb (IntKind.wrap IntKind.i64 (((0 : Nat) : Int) - 1)) n <;> rfl
  · rw [wrap_id (by omega) (by omega), show (i : Int) - 1 = ((i - 1 : Nat) : Int) by omega, inb_nat (by omega)]; rfl
theorem g1 (n : Nat) : (bif inb 0 n then true else bif bif bif decide ((n : Int) = 1) then false else true then false else true then false else true) = true := by
  by_cases h : n = 1
  · subst h; rfl
  · rw [dec_f (by omega)]; cases inb 0 n <;> rfl

theorem docs {l : List D} (hl : l.length ≤ 120) (hm : dmass.dmAll l ≤ 1048576) {x1 : D} (hx : D.toList (D.cell x1 0) = l) : ∀ n i : Nat, i + n = l.length → ∃ e : Int, L22a l false l (l.length : Int) i = some [.int e] ∧
    L50a l (l.length : Int) i x1 = cond (decide (e = 0)) (cond (bif decide ((↑(List.length (D.toList (D.cell x1 1))) : Int) = (↑(List.length l) : Int)) then false else true) (some [D.int 1]) (L50b (D.toList (D.cell x1 1)) ((↑(List.length (D.toList (D.cell x1 1))) : Int)) 0)) (some [.int e]) := by
  intro n
  induction n with
  | zero =>
    intro i hi
    have : i = l.length := by omega
    subst this
    exact ⟨0, by rw [round22a, dec_f (by omega)]; rfl, by rw [round50a, dec_f (by omega), hx]; rfl⟩
  | succ n ih =>
    intro i hi
    have hil : i < l.length := by omega
    have hs : ∀ k, (D.toStr (D.cell (l.getD i .no) k)).length ≤ 1048576 := fun k => Nat.le_trans (cellS_le _ _) (Nat.le_trans (mass_getD l i) hm)
    obtain ⟨r, p1, p2, p3⟩ := paths.pathOf _ (hs 0)
    obtain ⟨e', q1, q2⟩ := ih (i + 1) (by omega)
    rw [round22a, round50a, dec_t (p := (i : Int) < (l.length : Int)) (by omega), inb_nat hil, Int.toNat_natCast, nxt (by omega), p1, p2, hx, gprev (by omega) (by omega), ordc_eq, r88 _ (hs 1), r56 _ (hs 1)]
    simp only [opt_s, cond_true, cond_false, List.getD_cons_zero, tB]
    by_cases hz : D.toInt (r.getD 1 .no) = 0
    · rw [dec_t hz]
      simp only [cond_true, cond_false]
      generalize ordc _ _ _ = c
      cases c with
      | true => exact ⟨5, rfl, rfl⟩
      | false =>
        simp only [cond_false]
        generalize ctl _ = c
        cases c with
        | true => exact ⟨9, rfl, rfl⟩
        | false =>
          simp only [cond_false]
          generalize decide (D.toStr (D.cell (l.getD i .no) 2) = []) = c
          cases c with
          | false => exact ⟨1, rfl, rfl⟩
          | true => exact ⟨e', q1, q2⟩
    · rw [p3.resolve_left hz]
      exact ⟨3, rfl, rfl⟩

def rng (v : Int) : Prop := 0 ≤ v ∧ v ≤ 200000
theorem sizes {S : List D} (hS : S.length ≤ 120) {x1 : D} : ∀ n i : Nat, i + n = S.length → (∀ k, k < i → rng (D.toInt (S.getD k .no))) → (L50b S (S.length : Int) i = some [.int 2] ∧ L8a S (S.length : Int) i x1 = some [.int 2]) ∨
    (L50b S (S.length : Int) i = some [.int 0] ∧ L8a S (S.length : Int) i x1 = L8b (D.toList (D.cell x1 2)) ((↑(List.length (D.toList (D.cell x1 2))) : Int)) 0 x1 ∧ ∀ k, k < S.length → rng (D.toInt (S.getD k .no))) := by
  intro n
  induction n with
  | zero =>
    intro i hi h
    have : i = S.length := by omega
    subst this
    exact .inr ⟨by rw [round50b, dec_f (by omega)]; rfl, by rw [round8a, dec_f (by omega)]; rfl, h⟩
  | succ n ih =>
    intro i hi h
    have hil : i < S.length := by omega
    rw [round50b, round8a, dec_t (p := (i : Int) < (S.length : Int)) (by omega), inb_nat hil, Int.toNat_natCast, nxt (by omega), enter23]
    simp only [opt_s, cond_true, List.getD_cons_zero, tB]
    by_cases hr : rng (D.toInt (S.getD i .no))
    · have hr' := hr
      obtain ⟨h0, h1⟩ := hr'
      rw [dec_f (p := D.toInt (S.getD i .no) < 0) (by omega), dec_f (p := 200000 < D.toInt (S.getD i .no)) (by omega), dec_t (p := 0 ≤ D.toInt (S.getD i .no)) h0, dec_t (p := D.toInt (S.getD i .no) ≤ 200000) h1]
      simp only [cond_true, cond_false]
      refine ih (i + 1) (by omega) fun k hk => ?_
      by_cases e : k = i
      · subst e; exact hr
      · exact h k (by omega)
    · left
      unfold rng at hr
      by_cases h0 : D.toInt (S.getD i .no) < 0
      · rw [dec_t h0, dec_f (p := 0 ≤ D.toInt (S.getD i .no)) (by omega)]; exact ⟨rfl, rfl⟩
      · rw [dec_f h0, dec_t (p := 200000 < D.toInt (S.getD i .no)) (by omega), dec_t (p := 0 ≤ D.toInt (S.getD i .no)) (by omega), dec_f (p := D.toInt (S.getD i .no) ≤ 200000) (by omega)]; exact ⟨rfl, rfl⟩

/-- What a term's entry says of documents. -/
def okE (n0 : Nat) (d m : Int) : Prop := 0 ≤ d ∧ d < n0 ∧ 1 ≤ m ∧ m ≤ 600000
theorem term {x1 t : D} {T : List D} {M v : Int} {ds ms : List D} (hd : D.toList (D.cell t 1) = ds) (hm : D.toList (D.cell t 2) = ms) (hlen : ms.length = ds.length) (hb : ds.length ≤ 1048576) {n0 : Nat} (hn0 : (D.toList (D.cell x1 0)).length = n0) :
    ∀ n i : Nat, i + n = ds.length → (∀ k, k < i → okE n0 (D.toInt (ds.getD k .no)) (D.toInt (ms.getD k .no))) →
    (∃ e : Int, e ≠ 0 ∧ L52a (n0 : Int) ds (ds.length : Int) i t = some [.int e] ∧ L8c T M v ds (ds.length : Int) i x1 t = some [.int e]) ∨
    (L52a (n0 : Int) ds (ds.length : Int) i t = some [.int 0] ∧ L8c T M v ds (ds.length : Int) i x1 t = L8b T M (IntKind.wrap IntKind.i64 (v + 1)) x1 ∧ ∀ k, k < ds.length → okE n0 (D.toInt (ds.getD k .no)) (D.toInt (ms.getD k .no))) := by
  intro n
  induction n with
  | zero =>
    intro i hi h
    have : i = ds.length := by omega
    subst this
    exact .inr ⟨by rw [round52a, dec_f (by omega)]; rfl, by rw [round8c, dec_f (by omega)]; rfl, h⟩
  | succ n ih =>
    intro i hi h
    have hil : i < ds.length := by omega
    have ih' := ih (i + 1) (by omega)
    rw [round52a, round8c, dec_t (p := (i : Int) < (ds.length : Int)) (by omega), inb_nat hil, Int.toNat_natCast, nxt (by omega), hd, hm, hn0, gprev (by omega) (by omega), inb_nat (by omega : i < ms.length)]
    simp only [cond_true, cond_false]
    generalize hc1 : (bif decide (D.toInt (ds.getD i .no) < 0) then true else decide ((n0 : Int) ≤ D.toInt (ds.getD i .no))) = c1
    generalize hc2 : (bif decide ((0 : Int) < (i : Int)) then decide (D.toInt (ds.getD i .no) ≤ D.toInt (ds.getD (Int.toNat (IntKind.wrap IntKind.i64 ((i : Int) - 1))) .no)) else false) = c2
    generalize hc3 : (bif decide (D.toInt (ms.getD i .no) < 1) then true else decide (600000 < D.toInt (ms.getD i .no))) = c3
    cases c1 with
    | true => exact .inl ⟨2, by decide, rfl, rfl⟩
    | false =>
      simp only [cond_false]
      cases c2 with
      | true => exact .inl ⟨5, by decide, rfl, rfl⟩
      | false =>
        simp only [cond_false]
        cases c3 with
        | true => exact .inl ⟨2, by decide, rfl, rfl⟩
        | false =>
          simp only [cond_false]
          refine ih' fun k hk => ?_
          by_cases e : k = i
          · subst e
            have a1 : ¬ D.toInt (ds.getD k .no) < 0 := fun hh => by rw [dec_t hh] at hc1; cases hc1
            have a2 : ¬ (n0 : Int) ≤ D.toInt (ds.getD k .no) := fun hh => by rw [dec_f a1, dec_t hh] at hc1; cases hc1
            have a3 : ¬ D.toInt (ms.getD k .no) < 1 := fun hh => by rw [dec_t hh] at hc3; cases hc3
            have a4 : ¬ 600000 < D.toInt (ms.getD k .no) := fun hh => by rw [dec_f a3, dec_t hh] at hc3; cases hc3
            exact ⟨by omega, by omega, by omega, by omega⟩
          · exact h k (by omega)

def okT (n0 : Nat) (t : D) : Prop := (D.toList (D.cell t 2)).length = (D.toList (D.cell t 1)).length ∧ ∀ k, k < (D.toList (D.cell t 1)).length → okE n0 (D.toInt ((D.toList (D.cell t 1)).getD k .no)) (D.toInt ((D.toList (D.cell t 2)).getD k .no))
def c2 (n : Int) (a b : List UInt8) : Bool := bif bif decide (n = 1) then false else true then true else bif decide (a = b) then false else true
theorem c2_eq (n : Int) (a b : List UInt8) : (bif bif decide (n = 1) then false else true then true else bif decide (a = b) then false else true) = c2 n a b := rfl

theorem terms {x1 : D} {T : List D} (hT : D.toList (D.cell x1 2) = T) (hTl : T.length ≤ 1048576) (hTm : dmass.dmAll T ≤ 1048576) (hlen : ∀ k, k < T.length → (D.toList (D.cell (T.getD k .no) 1)).length ≤ dmass (T.getD k .no)) {n0 : Nat} (hn0 : (D.toList (D.cell x1 0)).length = n0)
    (hfin : (∀ k, k < T.length → okT n0 (T.getD k .no)) → ∃ s, RUN E 21 [x1] = some [.str s] ∧ RUN E 9 [x1] = some [.str s]) :
    ∀ n i : Nat, i + n = T.length → (∀ k, k < i → okT n0 (T.getD k .no)) → ∃ e : Int, L20a T (T.length : Int) i x1 = some [.int e] ∧ L8b T (T.length : Int) i x1 = some [.int e] ∧ (e = 0 → ∀ k, k < T.length → okT n0 (T.getD k .no)) := by
  intro n
  induction n with
  | zero =>
    intro i hi h
    have : i = T.length := by omega
    subst this
    obtain ⟨s, s1, s2⟩ := hfin h
    rw [round20a, round8b, dec_f (p := (T.length : Int) < (T.length : Int)) (by omega), s1, s2]
    simp only [opt_s, cond_false, List.getD_cons_zero, tS]
    cases decide ((400000 : Int) < (s.length : Int)) with
    | true => exact ⟨4, rfl, rfl, fun e => absurd e (by decide)⟩
    | false => exact ⟨0, rfl, rfl, fun _ => h⟩
  | succ n ih =>
    intro i hi h
    have hil : i < T.length := by omega
    have hmt : dmass (T.getD i .no) ≤ 1048576 := Nat.le_trans (mass_getD T i) hTm
    obtain ⟨w1, w2⟩ := words.words (D.toStr (D.cell (T.getD i .no) 0)) (Nat.le_trans (cellS_le _ _) hmt)
    have ih' := ih (i + 1) (by omega)
    rw [round20a, round8b, dec_t (p := (i : Int) < (T.length : Int)) (by omega), inb_nat hil, Int.toNat_natCast, nxt (by omega), w1, w2, hT, gprev (by omega) (by omega), ordc_eq]
    simp only [opt_s, cond_true, List.getD_cons_zero, tL]
    rw [g1, c2_eq]
    simp only [cond_true]
    generalize c2 _ _ _ = b
    cases b with
    | true => exact ⟨1, rfl, rfl, fun e => absurd e (by decide)⟩
    | false =>
      simp only [cond_false]
      generalize ordc _ _ _ = b
      cases b with
      | true => exact ⟨5, rfl, rfl, fun e => absurd e (by decide)⟩
      | false =>
        simp only [cond_false]
        rw [enter52, hn0]
        have hdl := hlen i hil
        have hI := fun hq => term (x1 := x1) (t := T.getD i .no) (T := T) (M := (T.length : Int)) (v := (i : Int)) rfl rfl hq (by omega) hn0 _ 0 (Nat.zero_add _) (fun k hk => absurd hk (Nat.not_lt_zero _))
        by_cases hz : (D.toList (D.cell (T.getD i .no) 1)).length = 0
        · rw [dec_t (p := ((D.toList (D.cell (T.getD i .no) 1)).length : Int) = 0) (by omega)]
          exact ⟨1, rfl, rfl, fun e => absurd e (by decide)⟩
        · rw [dec_f (p := ((D.toList (D.cell (T.getD i .no) 1)).length : Int) = 0) (by omega)]
          by_cases hq : (D.toList (D.cell (T.getD i .no) 2)).length = (D.toList (D.cell (T.getD i .no) 1)).length
          · rw [dec_t (p := ((D.toList (D.cell (T.getD i .no) 1)).length : Int) = ((D.toList (D.cell (T.getD i .no) 2)).length : Int)) (by omega), dec_t (p := ((D.toList (D.cell (T.getD i .no) 2)).length : Int) = ((D.toList (D.cell (T.getD i .no) 1)).length : Int)) (by omega)]
            simp only [cond_true, cond_false]
            rcases hI hq with ⟨e, he, a1, a2⟩ | ⟨a1, a2, a3⟩
            · have a1' : L52a (n0 : Int) (D.toList (D.cell (T.getD i .no) 1)) ((D.toList (D.cell (T.getD i .no) 1)).length : Int) 0 (T.getD i .no) = some [.int e] := a1
              have a2' : L8c T (T.length : Int) (i : Int) (D.toList (D.cell (T.getD i .no) 1)) ((D.toList (D.cell (T.getD i .no) 1)).length : Int) 0 x1 (T.getD i .no) = some [.int e] := a2
              rw [a1', a2']
              simp only [opt_s, List.getD_cons_zero, tI, dec_f he]
              exact ⟨e, rfl, rfl, fun e' => absurd e' he⟩
            · have a1' : L52a (n0 : Int) (D.toList (D.cell (T.getD i .no) 1)) ((D.toList (D.cell (T.getD i .no) 1)).length : Int) 0 (T.getD i .no) = some [.int 0] := a1
              have a2' : L8c T (T.length : Int) (i : Int) (D.toList (D.cell (T.getD i .no) 1)) ((D.toList (D.cell (T.getD i .no) 1)).length : Int) 0 x1 (T.getD i .no) = _ := a2
              rw [a1', a2', nxt (by omega)]
              simp only [opt_s, List.getD_cons_zero, tI]
              refine ih' fun k hk => ?_
              by_cases e : k = i
              · subst e; exact ⟨hq, a3⟩
              · exact h k (by omega)
          · rw [dec_f (p := ((D.toList (D.cell (T.getD i .no) 1)).length : Int) = ((D.toList (D.cell (T.getD i .no) 2)).length : Int)) (by omega), dec_f (p := ((D.toList (D.cell (T.getD i .no) 2)).length : Int) = ((D.toList (D.cell (T.getD i .no) 1)).length : Int)) (by omega)]
            exact ⟨1, rfl, rfl, fun e => absurd e (by decide)⟩
end wr
end Go.Proofs.YtefclcihphpejaaDoor.rd

namespace Go.Proofs.YtefclcihphpejaaDoor.rd
open Go.Proofs.YtefclcihphpejaaDoor.DS
namespace wr

def ph (ps : List (List UInt8)) : Nat := ps.length + ps.flatten.length
theorem ph_add (ps : List (List UInt8)) (p : List UInt8) : ph (ps ++ [p]) = ph ps + 1 + p.length := by
  unfold ph; simp; omega
theorem map_add (ps : List (List UInt8)) (p : List UInt8) : ps.map D.str ++ [.str p] = (ps ++ [p]).map .str := by simp
theorem flat_add (ps : List (List UInt8)) (p : List UInt8) : ps.flatten ++ p = (ps ++ [p]).flatten := by simp

def docP (a n t : List UInt8) : List UInt8 := [100, 111, 99, 32] ++ a ++ [32] ++ n ++ [32] ++ t ++ [10]
theorem docs_text {x1 : D} {l S : List D} (h1 : D.toList (D.cell x1 1) = S) (hSl : S.length = l.length) (hl : l.length ≤ 120) (hm : dmass.dmAll l ≤ 1048576) (hS : ∀ k, k < S.length → rng (D.toInt (S.getD k .no))) :
    ∀ (n i : Nat) (ps : List (List UInt8)), i + n = l.length → ph ps ≤ i * 2097200 → ∃ ps', ph ps' ≤ l.length * 2097200 ∧ L9a l (l.length : Int) i (ps.map .str) x1 = L9b (D.toList (D.cell x1 2)) ((↑(List.length (D.toList (D.cell x1 2))) : Int)) 0 (ps'.map .str) ∧
      L21a l (l.length : Int) i x1 (bytesD ps.flatten) = L21b (D.toList (D.cell x1 2)) ((↑(List.length (D.toList (D.cell x1 2))) : Int)) 0 (bytesD ps'.flatten) := by
  intro n
  induction n with
  | zero =>
    intro i ps hi hp
    have : i = l.length := by omega
    subst this
    exact ⟨ps, hp, by rw [round9a, dec_f (by omega)]; rfl, by rw [round21a, dec_f (by omega)]; rfl⟩
  | succ n ih =>
    intro i ps hi hp
    have hil : i < l.length := by omega
    have hs : ∀ k, (D.toStr (D.cell (l.getD i .no) k)).length ≤ 1048576 := fun k => Nat.le_trans (cellS_le _ _) (Nat.le_trans (mass_getD l i) hm)
    have hs0 := hs 0
    have hs1 := hs 1
    obtain ⟨r0, r1⟩ := hS i (by omega)
    have hit := itoa20 r0 (by omega)
    rw [round9a, round21a, dec_t (p := (i : Int) < (l.length : Int)) (by omega), inb_nat hil, Int.toNat_natCast, nxt (by omega), h1, inb_nat (by omega : i < S.length), r25]
    simp only [opt_s, cond_true, List.getD_cons_zero, tS]
    generalize D.toStr (D.cell (l.getD i .no) 0) = a at *
    generalize D.toStr (D.cell (l.getD i .no) 1) = t at *
    generalize Lib.itoa (D.toInt (S.getD i .no)) = m at *
    have hph : ph ps ≤ 251664000 := Nat.le_trans hp (Nat.le_trans (Nat.mul_le_mul_right _ (by omega : i ≤ 120)) (by decide))
    have hpl : ps.length + ps.flatten.length ≤ 251664000 := hph
    have hlen : (docP a m t).length ≤ 2097180 := by unfold docP; simp only [List.length_append, List.length_cons, List.length_nil]; omega
    have hpn : ph (ps ++ [docP a m t]) ≤ (i + 1) * 2097200 := by rw [ph_add, Nat.add_mul]; omega
    obtain ⟨ps', g1, g2, g3⟩ := ih (i + 1) (ps ++ [docP a m t]) (by omega) hpn
    refine ⟨ps', g1, ?_, ?_⟩
    · rw [lim_t (by simp only [List.length_append, List.length_cons, List.length_nil]; omega), lim_t (by simp only [List.length_append, List.length_cons, List.length_nil]; omega), lim_t (by simp only [List.length_append, List.length_cons, List.length_nil]; omega), lim_t (by simp only [List.length_append, List.length_cons, List.length_nil]; omega), lim_t (by simp only [List.length_append, List.length_cons, List.length_nil]; omega), lim_t (by simp only [List.length_append, List.length_cons, List.length_nil]; omega),
        fitL_le (by rw [lim_val, List.length_map]; simp only [List.length_cons, List.length_nil]; omega)]
      simp only [cond_true]
      rw [show ([100, 111, 99, 32] ++ a ++ [32] ++ m ++ [32] ++ t ++ [10] : List UInt8) = docP a m t from rfl, map_add]
      exact g2
    · rw [lim_t (by simp only [List.length_append, List.length_cons, List.length_nil]; omega), lim_t (by simp only [List.length_append, List.length_cons, List.length_nil]; omega), lim_t (by simp only [List.length_append, List.length_cons, List.length_nil]; omega), lim_t (by simp only [List.length_append, List.length_cons, List.length_nil]; omega), lim_t (by simp only [List.length_append, List.length_cons, List.length_nil]; omega), lim_t (by simp only [List.length_append, List.length_cons, List.length_nil]; omega)]
      simp only [cond_true]
      rw [show ([100, 111, 99, 32] ++ a ++ [32] ++ m ++ [32] ++ t ++ [10] : List UInt8) = docP a m t from rfl, r53 _ _ (by omega), flat_add]
      exact g3

def entP (d m : List UInt8) : List UInt8 := [32] ++ d ++ [58] ++ m
theorem ents_text {t : D} {T : List D} {M v : Int} {ds ms : List D} (hm : D.toList (D.cell t 2) = ms) (hlen : ms.length = ds.length) (hb : ds.length ≤ 1048576) {n0 : Nat} (hn : n0 ≤ 1048576) (hE : ∀ k, k < ds.length → okE n0 (D.toInt (ds.getD k .no)) (D.toInt (ms.getD k .no))) {B : Nat} (hB : B ≤ 4294967296) :
    ∀ (n i : Nat) (ps : List (List UInt8)), i + n = ds.length → ph ps + 50 * n ≤ B → ∃ ps', ph ps' ≤ B + 2 ∧ L9c T M v ds (ds.length : Int) i (ps.map .str) t = L9b T M (IntKind.wrap IntKind.i64 (v + 1)) (ps'.map .str) ∧
      L21c T M v ds (ds.length : Int) i t (bytesD ps.flatten) = L21b T M (IntKind.wrap IntKind.i64 (v + 1)) (bytesD ps'.flatten) := by
  intro n
  induction n with
  | zero =>
    intro i ps hi hp
    have : i = ds.length := by omega
    subst this
    have hpl : ps.length + ps.flatten.length ≤ B := by unfold ph at hp; omega
    refine ⟨ps ++ [[10]], by rw [ph_add]; simp; omega, ?_, ?_⟩
    · rw [round9c, dec_f (by omega), cond_false, fitL_le (by rw [lim_val, List.length_map]; simp only [List.length_cons, List.length_nil]; omega), cond_true, map_add]
    · rw [round21c, dec_f (by omega), cond_false, r53 _ _ (by simp only [List.length_cons, List.length_nil]; omega), opt_s, flat_add]; rfl
  | succ n ih =>
    intro i ps hi hp
    have hil : i < ds.length := by omega
    obtain ⟨e1, e2, e3, e4⟩ := hE i hil
    have hi1 := itoa20 e1 (by omega)
    have hi2 := itoa20 (by omega : 0 ≤ D.toInt (ms.getD i .no)) (by omega)
    rw [round9c, round21c, dec_t (p := (i : Int) < (ds.length : Int)) (by omega), inb_nat hil, Int.toNat_natCast, nxt (by omega), hm, inb_nat (by omega : i < ms.length), r25, r25]
    simp only [opt_s, cond_true, List.getD_cons_zero, tS]
    generalize Lib.itoa (D.toInt (ds.getD i .no)) = a at *
    generalize Lib.itoa (D.toInt (ms.getD i .no)) = m at *
    have hpl : ps.length + ps.flatten.length ≤ B := by unfold ph at hp; omega
    have hlenP : (entP a m).length ≤ 42 := by unfold entP; simp only [List.length_append, List.length_cons, List.length_nil]; omega
    obtain ⟨ps', g1, g2, g3⟩ := ih (i + 1) (ps ++ [entP a m]) (by omega) (by rw [ph_add]; omega)
    refine ⟨ps', g1, ?_, ?_⟩
    · rw [lim_t (by simp only [List.length_append, List.length_cons, List.length_nil]; omega), lim_t (by simp only [List.length_append, List.length_cons, List.length_nil]; omega), lim_t (by simp only [List.length_append, List.length_cons, List.length_nil]; omega),
        fitL_le (by rw [lim_val, List.length_map]; simp only [List.length_cons, List.length_nil]; omega)]
      simp only [cond_true]
      rw [show ([32] ++ a ++ [58] ++ m : List UInt8) = entP a m from rfl, map_add]
      exact g2
    · rw [lim_t (by simp only [List.length_append, List.length_cons, List.length_nil]; omega), lim_t (by simp only [List.length_append, List.length_cons, List.length_nil]; omega), lim_t (by simp only [List.length_append, List.length_cons, List.length_nil]; omega)]
      simp only [cond_true]
      rw [show ([32] ++ a ++ [58] ++ m : List UInt8) = entP a m from rfl, r53 _ _ (by omega), flat_add]
      exact g3

theorem terms_text {T : List D} (hTl : T.length ≤ 1048576) (hTm : dmass.dmAll T ≤ 1048576) (hlen : ∀ k, k < T.length → (D.toList (D.cell (T.getD k .no) 1)).length ≤ dmass (T.getD k .no)) {n0 : Nat} (hn : n0 ≤ 1048576) (hT : ∀ k, k < T.length → okT n0 (T.getD k .no)) {B : Nat} (hB : B ≤ 4294967296) :
    ∀ (n i : Nat) (ps : List (List UInt8)), i + n = T.length → ph ps + 60 * (dmass.dmAll (T.drop i) + n) ≤ B → ∃ s, L9b T (T.length : Int) i (ps.map .str) = some [.str s] ∧ L21b T (T.length : Int) i (bytesD ps.flatten) = some [.str s] := by
  intro n
  induction n with
  | zero =>
    intro i ps hi hp
    have : i = T.length := by omega
    subst this
    have hpl : ps.length + ps.flatten.length ≤ B := by unfold ph at hp; omega
    refine ⟨ps.flatten, ?_, ?_⟩
    · rw [round9b, dec_f (by omega), cond_false, r26 _ (by omega) (by omega)]; rfl
    · rw [round21b, dec_f (by omega), cond_false, r54, dBytes_bytesD]; rfl
  | succ n ih =>
    intro i ps hi hp
    have hil : i < T.length := by omega
    rw [drop_cons .no hil] at hp
    have hp' : ph ps + 60 * (dmass (T.getD i .no) + dmass.dmAll (T.drop (i + 1)) + (n + 1)) ≤ B := hp
    have hpl : ps.length + ps.flatten.length ≤ B := by unfold ph at hp'; omega
    have hw := cellS_le (T.getD i .no) 0
    have hmt : dmass (T.getD i .no) ≤ 1048576 := Nat.le_trans (mass_getD T i) hTm
    have hdl := hlen i hil
    obtain ⟨o1, o2⟩ := hT i hil
    rw [round9b, round21b, dec_t (p := (i : Int) < (T.length : Int)) (by omega), inb_nat hil, Int.toNat_natCast]
    simp only [cond_true]
    generalize D.toStr (D.cell (T.getD i .no) 0) = a at *
    have hpl2 : ([116, 101, 114, 109, 32] ++ a : List UInt8).length = a.length + 5 := by simp
    obtain ⟨ps', g1, g2, g3⟩ := ents_text (t := T.getD i .no) (T := T) (M := (T.length : Int)) (v := (i : Int)) rfl o1 (by omega) hn o2 (B := ph ps + 6 + a.length + 50 * (D.toList (D.cell (T.getD i .no) 1)).length) (by omega) _ 0 (ps ++ [[116, 101, 114, 109, 32] ++ a]) (Nat.zero_add _) (by rw [ph_add, hpl2]; omega)
    obtain ⟨s, s1, s2⟩ := ih (i + 1) ps' (by omega) (by omega)
    have g2' : L9c T (T.length : Int) (i : Int) (D.toList (D.cell (T.getD i .no) 1)) ((D.toList (D.cell (T.getD i .no) 1)).length : Int) 0 ((ps ++ [[116, 101, 114, 109, 32] ++ a]).map .str) (T.getD i .no) = _ := g2
    have g3' : L21c T (T.length : Int) (i : Int) (D.toList (D.cell (T.getD i .no) 1)) ((D.toList (D.cell (T.getD i .no) 1)).length : Int) 0 (T.getD i .no) (bytesD (ps ++ [[116, 101, 114, 109, 32] ++ a]).flatten) = _ := g3
    rw [nxt (by omega)] at g2' g3'
    refine ⟨s, ?_, ?_⟩
    · rw [lim_t (by simp only [List.length_cons, List.length_nil]; omega), fitL_le (by rw [lim_val, List.length_map]; simp only [List.length_cons, List.length_nil]; omega)]
      simp only [cond_true]
      rw [map_add, g2', s1]
    · rw [lim_t (by simp only [List.length_cons, List.length_nil]; omega), cond_true, r53 _ _ (by rw [hpl2]; omega), opt_s, flat_add]
      show L21c T (T.length : Int) (i : Int) (D.toList (D.cell (T.getD i .no) 1)) ((D.toList (D.cell (T.getD i .no) 1)).length : Int) 0 (T.getD i .no) (bytesD (ps ++ [[116, 101, 114, 109, 32] ++ a]).flatten) = _
      rw [g3', s2]

theorem text {x1 : D} {l S T : List D} (h0 : D.toList (D.cell x1 0) = l) (h1 : D.toList (D.cell x1 1) = S) (h2 : D.toList (D.cell x1 2) = T) (hSl : S.length = l.length) (hl : l.length ≤ 120) (hm : dmass.dmAll l ≤ 1048576) (hS : ∀ k, k < S.length → rng (D.toInt (S.getD k .no)))
    (hTl : T.length ≤ 1048576) (hTm : dmass.dmAll T ≤ 1048576) (hlen : ∀ k, k < T.length → (D.toList (D.cell (T.getD k .no) 1)).length ≤ dmass (T.getD k .no)) (hT : ∀ k, k < T.length → okT l.length (T.getD k .no)) :
    ∃ s, RUN E 21 [x1] = some [.str s] ∧ RUN E 9 [x1] = some [.str s] := by
  obtain ⟨ps, p1, p2, p3⟩ := docs_text h1 hSl hl hm hS _ 0 [] (Nat.zero_add _) (Nat.zero_le _)
  have hps : ph ps ≤ 251664000 := Nat.le_trans p1 (Nat.le_trans (Nat.mul_le_mul_right _ hl) (by decide))
  obtain ⟨s, s1, s2⟩ := terms_text hTl hTm hlen (by omega : l.length ≤ 1048576) hT (B := 4294967296) (by omega) _ 0 ps (Nat.zero_add _) (by rw [List.drop_zero]; omega)
  refine ⟨s, ?_, ?_⟩
  · rw [enter21, h0]
    have e : L21a l (l.length : Int) 0 x1 [] = _ := p3
    rw [e, h2]; exact s2
  · rw [enter9, h0]
    have e : L9a l (l.length : Int) 0 [] x1 = _ := p2
    rw [e, h2]; exact s1

theorem index {x1 : D} {l S T : List D} (h0 : D.toList (D.cell x1 0) = l) (h1 : D.toList (D.cell x1 1) = S) (h2 : D.toList (D.cell x1 2) = T) (hm : dmass.dmAll l ≤ 1048576)
    (hTl : T.length ≤ 1048576) (hTm : dmass.dmAll T ≤ 1048576) (hlen : ∀ k, k < T.length → (D.toList (D.cell (T.getD k .no) 1)).length ≤ dmass (T.getD k .no)) :
    (∃ e : Int, e ≠ 0 ∧ RUN E 20 [x1] = some [.int e] ∧ RUN E 8 [x1] = some [.int e]) ∨ (RUN E 20 [x1] = some [.int 0] ∧ RUN E 8 [x1] = some [.int 0] ∧ ∃ s, RUN E 21 [x1] = some [.str s] ∧ RUN E 9 [x1] = some [.str s]) := by
  rw [enter20, enter50, enter8, enter22, h0, h1, h2]
  by_cases hl : 120 < (l.length : Int)
  · rw [dec_t hl]; exact .inl ⟨4, by decide, rfl, rfl⟩
  · rw [dec_f hl]
    simp only [cond_false]
    obtain ⟨e, a1, a2⟩ := docs (by omega) hm h0 _ 0 (Nat.zero_add _)
    have a1' : L22a l false l (l.length : Int) 0 = _ := a1
    have a2' : L50a l (l.length : Int) 0 x1 = _ := a2
    rw [a1', a2', h1]
    by_cases he : e = 0
    · subst he
      rw [dec_t rfl]
      simp only [opt_s, List.getD_cons_zero, tI, cond_true, cond_false]
      by_cases hq : S.length = l.length
      · rw [dec_t (p := (S.length : Int) = (l.length : Int)) (by omega)]
        simp only [cond_true, cond_false]
        rcases sizes (S := S) (by omega) (x1 := x1) _ 0 (Nat.zero_add _) (fun k hk => absurd hk (Nat.not_lt_zero _)) with ⟨b1, b2⟩ | ⟨b1, b2, b3⟩
        · have b1' : L50b S (S.length : Int) 0 = _ := b1
          have b2' : L8a S (S.length : Int) 0 x1 = _ := b2
          rw [b1', b2']; exact .inl ⟨2, by decide, rfl, rfl⟩
        · have b1' : L50b S (S.length : Int) 0 = _ := b1
          have b2' : L8a S (S.length : Int) 0 x1 = _ := b2
          rw [b1', b2', h2]
          simp only [opt_s, List.getD_cons_zero, tI]
          simp only [decide_true]
          simp only [cond_true, cond_false]
          have hfin : (∀ k, k < T.length → okT l.length (T.getD k .no)) → _ := fun hT => text h0 h1 h2 hq (by omega) hm b3 hTl hTm hlen hT
          obtain ⟨e, t1, t2, t3⟩ := terms h2 hTl hTm hlen (congrArg List.length h0) hfin _ 0 (Nat.zero_add _) (fun k hk => absurd hk (Nat.not_lt_zero _))
          have t1' : L20a T (T.length : Int) 0 x1 = _ := t1
          have t2' : L8b T (T.length : Int) 0 x1 = _ := t2
          rw [t1', t2']
          by_cases he : e = 0
          · subst he; exact .inr ⟨rfl, rfl, hfin (t3 rfl)⟩
          · exact .inl ⟨e, he, rfl, rfl⟩
      · rw [dec_f (p := (S.length : Int) = (l.length : Int)) (by omega)]; exact .inl ⟨1, by decide, rfl, rfl⟩
    · rw [dec_f he]
      simp only [opt_s, List.getD_cons_zero, tI, cond_false]
      rw [dec_f he]
      exact .inl ⟨e, he, rfl, rfl⟩

end wr
end Go.Proofs.YtefclcihphpejaaDoor.rd
