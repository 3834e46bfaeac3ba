import Derived.Test.YtbinmfenhbpdnaaDxWordsB
import Derived.Test.YtbinmfenhbpdnaaDtQ
set_option linter.unusedVariables false
set_option linter.unusedSimpArgs false
namespace Go.Proofs.Ytbinmfenhbpdnaa.sw
open Go.Proofs.Ytbinmfenhbpdnaa.DS
namespace words

def isL (x : Int) : Bool := bif bif decide (97 ≤ x) then decide (x ≤ 122) else false then true else bif decide (65 ≤ x) then decide (x ≤ 90) else false
def isD (x : Int) : Bool := bif decide (48 ≤ x) then decide (x ≤ 57) else false
def isw (c : UInt8) : Bool := bif bif isL (c.toNat : Int) then true else isD (c.toNat : Int) then true else decide (128 ≤ (c.toNat : Int))
theorem r21 (x : Int) : RUN E 21 [.int x] = some [.bool (isL x)] := enter21 x
theorem r22 (x : Int) : RUN E 22 [.int x] = some [.bool (isD x)] := enter22 x
theorem r24 (x : Int) : RUN E 24 [.int x] = some [.bool (isL x)] := enter24 x
theorem r25 (x : Int) : RUN E 25 [.int x] = some [.bool (isD x)] := enter25 x
theorem r23 (s : List UInt8) (h : s.length ≤ 1048576) : RUN E 23 [.str s] = some [.str (s.map low1)] := by
  rw [enter23]; exact lower_loop round23a s (by omega)
theorem r26 (s : List UInt8) (h : s.length ≤ 1048576) : RUN E 26 [.str s] = some [.str (s.map low1)] := by
  rw [enter26]; exact lower_loop round26a s (by omega)
theorem r27 (s p : List UInt8) (h : s.length ≤ 1048576) (hp : p.length ≤ 1048576) : RUN E 27 [.str s, .str p] = some [.bool (hasSuf s p)] := by
  rw [enter27, enter49, suf_eq (by omega) (by omega)]; rfl

/-- What a word ends with. -/
def fin (w : List UInt8) : List D := bif (bif (bif decide (w = []) then false else true) then decide ((w.length : Int) ≤ 30) else false) then [.str w] else []
/-- The words, behind what has been read of one. -/
def wf : List UInt8 → List UInt8 → List D
  | w, [] => fin w
  | w, c :: r => bif isw c then wf (w ++ [low1 c]) r else fin w ++ wf [] r
theorem fin_nil : fin [] = [] := rfl
theorem wf_stop {w l : List UInt8} (h : ∀ c r, l = c :: r → isw c = false) : wf w l = fin w ++ wf [] l := by
  cases l with
  | nil => simp [wf, fin_nil]
  | cons c r => simp [wf, h c r rfl, fin_nil]

section
variable (t : List UInt8) (ht : t.length ≤ 1048576)

/-- The program: where a word ends. -/
noncomputable def ex (i k : Nat) (o : List D) : R :=
  cond (bif decide ((i : Int) < (k : Int)) then decide (IntKind.wrap IntKind.i64 ((k : Int) - (i : Int)) ≤ 30) else false)
    (cond (cutOk (List.length t) (some (i : Int)) (some (k : Int)))
      (opt (RUN E 23 [D.str (cutL t (some (i : Int)) (some (k : Int)))]) fun r8 =>
        cond (fitL (List.length o) (List.length [D.str (D.toStr (List.getD r8 0 D.no))]))
          (L8a t (mmInt true (k : Int) (IntKind.wrap IntKind.i64 ((i : Int) + 1))) (o ++ [D.str (D.toStr (List.getD r8 0 D.no))]))
          (none))
      (none))
    (L8a t (mmInt true (k : Int) (IntKind.wrap IntKind.i64 ((i : Int) + 1))) o)
theorem in8 {i k : Nat} (o : List D) (hk : k < t.length) (h2 : t.length ≤ 1048576) : L8b t i k o = cond (isw (t.getD k 0)) (L8b t i ((k + 1 : Nat) : Int) o) (ex t i k o) := by
  rw [round8b, inb_nat hk, dec_t (by omega), Int.toNat_natCast, nxt (by omega)]
  simp only [r21, r22]
  unfold ex isw
  generalize ((t.getD k 0).toNat : Int) = x
  cases h1 : isL x <;> cases h2 : isD x <;> simp [h1, h2, opt_s, tB]
theorem out8 {i : Nat} (o : List D) : L8b t i (t.length : Nat) o = ex t i t.length o := by
  rw [round8b, dec_f (by omega)]
  unfold ex
  simp [opt_s]
theorem mm {i k : Nat} (hk : k ≤ 1048576) (hi : i ≤ 1048576) : mmInt true (k : Int) (IntKind.wrap IntKind.i64 ((i : Int) + 1)) = ((max k (i + 1) : Nat) : Int) := by
  rw [nxt (by omega)]
  unfold mmInt
  by_cases h : (k : Int) < ((i + 1 : Nat) : Int)
  · rw [dec_t h]; simp; omega
  · rw [dec_f h]; simp; omega

include ht in
theorem prog : ∀ n i : Nat, t.length - i ≤ n → i ≤ t.length → ∀ o : List D, o.length ≤ i → L8a t i o = some [.list (o ++ wf [] (t.drop i))] := by
  intro n
  induction n with
  | zero =>
    intro i hn hi o ho
    have : i = t.length := by omega
    subst this
    rw [round8a, dec_f (by omega)]; simp [wf, fin_nil]
  | succ n ih =>
    intro i hn hi o ho
    by_cases hil : i < t.length
    · have stop : ∀ k : Nat, i ≤ k → k ≤ t.length → (i = k → k < t.length) → (∀ c r, t.drop k = c :: r → isw c = false) → ex t i k o = some [.list (o ++ wf ((sub t i k).map low1) (t.drop k))] := by
        intro k hik hkl hne hst
        have hsl : (sub t i k).length = k - i := sub_len hkl
        unfold ex
        rw [mm (by omega) (by omega), cutOk_both hik hkl, cut_both, r23 _ (by omega), wf_stop hst]
        by_cases hlt : i < k
        · have hmx : max k (i + 1) = k := by omega
          have hnn : (sub t i k).map low1 ≠ [] := by
            intro h
            have hz : ((sub t i k).map low1).length = 0 := by rw [h]; rfl
            rw [List.length_map, hsl] at hz; omega
          have hw : IntKind.wrap IntKind.i64 ((k : Int) - (i : Int)) = (((sub t i k).map low1).length : Int) := by rw [wrap_id (by omega) (by omega), List.length_map, hsl]; omega
          rw [dec_t (p := (i : Int) < (k : Int)) (by omega), hmx, hw]
          unfold fin
          rw [dec_f hnn]
          by_cases h30 : ((((sub t i k).map low1).length : Nat) : Int) ≤ 30
          · rw [dec_t h30]
            simp only [cond_true, opt_s, List.getD_cons_zero, tS, fit_t (show o.length + [D.str ((sub t i k).map low1)].length ≤ 68719476736 by simp; omega)]
            rw [ih k (by omega) hkl _ (by simp; omega)]
            simp
          · rw [dec_f h30]
            simp only [cond_true, cond_false]
            rw [ih k (by omega) hkl _ (by omega)]
            simp
        · have hk : k = i := by omega
          subst hk
          have hmx : max k (k + 1) = k + 1 := by omega
          have hkl2 := hne rfl
          rw [dec_f (by omega), hmx, sub_self]
          simp only [cond_false, List.map_nil, fin_nil, List.nil_append]
          rw [ih (k + 1) (by omega) (by omega) o (by omega), drop_cons 0 hkl2]
          have := hst _ _ (drop_cons 0 hkl2)
          simp only [wf, this, fin_nil, cond_false, List.nil_append]
      have inner : ∀ m k : Nat, k + m = t.length → i ≤ k → L8b t i k o = some [.list (o ++ wf ((sub t i k).map low1) (t.drop k))] := by
        intro m
        induction m with
        | zero =>
          intro k hk hik
          have : k = t.length := by omega
          subst this
          rw [out8]
          exact stop _ hik (Nat.le_refl _) (fun h => by omega) (fun c r h => by simp at h)
        | succ m ihm =>
          intro k hk hik
          have hkl : k < t.length := by omega
          rw [in8 t o hkl ht]
          cases hc : isw (t.getD k 0) with
          | true =>
            rw [cond_true, ihm (k + 1) (by omega) (by omega), sub_snoc 0 hik hkl, drop_cons 0 hkl]
            simp only [wf, hc, cond_true, List.map_append, List.map_cons, List.map_nil]
          | false =>
            rw [cond_false]
            refine stop k hik (by omega) (fun _ => hkl) fun c r h => ?_
            rw [drop_cons 0 hkl] at h
            injection h with h1 h2
            rw [← h1]; exact hc
      have := inner (t.length - i) i (by omega) (Nat.le_refl _)
      rw [round8a, dec_t (by omega), cond_true, this, sub_self]; rfl
    · have : i = t.length := by omega
      subst this
      rw [round8a, dec_f (by omega)]; simp [wf, fin_nil]

include ht in
theorem spec : ∀ n i : Nat, i + n = t.length → ∀ (w : List UInt8) (o : List D), w.length ≤ i → o.length ≤ i → L9a t w i o = some [.list (o ++ wf w (t.drop i))] := by
  intro n
  induction n with
  | zero =>
    intro i hi w o hw ho
    have : i = t.length := by omega
    subst this
    have hl : L9a t [] ((t.length + 1 : Nat) : Int) (o ++ fin w) = some [.list (o ++ fin w)] := by rw [round9a, dec_f (by omega)]; rfl
    rw [round9a, dec_t (by omega), dec_f (p := ((t.length : Nat) : Int) < ((t.length : Nat) : Int)) (by omega), nxt (by omega)]
    simp only [emp, List.drop_length, wf]
    rw [show fin w = bif (bif (bif decide (w = []) then false else true) then decide ((w.length : Int) ≤ 30) else false) then [.str w] else [] from rfl] at hl ⊢
    have hf := fit_t (show o.length + [D.str w].length ≤ 68719476736 by simp; omega)
    cases hc : (bif (bif decide (w = []) then false else true) then decide ((w.length : Int) ≤ 30) else false) <;> rw [hc] at hl <;> simp_all [opt_s, D.toBool]
  | succ n ih =>
    intro i hi w o hw ho
    have hil : i < t.length := by omega
    rw [round9a, inb_nat hil, dec_t (by omega), dec_t (p := (i : Int) < ((t.length : Nat) : Int)) (by omega), Int.toNat_natCast, nxt (by omega), cutOk_both (by omega) (by omega), cut_both, sub_one 0 hil, r26 _ (by simp), drop_cons 0 hil]
    simp only [r24, r25, emp, wf]
    have e1 := ih (i + 1) (by omega) (w ++ [low1 (t.getD i 0)]) o (by simp; omega) (by omega)
    have e2 := ih (i + 1) (by omega) [] o (by simp) (by omega)
    have e3 := ih (i + 1) (by omega) [] (o ++ [D.str w]) (by simp) (by simp; omega)
    have hf := fit_t (show o.length + [D.str w].length ≤ 68719476736 by simp; omega)
    have hlm : decide (w.length + ([t.getD i 0].map low1).length ≤ lim) = true := lim_t (by simp; omega)
    unfold isw fin
    generalize ((t.getD i 0).toNat : Int) = x at *
    cases h1 : isL x <;> cases h2 : isD x <;> cases h3 : decide (128 ≤ x) <;> cases h4 : decide (w = []) <;> cases h5 : decide ((w.length : Int) ≤ 30) <;> simp_all [opt_s, D.toBool, D.toStr]
end

theorem words (t : List UInt8) (ht : t.length ≤ 1048576) : RUN E 8 [.str t] = some [.list (wf [] t)] ∧ RUN E 9 [.str t] = some [.list (wf [] t)] := by
  have h1 := prog t ht t.length 0 (by omega) (by omega) [] (by simp)
  have h2 := spec t ht t.length 0 (by omega) [] [] (by simp) (by simp)
  rw [List.drop_zero, List.nil_append] at h1 h2
  exact ⟨by rw [enter8]; exact h1, by rw [enter9]; exact h2⟩
theorem wf_len : ∀ (l w : List UInt8), (wf w l).length ≤ l.length + 1 := by
  have hf : ∀ w, (fin w).length ≤ 1 := by intro w; unfold fin; cases (bif (bif decide (w = []) then false else true) then decide ((w.length : Int) ≤ 30) else false) <;> simp
  intro l
  induction l with
  | nil => intro w; have := hf w; simp [wf]; omega
  | cons c r ih =>
    intro w
    simp only [wf]
    cases isw c with
    | true => have := ih (w ++ [low1 c]); simp; omega
    | false => have h1 := ih []; have h2 := hf w; simp; omega
theorem equal (xs : List D) (h : xs.length ≤ 2097152) : RUN E 7 [.list xs, .list xs] = some [.bool true] := by
  rw [enter7, dec_t rfl]
  exact eq_same (L := fun v => L7a xs xs (xs.length : Int) v) (e := fun d => decide (D.toStr d = D.toStr d)) (fun d => by simp) (fun v => round7a xs xs (xs.length : Int) v) (by omega)

/-! ### Stems -/
def sses : List UInt8 := [115, 115, 101, 115]
def ies : List UInt8 := [105, 101, 115]
def ss : List UInt8 := [115, 115]
def s1 : List UInt8 := [115]
def eed : List UInt8 := [101, 101, 100]
def ing : List UInt8 := [105, 110, 103]
def ed : List UInt8 := [101, 100]
def rules : List D := [.agg [.str sses, .int 2, .int 0], .agg [.str ies, .int 2, .int 0], .agg [.str ss, .int 0, .int 0], .agg [.str s1, .int 1, .int 0], .agg [.str eed, .int 1, .int 0], .agg [.str ing, .int 3, .int 6], .agg [.str ed, .int 2, .int 5]]
def stem (t : List UInt8) : List UInt8 :=
  bif hasSuf t sses || hasSuf t ies then t.take (t.length - 2) else bif hasSuf t ss then t else bif hasSuf t s1 || hasSuf t eed then t.take (t.length - 1) else
  bif hasSuf t ing && decide (6 ≤ (t.length : Int)) then t.take (t.length - 3) else bif hasSuf t ed && decide (5 ≤ (t.length : Int)) then t.take (t.length - 2) else t
section
variable (t : List UInt8) (ht : t.length ≤ 1048576)
include ht in
theorem rule (l : List D) (j : Nat) (p : List UInt8) (c z : Nat) (hj : j < l.length) (hl : l.length ≤ 100) (hg : l.getD j .no = .agg [.str p, .int (c : Int), .int (z : Int)]) (hc : c ≤ t.length) (hp : p.length ≤ 100) :
    L10b t (t.length : Int) l (l.length : Int) (j : Int) = cond (hasSuf t p && decide ((z : Int) ≤ (t.length : Int))) (some [.str (t.take (t.length - c))]) (L10b t (t.length : Int) l (l.length : Int) ((j + 1 : Nat) : Int)) := by
  have e : IntKind.wrap IntKind.i64 ((t.length : Int) - (c : Int)) = ((t.length - c : Nat) : Int) := by rw [wrap_id (by omega) (by omega)]; omega
  rw [round10b, dec_t (by omega), inb_nat hj, Int.toNat_natCast, hg, nxt (by omega)]
  simp only [cond_true, D.cell, D.cells, List.getD_cons_zero, List.getD_cons_succ, tS, tI, r27 t p ht (by omega), opt_s, tB, e, cutOk_hi (show t.length - c ≤ t.length by omega), cut_hi, b_and]
theorem stop10 (l : List D) : L10b t (t.length : Int) l (l.length : Int) (l.length : Int) = some [.str t] := by
  rw [round10b, dec_f (by omega)]; rfl
include ht in
theorem rules10 (h4 : 4 ≤ t.length) : L10b t (t.length : Int) rules (rules.length : Int) 0 = some [.str (stem t)] := by
  have q0 := rule t ht rules 0 sses 2 0 (by decide) (by decide) rfl (by omega) (by decide)
  have q1 := rule t ht rules 1 ies 2 0 (by decide) (by decide) rfl (by omega) (by decide)
  have q2 := rule t ht rules 2 ss 0 0 (by decide) (by decide) rfl (by omega) (by decide)
  have q3 := rule t ht rules 3 s1 1 0 (by decide) (by decide) rfl (by omega) (by decide)
  have q4 := rule t ht rules 4 eed 1 0 (by decide) (by decide) rfl (by omega) (by decide)
  have q5 := rule t ht rules 5 ing 3 6 (by decide) (by decide) rfl (by omega) (by decide)
  have q6 := rule t ht rules 6 ed 2 5 (by decide) (by decide) rfl (by omega) (by decide)
  have q7 : L10b t (t.length : Int) rules (rules.length : Int) ((6 + 1 : Nat) : Int) = some [.str t] := stop10 t rules
  have z : decide (((0 : Nat) : Int) ≤ (t.length : Int)) = true := dec_t (by omega)
  refine Eq.trans q0 ?_
  rw [q1, q2, q3, q4, q5, q6, q7, z]
  have e0 : t.take (t.length - 0) = t := by simp
  simp only [Bool.and_true, e0]
  unfold stem
  have e6 : ((6 : Nat) : Int) = 6 := rfl
  have e5 : ((5 : Nat) : Int) = 5 := rfl
  rw [e6, e5]
  cases hasSuf t sses <;> cases hasSuf t ies <;> cases hasSuf t ss <;> cases hasSuf t s1 <;> cases hasSuf t eed <;> cases (hasSuf t ing && decide (6 ≤ (t.length : Int))) <;> cases (hasSuf t ed && decide (5 ≤ (t.length : Int))) <;> rfl
def letters : List UInt8 → Bool
  | [] => true
  | c :: r => bif (bif decide ((c.toNat : Int) < 97) then true else decide (122 < (c.toNat : Int))) then false else letters r
include ht in
theorem stem10 : ∀ n i : Nat, i + n = t.length → L10a t i = some [.str (bif letters (t.drop i) then (bif decide ((t.length : Int) < 4) then t else stem t) else t)] := by
  intro n
  induction n with
  | zero =>
    intro i hi
    have : i = t.length := by omega
    subst this
    have e : L10a t (t.length : Nat) = cond (decide (((t.length : Nat) : Int) < ((t.length : Nat) : Int))) none (cond (decide ((t.length : Int) < 4)) (some [D.str t]) (L10b t (t.length : Int) rules (rules.length : Int) 0)) := by
      rw [round10a, dec_f (by omega)]; rfl
    rw [e, dec_f (p := ((t.length : Nat) : Int) < ((t.length : Nat) : Int)) (by omega), List.drop_length]
    by_cases h4 : (t.length : Int) < 4
    · rw [dec_t h4]; rfl
    · rw [dec_f h4, rules10 t ht (by omega)]; rfl
  | succ n ih =>
    intro i hi
    have hil : i < t.length := by omega
    have e1 := ih (i + 1) (by omega)
    rw [round10a, dec_t (by omega), inb_nat hil, Int.toNat_natCast, nxt (by omega), drop_cons 0 hil]
    simp only [letters]
    cases (bif decide (((t.getD i 0).toNat : Int) < 97) then true else decide (122 < ((t.getD i 0).toNat : Int))) with
    | true => rfl
    | false => exact e1
include ht in
theorem rules11 (h4 : 4 ≤ t.length) : L11a t (t.length : Nat) = some [.str (stem t)] := by
  have k : ∀ c : Nat, c ≤ 3 → IntKind.wrap IntKind.i64 ((t.length : Int) - (c : Int)) = ((t.length - c : Nat) : Int) := fun c hc => by rw [wrap_id (by omega) (by omega)]; omega
  have k1 : IntKind.wrap IntKind.i64 ((t.length : Int) - 1) = ((t.length - 1 : Nat) : Int) := k 1 (by omega)
  have k2 : IntKind.wrap IntKind.i64 ((t.length : Int) - 2) = ((t.length - 2 : Nat) : Int) := k 2 (by omega)
  have k3 : IntKind.wrap IntKind.i64 ((t.length : Int) - 3) = ((t.length - 3 : Nat) : Int) := k 3 (by omega)
  have hh : ∀ p : List UInt8, p.length ≤ 100 → RUN E 27 [.str t, .str p] = some [.bool (hasSuf t p)] := fun p hp => r27 t p ht (by omega)
  have a1 := hh sses (by decide)
  have a2 := hh ies (by decide)
  have a3 := hh ss (by decide)
  have a4 := hh s1 (by decide)
  have a5 := hh eed (by decide)
  have a6 := hh ing (by decide)
  have a7 := hh ed (by decide)
  have c1 : ∀ c : Nat, cutOk t.length none (some ((t.length - c : Nat) : Int)) = true := fun c => cutOk_hi (by omega)
  rw [round11a, dec_f (by omega)]
  simp only [cond_false, k1, k2, k3, c1, cut_hi]
  erw [a1, a2, a3, a4, a5, a6, a7]
  simp only [opt_s, List.getD_cons_zero, tB, b_and, cond_true]
  unfold stem
  cases hasSuf t sses <;> cases hasSuf t ies <;> cases hasSuf t ss <;> cases hasSuf t s1 <;> cases hasSuf t eed <;> cases (hasSuf t ing && decide (6 ≤ (t.length : Int))) <;> cases (hasSuf t ed && decide (5 ≤ (t.length : Int))) <;> rfl
include ht in
theorem stem11 (h4 : 4 ≤ t.length) : ∀ n i : Nat, i + n = t.length → L11a t i = some [.str (bif letters (t.drop i) then stem t else t)] := by
  intro n
  induction n with
  | zero =>
    intro i hi
    have : i = t.length := by omega
    subst this
    rw [rules11 t ht h4, List.drop_length]; rfl
  | succ n ih =>
    intro i hi
    have hil : i < t.length := by omega
    have e1 := ih (i + 1) (by omega)
    rw [round11a, dec_t (by omega), inb_nat hil, Int.toNat_natCast, nxt (by omega), drop_cons 0 hil]
    simp only [letters]
    cases (bif decide (((t.getD i 0).toNat : Int) < 97) then true else decide (122 < ((t.getD i 0).toNat : Int))) with
    | true => rfl
    | false => exact e1
end
theorem stems (t : List UInt8) (ht : t.length ≤ 1048576) : ∃ z : List UInt8, RUN E 10 [.str t] = some [.str z] ∧ RUN E 11 [.str t] = some [.str z] := by
  refine ⟨_, by rw [enter10]; exact stem10 t ht t.length 0 (by omega), ?_⟩
  rw [enter11, List.drop_zero]
  by_cases h4 : (t.length : Int) < 4
  · rw [dec_t h4]; cases letters t <;> rfl
  · rw [dec_f h4, cond_false]
    have := stem11 t ht (by omega) t.length 0 (by omega)
    rw [List.drop_zero] at this
    exact this
theorem law (t w : List UInt8) (ht : t.length ≤ 1048576) (hw : w.length ≤ 1048576) : RUN E 3 [.str t, .str w] = some [.bool true] := by
  obtain ⟨z, z1, z2⟩ := stems w hw
  have hl := wf_len t []
  rw [enter3, (words t ht).1, (words t ht).2]
  simp only [opt_s, List.getD_cons_zero, tL, equal (wf [] t) (by omega), tB, cond_true, z1, z2, tS, dec_t]
theorem lawR {M M' : Mem} {v v' : Value} {t w : List UInt8} (_ : Rep E.tt M .str v (.str t)) (_ : Rep E.tt M' .str v' (.str w)) (hb : dmass.dmAll [.str t, .str w] ≤ 1048576) : RUN E 3 [.str t, .str w] = some [.bool true] := by
  simp only [mass_str, mass_nil] at hb
  exact law t w (by omega) (by omega)
end words
end Go.Proofs.Ytbinmfenhbpdnaa.sw
