/- Headings of a valid document: the program's and the reference's are one. -/
import Derived.Test.YthbncndefigidaaDoorDxIdsD
import Derived.Test.YthbncndefigidaaDoorF7
set_option linter.unusedVariables false
set_option linter.unusedSimpArgs false
namespace Go.Proofs.YthbncndefigidaaDoor.md
open Go.Proofs.YthbncndefigidaaDoor.DS
namespace slugs

def isS (x : Int) : Bool := bif bif bif decide (97 ≤ x) then decide (x ≤ 122) else false then true else (bif decide (48 ≤ x) then decide (x ≤ 57) else false) then true else decide (128 ≤ x)
def ends (o : List UInt8) : Bool := decide (0 < (o.length : Int)) && decide (((o.getD (o.length - 1) 0).toNat : Int) = 45)
def tl (b : Bool) : List UInt8 := bif b then [45] else []
theorem n45 {c : UInt8} (h : c ≠ 45) : ¬ ((c.toNat : Int) = 45) := fun e => h (UInt8.toNat_inj.1 (by show c.toNat = 45; omega))
theorem ends_snoc (o : List UInt8) (c : UInt8) : ends (o ++ [c]) = decide (c = 45) := by
  unfold ends
  rw [dec_t (by simp), List.getD_eq_getElem?_getD]
  simp only [List.length_append, List.length_cons, List.length_nil, Nat.add_sub_cancel, Bool.true_and]
  rw [List.getElem?_append_right (by omega)]
  simp only [Nat.zero_add, Nat.add_sub_cancel, Nat.sub_self, List.getElem?_cons_zero, Option.getD_some]
  by_cases h : c = 45
  · subst h; rfl
  · rw [dec_f h, dec_f (n45 h)]
theorem ends_nil : ends [] = false := rfl
theorem suf_ends (o : List UInt8) : hasSuf o [45] = ends o := by
  rcases List.eq_nil_or_concat o with rfl | ⟨q, c, rfl⟩
  · rfl
  · rw [List.concat_eq_append, ends_snoc]
    unfold hasSuf
    simp only [List.length_append, List.length_cons, List.length_nil, Nat.zero_add, Nat.add_sub_cancel, List.drop_left]
    rw [dec_t (by omega), Bool.true_and]
    by_cases h : c = 45
    · subst h; simp
    · rw [dec_f h, dec_f (by simpa using h)]

/-- What the program has made: no dash at either end, but for one that is yet to be cut. -/
def Good (p : List UInt8) (b : Bool) : Prop := (p = [] ∧ b = false) ∨ (∃ c r, p = c :: r ∧ c ≠ 45) ∧ (∃ r c, p = r ++ [c] ∧ c ≠ 45)
theorem good_ends {p : List UInt8} {b : Bool} (h : Good p b) (a : List UInt8) (ha : p = [] → a = []) : ends (a ++ p ++ tl b) = b := by
  cases b with
  | true => exact (ends_snoc _ _).trans rfl
  | false =>
    rcases h with ⟨rfl, -⟩ | ⟨-, r, c, rfl, hc⟩
    · rw [ha rfl]; rfl
    · show ends (a ++ (r ++ [c]) ++ []) = false
      rw [List.append_nil, ← List.append_assoc, ends_snoc, dec_f hc]
theorem good_add {p : List UInt8} {b : Bool} (h : Good p b) {c : UInt8} (hc : c ≠ 45) : Good (p ++ tl b ++ [c]) false := by
  refine .inr ⟨?_, _, c, rfl, hc⟩
  rcases h with ⟨rfl, rfl⟩ | ⟨⟨x, r, rfl, hx⟩, -⟩
  · exact ⟨c, [], rfl, hc⟩
  · exact ⟨x, _, by rw [List.cons_append, List.cons_append], hx⟩
theorem isS_ne {c : UInt8} (h : isS (c.toNat : Int) = true) : c ≠ 45 := by
  intro e; subst e; exact absurd h (by decide)

theorem r21 (x : Int) : RUN E 21 [.int x] = some [.bool (bif decide (48 ≤ x) then decide (x ≤ 57) else false)] := enter21 x
theorem r23 (x : Int) : RUN E 23 [.int x] = some [.bool (bif decide (48 ≤ x) then decide (x ≤ 57) else false)] := enter23 x
theorem r22 (s : List UInt8) (h : s.length ≤ 1048576) : RUN E 22 [.str s] = some [.str (s.map low1)] := by
  rw [enter22]; exact lower_loop round22a s (by omega)
theorem r24 (s p : List UInt8) (h : s.length ≤ 1048576) (hp : p.length ≤ 1048576) : RUN E 24 [.str s, .str p] = some [.bool (hasSuf s p)] := by
  rw [enter24, enter42, suf_eq (by omega) (by omega)]; rfl

section
variable (s : List UInt8)

theorem last_d {o : List UInt8} (h : o.length ≤ 1048576) :
    (bif decide (0 < ((bytesD o).length : Int)) then decide (D.toInt ((bytesD o).getD (Int.toNat (IntKind.wrap IntKind.i64 (((bytesD o).length : Int) - 1))) D.no) = 45) else false) = ends o ∧
    (bif decide (0 < ((bytesD o).length : Int)) then bif decide (D.toInt ((bytesD o).getD (Int.toNat (IntKind.wrap IntKind.i64 (((bytesD o).length : Int) - 1))) D.no) = 45) then false else true else false) = (decide (0 < (o.length : Int)) && !ends o) ∧
    (bif inb (IntKind.wrap IntKind.i64 (((bytesD o).length : Int) - 1)) (bytesD o).length then true else bif bif decide (0 < ((bytesD o).length : Int)) then true else false then false else true) = true := by
  rw [bytesD_len]
  unfold ends
  by_cases h0 : 0 < o.length
  · have e : IntKind.wrap IntKind.i64 ((o.length : Int) - 1) = ((o.length - 1 : Nat) : Int) := by rw [wrap_id (by omega) (by omega)]; omega
    rw [e, inb_nat (by omega), Int.toNat_natCast, bytesD_getD (by omega), tI, dec_t (by omega)]
    cases decide (((o.getD (o.length - 1) 0).toNat : Int) = 45) <;> exact ⟨rfl, rfl, rfl⟩
  · rw [dec_f (p := 0 < (o.length : Int)) (by omega)]
    refine ⟨rfl, rfl, ?_⟩
    cases inb (IntKind.wrap IntKind.i64 ((o.length : Int) - 1)) o.length <;> rfl

theorem c7 {i : Nat} (hi : i ≤ 1048576) {o : List UInt8} (ho : o.length ≤ 1048576) (c : UInt8) :
    C7b s i (c.toNat : Int) (bytesD o) = L7a s ((i + 1 : Nat) : Int) (bytesD (bif isS (c.toNat : Int) then o ++ [c] else bif decide (0 < (o.length : Int)) && !ends o then o ++ [45] else o)) := by
  obtain ⟨-, h2, h3⟩ := last_d ho
  rw [round7b, h2, h3, nxt (by omega), fit_t (by rw [bytesD_len]; simp; omega), fit_t (by rw [bytesD_len]; simp; omega)]
  simp only [r21]
  unfold isS
  have b1 : bytesD (o ++ [c]) = bytesD o ++ [.int (c.toNat : Int)] := by rw [bytesD_append]; rfl
  have b2 : bytesD (o ++ [45]) = bytesD o ++ [.int 45] := by rw [bytesD_append]; rfl
  generalize (c.toNat : Int) = x at *
  cases h1 : decide (97 ≤ x) <;> cases h2 : decide (x ≤ 122) <;> cases h3 : decide (48 ≤ x) <;> cases h4 : decide (x ≤ 57) <;> cases h5 : decide (128 ≤ x) <;> cases h6 : (decide (0 < (o.length : Int)) && !ends o) <;> simp [opt_s, tB, b1, b2]
theorem s7 {i : Nat} (hi : i < s.length) (hs : s.length ≤ 1048576) {o : List UInt8} (ho : o.length ≤ 1048576) :
    L7a s i (bytesD o) = L7a s ((i + 1 : Nat) : Int) (bytesD (bif isS ((low1 (s.getD i 0)).toNat : Int) then o ++ [low1 (s.getD i 0)] else bif decide (0 < (o.length : Int)) && !ends o then o ++ [45] else o)) := by
  have e := c7 s (show i ≤ 1048576 by omega) ho (low1 (s.getD i 0))
  rw [round7a, dec_t (by omega), inb_nat hi, Int.toNat_natCast]
  have hl := u8_lt (s.getD i 0)
  by_cases h1 : 65 ≤ (s.getD i 0).toNat
  · by_cases h2 : (s.getD i 0).toNat ≤ 90
    · rw [low1_up h1 h2] at e ⊢
      rw [dec_t (p := (65 : Int) ≤ _) (by omega), dec_t (by omega), wrap_u8 (by omega) (by omega)]
      exact e
    · rw [low1_no (by omega)] at e ⊢
      rw [dec_t (p := (65 : Int) ≤ _) (by omega), dec_f (by omega)]
      exact e
  · rw [low1_no (by omega)] at e ⊢
    rw [dec_f (p := (65 : Int) ≤ _) (by omega)]
    exact e
theorem s8 {i : Nat} (hi : i < s.length) (hs : s.length ≤ 1048576) {o : List UInt8} (ho : o.length ≤ 1048575) :
    L8a s o i = L8a s (bif isS ((low1 (s.getD i 0)).toNat : Int) then o ++ [low1 (s.getD i 0)] else bif !ends o then o ++ [45] else o) ((i + 1 : Nat) : Int) := by
  have e : dBytes [D.int ((low1 (s.getD i 0)).toNat : Int)] = [low1 (s.getD i 0)] := dBytes_bytesD [low1 (s.getD i 0)]
  have l1 : decide (o.length + 1 ≤ lim) = true := lim_t (by omega)
  rw [round8a, dec_t (by omega), nxt (by omega), cutOk_both (by omega) (by omega), cut_both, sub_one 0 hi, r22 _ (by simp)]
  simp only [opt_s, List.getD_cons_zero, tS, List.map_cons, List.map_nil, e]
  simp only [r23, r24 o [45] (by omega) (by simp), suf_ends]
  simp only [List.length_cons, List.length_nil, Nat.zero_add]
  unfold isS
  generalize ((low1 (s.getD i 0)).toNat : Int) = x at *
  cases h1 : decide (97 ≤ x) <;> cases h2 : decide (x ≤ 122) <;> cases h3 : decide (48 ≤ x) <;> cases h4 : decide (x ≤ 57) <;> cases h5 : decide (128 ≤ x) <;> cases h6 : ends o <;> simp [opt_s, tB, inb, l1]
theorem e7 {o : List UInt8} (ho : o.length ≤ 1048576) : L7a s (s.length : Nat) (bytesD o) = some [.str (bif ends o then o.take (o.length - 1) else o)] := by
  obtain ⟨h1, -, h3⟩ := last_d ho
  rw [round7a, dec_f (by omega), h1, h3]
  cases h : ends o with
  | false => simp [dBytes_bytesD]
  | true =>
    have h0 : 0 < o.length := by unfold ends at h; simp at h; cases o with
      | nil => simp at h
      | cons => simp
    have e : IntKind.wrap IntKind.i64 ((o.length : Int) - 1) = ((o.length - 1 : Nat) : Int) := by rw [wrap_id (by omega) (by omega)]; omega
    rw [bytesD_len, e, cutOk_hi (by omega), cut_hi]
    have : (bytesD o).take (o.length - 1) = bytesD (o.take (o.length - 1)) := by simp [bytesD, List.map_take]
    rw [this, dBytes_bytesD]; rfl
end

/-! ### Trim -/
theorem t44 (o : List UInt8) (ho : o.length ≤ 1048576) : L44a o 45 = cond (ends o) (L44a (o.take (o.length - 1)) 45) (some [.str o]) := by
  rw [round44a]
  unfold ends
  by_cases h0 : 0 < o.length
  · have e : IntKind.wrap IntKind.i64 ((o.length : Int) - 1) = ((o.length - 1 : Nat) : Int) := by rw [wrap_id (by omega) (by omega)]; omega
    rw [e, inb_nat (by omega), Int.toNat_natCast, dec_t (by omega), cutOk_hi (by omega), cut_hi]
    cases decide (((o.getD (o.length - 1) 0).toNat : Int) = 45) <;> rfl
  · rw [dec_f (p := 0 < (o.length : Int)) (by omega)]
    cases inb (IntKind.wrap IntKind.i64 ((o.length : Int) - 1)) o.length <;> rfl
theorem t43 (c : UInt8) (r : List UInt8) : L43a (c :: r) 45 = cond (decide (c = 45)) (L43a r 45) (some [.str (c :: r)]) := by
  have h0 : inb 0 (c :: r).length = true := inb_nat (i := 0) (by simp)
  rw [round43a, h0, dec_t (p := 0 < ((c :: r).length : Int)) (by simp)]
  have : cutOk (c :: r).length (some 1) none = true := cutOk_lo (i := 1) (by simp)
  rw [this]
  have : cutL (c :: r) (some 1) none = r := rfl
  rw [this, List.getD_cons_zero]
  by_cases h : c = 45
  · subst h; rfl
  · rw [dec_f h, dec_f (n45 h)]; rfl
theorem t43n : L43a [] 45 = some [.str []] := by rw [round43a]; rfl
theorem trim {p : List UInt8} {b d : Bool} (h : Good p b) (hl : (tl d ++ p ++ tl b).length ≤ 1048576) : RUN E 25 [.str (tl d ++ p ++ tl b), .str [45]] = some [.str p] := by
  have hr : L44a (tl d ++ p ++ tl b) 45 = some [.str (bif decide (p = []) then [] else tl d ++ p)] := by
    rcases h with ⟨rfl, rfl⟩ | ⟨⟨x, r, hp, hx⟩, y, c, hp2, hc⟩
    · cases d with
      | false => rw [t44 _ hl]; rfl
      | true =>
        rw [t44 _ hl]
        show L44a [] 45 = _
        rw [t44 _ (by simp)]; rfl
    · have hne : p ≠ [] := by rw [hp]; simp
      have e : ends (tl d ++ p) = false := by rw [hp2, ← List.append_assoc, ends_snoc, dec_f hc]
      have e2 : L44a (tl d ++ p) 45 = some [.str (tl d ++ p)] := by rw [t44 _ (by simp at hl ⊢; omega), e]; rfl
      rw [dec_f hne, cond_false]
      cases b with
      | false => show L44a (tl d ++ p ++ []) 45 = _; rw [List.append_nil]; exact e2
      | true =>
        rw [t44 _ hl]
        show cond (ends (tl d ++ p ++ [45])) (L44a ((tl d ++ p ++ [45]).take ((tl d ++ p ++ [45]).length - 1)) 45) _ = _
        rw [ends_snoc]
        have : (tl d ++ p ++ [45]).take ((tl d ++ p ++ [45]).length - 1) = tl d ++ p := by
          rw [List.length_append, List.length_singleton, Nat.add_sub_cancel, List.take_left]
        rw [this]; exact e2
  have hq : L43a (bif decide (p = []) then [] else tl d ++ p) 45 = some [.str p] := by
    rcases h with ⟨rfl, -⟩ | ⟨⟨x, r, rfl, hx⟩, -⟩
    · exact t43n
    · have e : L43a (x :: r) 45 = some [.str (x :: r)] := by rw [t43, dec_f hx]; rfl
      rw [dec_f (by simp), cond_false]
      cases d with
      | false => exact e
      | true => show L43a (45 :: x :: r) 45 = _; rw [t43]; exact e
  rw [enter25]
  by_cases h0 : tl d ++ p ++ tl b = []
  · have hp : p = [] := by simp at h0; exact h0.2.1
    rw [dec_t h0, h0, hp]; rfl
  · rw [dec_f h0]
    have a1 : decide (([45] : List UInt8) = []) = false := dec_f (by simp)
    have a2 : decide ((([45] : List UInt8).length : Int) = 1) = true := rfl
    have a3 : decide (((([45] : List UInt8).getD 0 0).toNat : Int) < 128) = true := dec_t (by decide)
    have a4 : inb 0 ([45] : List UInt8).length = true := rfl
    have a5 : (((([45] : List UInt8).getD 0 0).toNat : Int)) = 45 := rfl
    rw [a1, a2, a3, a4, a5]
    simp only [cond_true, cond_false, enter44, hr, opt_s, List.getD_cons_zero, tS, enter43, hq]

theorem both (s : List UInt8) (hs : s.length ≤ 1048571) : ∀ n i : Nat, i + n = s.length → ∀ (p : List UInt8) (b d : Bool), Good p b → p.length + (tl b).length ≤ i →
    ∃ r : List UInt8, r.length ≤ s.length ∧ L7a s i (bytesD (p ++ tl b)) = some [.str r] ∧ L8a s (tl d ++ p ++ tl b) i = some [.str r] := by
  have ht : ∀ b, (tl b).length ≤ 1 := by intro b; cases b <;> simp [tl]
  intro n
  induction n with
  | zero =>
    intro i hi p b d hg hl
    have : i = s.length := by omega
    subst this
    have hd := ht d
    refine ⟨p, by omega, ?_, ?_⟩
    · rw [e7 s (by simp; omega), show ends (p ++ tl b) = b from good_ends hg [] (fun _ => rfl)]
      cases b with
      | false => simp [tl]
      | true => simp [tl]
    · rw [round8a, dec_f (by omega)]
      have := trim (d := d) hg (by simp; omega)
      show opt (RUN E 25 [.str (tl d ++ p ++ tl b), .str [45]]) _ = _
      rw [this]; rfl
  | succ n ih =>
    intro i hi p b d hg hl
    have hil : i < s.length := by omega
    have hd := ht d
    have hb := ht b
    rw [s7 s hil (by omega) (by simp; omega), s8 s hil (by omega) (by simp; omega)]
    generalize low1 (s.getD i 0) = c
    cases hc : isS (c.toNat : Int) with
    | true =>
      have := ih (i + 1) (by omega) (p ++ tl b ++ [c]) false d (good_add hg (isS_ne hc)) (by show (p ++ tl b ++ [c]).length + 0 ≤ i + 1; rw [List.length_append, List.length_append]; simp; omega)
      simpa [tl] using this
    | false =>
      simp only [cond_false]
      rw [show ends (p ++ tl b) = b from good_ends hg [] (fun _ => rfl)]
      rcases hg with ⟨rfl, rfl⟩ | hg
      · have := ih (i + 1) (by omega) [] false true (.inl ⟨rfl, rfl⟩) (by simp [tl])
        have e : (bif !ends (tl d ++ [] ++ tl false) then tl d ++ [] ++ tl false ++ [45] else tl d ++ [] ++ tl false) = tl true ++ [] ++ tl false := by cases d <;> rfl
        rw [e]
        exact this
      · have hp : p ≠ [] := by obtain ⟨⟨c, r, h, -⟩, -⟩ := hg; rw [h]; simp
        have hp0 : 0 < p.length := List.length_pos_iff.2 hp
        rw [good_ends (.inr hg) (tl d) (fun h => absurd h hp), dec_t (by simp; omega)]
        have := ih (i + 1) (by omega) p true d (.inr hg) (by simp [tl]; omega)
        cases b <;> simpa [tl] using this

theorem same (s : List UInt8) (hs : s.length ≤ 1048571) : ∃ r, r.length ≤ s.length ∧ RUN E 7 [.str s] = some [.str r] ∧ RUN E 8 [.str s] = some [.str r] := by
  obtain ⟨r, hl, h7, h8⟩ := both s hs s.length 0 (by omega) [] false false (.inl ⟨rfl, rfl⟩) (by simp [tl])
  exact ⟨r, hl, by rw [enter7]; exact h7, by rw [enter8]; exact h8⟩
end slugs
end Go.Proofs.YthbncndefigidaaDoor.md

namespace Go.Proofs.YthbncndefigidaaDoor.md
open Go.Proofs.YthbncndefigidaaDoor.DS
namespace heads
open check hiding opt_s tB tI tS tL fit_t dBytes_bytesD bytesD_len bytesD_app

def isIn (p : Int) : Prop := p = 1 ∨ p = 2 ∨ p = 10 ∨ p = 14 ∨ p = 15 ∨ p = 17
theorem permIn {p : Int} (hp : isIn p) (k : Int) : RUN E 69 [.int p, .int k] = some [.bool (bif decide (11 ≤ k) then decide (k ≤ 18) else false)] := by
  rcases hp with rfl | rfl | rfl | rfl | rfl | rfl <;> (rw [enter69]; simp only [enter52, opt_s, List.getD_cons_zero, tB]; rfl)
theorem okIn {k l : Int} {t d ti : List UInt8} {ks : List D} {p : Int} (hp : isIn p) (h : RUN E 53 [.agg [.int k, .int l, .str t, .str d, .str ti, .list ks], .int p] = some [.int 0]) : 11 ≤ k := by
  rw [enter53] at h
  simp only [D.cell, D.cells, List.getD_cons_zero, tI] at h
  rw [permIn hp] at h
  simp only [opt_s, List.getD_cons_zero, tB] at h
  by_cases h11 : 11 ≤ k
  · exact h11
  · rw [dec_f h11] at h; cases h
theorem kidIn {k : Int} (h1 : 11 ≤ k) (h2 : k ≤ 18) : noKids k = true ∨ isIn k := by
  rcases kcases (by omega) h2 with g | g | g | g | g | g | g | g | g | g | g | g | g | g | g | g | g | g <;> subst g <;> first | omega | exact .inl (by decide) | exact .inr (by unfold isIn; decide)
theorem heads_nil : RUN E 35 [.list []] = some [.list []] := by rw [enter35, round35a]; rfl
/-- Among inlines there is no heading. -/
theorem inline : ∀ l, AllN l → dmass.dmAll l ≤ 1048576 → ∀ p : Int, isIn p → RUN E 31 [.list l, .int p] = some [.int 0] → RUN E 35 [.list l] = some [.list []] := by
  refine doc_ind ?_
  intro l hN hk hb p hp hv0
  have hlen := len_le hN
  have hv := valid hN hb hv0
  have loop : ∀ r i : Nat, i + r = l.length → L35a l l.length i [] = some [.list []] := by
    intro r
    induction r with
    | zero => intro i hi; rw [round35a, dec_f (by omega)]; rfl
    | succ r ih =>
      intro i hi
      have hil : i < l.length := by omega
      have hx := hN l[i] (List.getElem_mem hil)
      have hdm := drop_mass hil
      have hdl := drop_le l i
      obtain ⟨v1, v2⟩ := hv i hil
      have hkid := hk l[i] (List.getElem_mem hil)
      have hg : l.getD i .no = l[i] := getD_eq l i .no hil
      have hl0 : (l.length : Int) ≤ 1048576 := by omega
      rw [round35a, dec_t (by omega), inb_nat hil, Int.toNat_natCast, nxt (by omega), hg]
      have hnx := ih (i + 1) (by omega)
      generalize l[i] = x at *
      cases hx with
      | mk k v t d ti ks hks =>
        obtain ⟨h1, h2, h3⟩ := okNode v1
        have h11 := okIn hp v1
        have hmx : dmass (.agg [.int k, .int v, .str t, .str d, .str ti, .list ks]) = 1 + (1 + (t.length + 1 + (d.length + 1 + (ti.length + 1 + (dmass.dmAll ks + 1 + 0))))) := rfl
        have hkk : RUN E 35 [.list ks] = some [.list []] := by
          rcases kidIn h11 h2 with hn | hn
          · rw [h3 hn]; exact heads_nil
          · exact hkid (show dmass.dmAll ks ≤ 1048576 by omega) k hn v2
        show cond true (cond true (cond (decide (k = 1)) _ (opt (RUN E 35 [.list ks]) _)) none) _ = _
        rw [dec_f (by omega), hkk]
        simp only [cond_true, cond_false, opt_s, List.getD_cons_zero, tL, List.append_nil, List.length_nil]
        rw [fit_t (by omega), cond_true, hnx]
  rw [enter35]
  exact loop l.length 0 (by omega)
/-- What a heading is. -/
def Hd (x : D) : Prop := Nd x ∧ dmass x ≤ 1048576 ∧ RUN E 31 [.list (kidsOf x), .int 1] = some [.int 0]
theorem heads : ∀ l, AllN l → dmass.dmAll l ≤ 1048576 → ∀ p : Int, RUN E 31 [.list l, .int p] = some [.int 0] → ∃ hs : List D, hs.length ≤ dmass.dmAll l ∧ (∀ x ∈ hs, Hd x) ∧
    RUN E 35 [.list l] = some [.list hs] ∧ RUN E 37 [.list l] = some [.list hs] := by
  refine doc_ind ?_
  intro l hN hk hb p hv0
  have hlen := len_le hN
  have hv := valid hN hb hv0
  have loop : ∀ r i : Nat, i + r = l.length → ∃ hs : List D, hs.length ≤ dmass.dmAll (l.drop i) ∧ (∀ x ∈ hs, Hd x) ∧ ∀ out : List D, out.length + dmass.dmAll (l.drop i) ≤ 4194304 →
      L35a l l.length i out = some [.list (out ++ hs)] ∧ L37a l l.length i out = some [.list (out ++ hs)] := by
    intro r
    induction r with
    | zero =>
      intro i hi
      refine ⟨[], by simp, fun x hx => by simp at hx, fun out _ => ?_⟩
      rw [round35a, round37a, dec_f (by omega)]; simp
    | succ r ih =>
      intro i hi
      have hil : i < l.length := by omega
      have hx := hN l[i] (List.getElem_mem hil)
      have hdm := drop_mass hil
      have hdl := drop_le l i
      obtain ⟨v1, v2⟩ := hv i hil
      have hkid := hk l[i] (List.getElem_mem hil)
      have hg : l.getD i .no = l[i] := getD_eq l i .no hil
      obtain ⟨hs, f1, f2, f3⟩ := ih (i + 1) (by omega)
      have step : ∀ out : List D, L35a l l.length i out = _ := fun out => by rw [round35a, dec_t (by omega), inb_nat hil, Int.toNat_natCast, nxt (by omega), hg]
      have step2 : ∀ out : List D, L37a l l.length i out = _ := fun out => by rw [round37a, dec_t (by omega), inb_nat hil, Int.toNat_natCast, nxt (by omega), hg]
      have hxm : Nd l[i] := hN l[i] (List.getElem_mem hil)
      generalize l[i] = x at *
      cases hx with
      | mk k v t d ti ks hks =>
        obtain ⟨h1, h2, h3⟩ := okNode v1
        have hmx : dmass (.agg [.int k, .int v, .str t, .str d, .str ti, .list ks]) = 1 + (1 + (t.length + 1 + (d.length + 1 + (ti.length + 1 + (dmass.dmAll ks + 1 + 0))))) := rfl
        by_cases hk1 : k = 1
        · subst hk1
          have hkk : RUN E 35 [.list ks] = some [.list []] := inline ks hks (by omega) 1 (.inl rfl) v2
          refine ⟨.agg [.int 1, .int v, .str t, .str d, .str ti, .list ks] :: hs, by simp only [List.length_cons]; omega, ?_, fun out ho => ?_⟩
          · intro y hy
            rcases List.mem_cons.1 hy with rfl | hy
            · exact ⟨hxm, by omega, v2⟩
            · exact f2 y hy
          · obtain ⟨g1, g2⟩ := f3 (out ++ [.agg [.int 1, .int v, .str t, .str d, .str ti, .list ks]]) (by simp; omega)
            constructor
            · rw [step]
              show cond true (cond true (cond (decide ((1 : Int) = 1)) (cond (fitL out.length [D.agg [.int 1, .int v, .str t, .str d, .str ti, .list ks]].length) (opt (RUN E 35 [.list ks]) _) _) _) none) _ = _
              rw [hkk, fit_t (by simp; omega)]
              simp only [decide_true, cond_true, opt_s, List.getD_cons_zero, tL, List.append_nil, List.length_nil]
              rw [fit_t (by simp; omega)]
              simp only [cond_true]
              rw [g1]; simp
            · rw [step2]
              show cond true (cond true (cond (decide ((1 : Int) = 1)) (cond (fitL out.length [D.agg [.int 1, .int v, .str t, .str d, .str ti, .list ks]].length) _ _) _) none) _ = _
              rw [fit_t (by simp; omega)]
              simp only [decide_true, cond_true]
              rw [g2]; simp
        · by_cases hk10 : k ≤ 10
          · obtain ⟨hk0, e1, e2, e3, e4⟩ := hkid (show dmass.dmAll ks ≤ 1048576 by omega) k v2
            replace e1 : hk0.length ≤ dmass.dmAll ks := e1
            replace e3 : RUN E 35 [.list ks] = some [.list hk0] := e3
            replace e4 : RUN E 37 [.list ks] = some [.list hk0] := e4
            refine ⟨hk0 ++ hs, by simp only [List.length_append]; omega, ?_, fun out ho => ?_⟩
            · intro y hy
              rcases List.mem_append.1 hy with hy | hy
              · exact e2 y hy
              · exact f2 y hy
            · obtain ⟨g1, g2⟩ := f3 (out ++ hk0) (by simp only [List.length_append]; omega)
              constructor
              · rw [step]
                show cond true (cond true (cond (decide (k = 1)) _ (opt (RUN E 35 [.list ks]) _)) none) _ = _
                rw [dec_f hk1, e3]
                simp only [cond_true, cond_false, opt_s, List.getD_cons_zero, tL]
                rw [fit_t (by omega), g1]; simp
              · rw [step2]
                show cond true (cond true (cond (decide (k = 1)) _ (opt (RUN E 57 [.int k]) _)) none) _ = _
                rw [dec_f hk1, enter57, dec_t h1, dec_t hk10]
                simp only [cond_true, cond_false, opt_s, List.getD_cons_zero, tB]
                show opt (RUN E 37 [.list ks]) _ = _
                rw [e4]
                simp only [opt_s, List.getD_cons_zero, tL]
                rw [fit_t (by omega), cond_true, g2]; simp
          · have hkk : RUN E 35 [.list ks] = some [.list []] := by
              rcases kidIn (by omega) h2 with hn | hn
              · rw [h3 hn]; exact heads_nil
              · exact inline ks hks (by omega) k hn v2
            refine ⟨hs, by omega, f2, fun out ho => ?_⟩
            obtain ⟨g1, g2⟩ := f3 out (by omega)
            constructor
            · rw [step]
              show cond true (cond true (cond (decide (k = 1)) _ (opt (RUN E 35 [.list ks]) _)) none) _ = _
              rw [dec_f hk1, hkk]
              simp only [cond_true, cond_false, opt_s, List.getD_cons_zero, tL, List.append_nil, List.length_nil]
              rw [fit_t (by omega), cond_true, g1]
            · rw [step2]
              show cond true (cond true (cond (decide (k = 1)) _ (opt (RUN E 57 [.int k]) _)) none) _ = _
              rw [dec_f hk1, enter57, dec_f hk10]
              simp only [cond_true, cond_false, opt_s, List.getD_cons_zero, tB]
              rw [dec_t h1]
              exact g2
  obtain ⟨hs, h1, h2, h3⟩ := loop l.length 0 (by omega)
  simp only [List.drop_zero] at h1 h3
  obtain ⟨g1, g2⟩ := h3 [] (by simp; omega)
  exact ⟨hs, h1, h2, by rw [enter35]; exact g1, by rw [enter37]; exact g2⟩
end heads
end Go.Proofs.YthbncndefigidaaDoor.md
