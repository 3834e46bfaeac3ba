/- Inlines that can be printed: an inline; a row of inlines. -/
import Derived.Test.YthbncndefigidaaDoorDxCkC
import Derived.Test.YthbncndefigidaaDoorF8
set_option linter.unusedVariables false
set_option linter.unusedSimpArgs false
namespace Go.Proofs.YthbncndefigidaaDoor.mc
open Go.Proofs.YthbncndefigidaaDoor.DS
namespace chk
open check

theorem opt_s {α β : Type} (a : α) (f : α → Option β) : opt (some a) f = f a := rfl
theorem tB (b : Bool) : D.toBool (.bool b) = b := rfl
theorem tI (n : Int) : D.toInt (.int n) = n := rfl
theorem tS (x : List UInt8) : D.toStr (.str x) = x := rfl
theorem tL (x : List D) : D.toList (.list x) = x := rfl
theorem u8_all (P : UInt8 → Bool) (h : (List.range 256).all (fun n => P (UInt8.ofNat n)) = true) (c : UInt8) : P c = true := by
  have := List.all_eq_true.1 h c.toNat (List.mem_range.2 c.toNat_lt)
  simpa using this
theorem bool_of_beq {a b : Bool} (h : (a == b) = true) : a = b := by cases a <;> cases b <;> first | rfl | cases h

/-! ### What validity says -/
def par (p : Int) : Prop := p = 1 ∨ p = 2 ∨ p = 10 ∨ p = 14 ∨ p = 15 ∨ p = 17
theorem permI {p k : Int} (hp : par p) : RUN E 69 [.int p, .int k] = some [.bool (bif decide (11 ≤ k) then decide (k ≤ 18) else false)] := by
  rcases hp with rfl | rfl | rfl | rfl | rfl | rfl <;> (rw [enter69]; simp only [enter52]; rfl)
theorem okInl {k l : Int} {t d ti : List UInt8} {ks : List D} {p : Int} (hp : par p) (h : RUN E 53 [.agg [.int k, .int l, .str t, .str d, .str ti, .list ks], .int p] = some [.int 0]) :
    11 ≤ k ∧ k ≤ 18 ∧ (k = 16 → d = [] ∧ ti = []) ∧ (k = 17 → t = []) := by
  have e1 := permI (k := k) hp
  rw [enter53] at h
  simp only [D.cell, D.cells, List.getD_cons_zero, List.getD_cons_succ, check.tI, check.tS, check.tL, e1, check.opt_s, check.tB] at h
  by_cases h11 : 11 ≤ k
  · by_cases h18 : k ≤ 18
    · rw [dec_t h11, dec_t h18] at h
      simp only [cond_true, cond_false] at h
      change cond (RG k l) (some [D.int 2]) (cond (C53 k (decide (l = 0)) (decide (t = [])) (decide (d = [])) (decide (ti = [])) (decide ((0 : Int) < (ks.length : Int)))) (some [D.int 1]) _) = some [D.int 0] at h
      cases hr : RG k l with
      | true => rw [hr] at h; cases h
      | false =>
        rw [hr] at h
        cases hc : C53 k (decide (l = 0)) (decide (t = [])) (decide (d = [])) (decide (ti = [])) (decide ((0 : Int) < (ks.length : Int))) with
        | true => rw [hc] at h; cases h
        | false =>
          refine ⟨h11, h18, fun hk => ?_, fun hk => ?_⟩
          · subst hk
            generalize decide (l = 0) = z1 at hc
            generalize decide (t = []) = z2 at hc
            cases hd : decide (d = []) with
            | false => rw [hd] at hc; cases z1 <;> cases z2 <;> cases hc
            | true =>
              cases hn : decide (ti = []) with
              | false => rw [hd, hn] at hc; cases z1 <;> cases z2 <;> cases hc
              | true => exact ⟨of_decide_eq_true hd, of_decide_eq_true hn⟩
          · subst hk
            generalize decide (l = 0) = z1 at hc
            cases ht : decide (t = []) with
            | false => rw [ht] at hc; cases z1 <;> cases hc
            | true => exact of_decide_eq_true ht
    · rw [dec_t h11, dec_f h18] at h; cases h
  · rw [dec_f h11] at h; cases h

/-! ### Blanks, pairs -/
def isB (c : UInt8) : Bool := bif decide ((c.toNat : Int) = 32) then true else decide ((c.toNat : Int) = 9)
def fb (s : List UInt8) : Bool := !decide (s = []) && isB (s.getD 0 0)
def lb (s : List UInt8) : Bool := !decide (s = []) && isB (s.getD (s.length - 1) 0)
theorem len1 {n : Nat} (h0 : n ≠ 0) (h : n ≤ 4194304) : IntKind.wrap IntKind.i64 ((n : Int) - 1) = ((n - 1 : Nat) : Int) := by rw [wrap_id (by omega) (by omega)]; omega
theorem ne_len {s : List UInt8} (h : s ≠ []) : s.length ≠ 0 := fun e => h (List.eq_nil_of_length_eq_zero e)
theorem r73 (s : List UInt8) (h : s.length ≤ 1048576) : RUN E 73 [.str s] = some [.bool (fb s), .bool (lb s)] := by
  rw [enter73]
  by_cases hs : s = []
  · subst hs; rfl
  · have hl := ne_len hs
    rw [len1 hl (by omega), inb_nat (by omega : s.length - 1 < s.length), show inb 0 s.length = true from inb_nat (i := 0) (by omega), dec_f hs]
    simp only [cond_true, cond_false, opt_s, enter92, List.getD_cons_zero, tB, Int.toNat_natCast]
    unfold fb lb isB
    rw [dec_f hs]
    rfl
theorem lastC (s : List UInt8) (h : s.length ≤ 1048576) : (cond (bif inb (IntKind.wrap IntKind.i64 ((↑(List.length s) : Int) - 1)) (List.length s) then true else bif bif decide (s = ([] : List UInt8)) then false else true then false else true)
    (opt (cond (bif decide (s = ([] : List UInt8)) then false else true)
        (RUN E 90 [D.int (↑(UInt8.toNat (List.getD s (Int.toNat (IntKind.wrap IntKind.i64 ((↑(List.length s) : Int) - 1))) 0)) : Int)])
        (some [])) fun ρ5 =>
      some [D.bool (bif decide (s = ([] : List UInt8)) then true else !D.toBool (List.getD ρ5 0 D.no))])
    (none)) = some [D.bool (!lb s)] := by
  by_cases hs : s = []
  · subst hs; rfl
  · have hl := ne_len hs
    rw [len1 hl (by omega), inb_nat (by omega : s.length - 1 < s.length), dec_f hs]
    simp only [cond_true, cond_false, opt_s, enter90, List.getD_cons_zero, tB, Int.toNat_natCast]
    unfold lb isB
    rw [dec_f hs]
    rfl
theorem firstC (s : List UInt8) : (cond (bif inb 0 (List.length s) then true else bif bif decide (s = ([] : List UInt8)) then false else true then false else true)
    (opt (cond (bif decide (s = ([] : List UInt8)) then false else true)
        (RUN E 90 [D.int (↑(UInt8.toNat (List.getD s 0 0)) : Int)])
        (some [])) fun ρ7 =>
      some [D.bool (bif decide (s = ([] : List UInt8)) then true else !D.toBool (List.getD ρ7 0 D.no))])
    (none)) = some [D.bool (!fb s)] := by
  by_cases hs : s = []
  · subst hs; rfl
  · have hl := ne_len hs
    rw [show inb 0 s.length = true from inb_nat (i := 0) (by omega), dec_f hs]
    simp only [cond_true, cond_false, opt_s, enter90, List.getD_cons_zero, tB]
    unfold fb isB
    rw [dec_f hs]
    rfl
def brk (k : Int) : Bool := bif decide (k = 12) then true else decide (k = 13)
def star (k : Int) : Bool := bif decide (k = 14) then true else decide (k = 15)
theorem r89 (n : D) : RUN E 89 [n] = some [.bool (brk (D.toInt (D.cell n 0)))] := enter89 n
theorem r93 (k : Int) : RUN E 93 [.int k] = some [.bool (brk k)] := enter93 k
theorem r94 (k : Int) : RUN E 94 [.int k] = some [.bool (star k)] := enter94 k
theorem r125 (n : D) : RUN E 125 [n] = some [.bool (star (D.toInt (D.cell n 0)))] := enter125 n
theorem pairs (a b : D) (ha : dmass a ≤ 1048576) (hb : dmass b ≤ 1048576) : ∃ q : Bool, RUN E 111 [a, b] = some [.bool q] ∧ RUN E 95 [a, b] = some [.bool q] := by
  have hla : (D.toStr (D.cell a 2)).length ≤ 1048576 := Nat.le_trans (cellS_le _ _) ha
  have hlb : (D.toStr (D.cell b 2)).length ≤ 1048576 := Nat.le_trans (cellS_le _ _) hb
  rw [enter111, enter95, r73 _ hla, r73 _ hlb]
  simp only [lastC _ hla, firstC, r89, r93, r94, r125, opt_s, List.getD_cons_zero, List.getD_cons_succ, tB]
  generalize decide (D.toInt (D.cell a 0) = 11) = A
  generalize decide (D.toInt (D.cell b 0) = 11) = B
  generalize brk (D.toInt (D.cell a 0)) = Ba
  generalize brk (D.toInt (D.cell b 0)) = Bb
  generalize star (D.toInt (D.cell a 0)) = Sa
  generalize star (D.toInt (D.cell b 0)) = Sb
  generalize lb (D.toStr (D.cell a 2)) = x
  generalize fb (D.toStr (D.cell b 2)) = y
  cases A <;> cases B <;> cases Ba <;> cases Bb <;> cases Sa <;> cases Sb <;> cases x <;> cases y <;> exact ⟨_, rfl, rfl⟩

end chk
end Go.Proofs.YthbncndefigidaaDoor.mc

namespace Go.Proofs.YthbncndefigidaaDoor.mc
open Go.Proofs.YthbncndefigidaaDoor.DS
namespace chk
open check

/-! ### Bars, targets -/
theorem has_iff (s : List UInt8) (c : UInt8) : decide (0 ≤ Lib.indexByte s c) = s.contains c := (Lib.contains_iff_indexByte s c).symm
theorem has_lt (s : List UInt8) (c : UInt8) : decide (Lib.indexByte s c < 0) = !s.contains c := by
  rw [← has_iff]
  by_cases h : 0 ≤ Lib.indexByte s c
  · rw [dec_t h, dec_f (by omega)]; rfl
  · rw [dec_f h, dec_t (by omega)]; rfl
theorem r126 (e s l : Bool) (kind : Int) (t : List UInt8) : RUN E 126 [.agg [.bool e, .bool s, .bool l, .int kind], .str t] = some [.bool (!(decide (kind = 10) && t.contains 124))] := by
  rw [enter126]
  simp only [D.cell, D.cells, List.getD_cons_zero, List.getD_cons_succ, tI, enter104]
  rw [show (Nat.toUInt8 (Int.toNat 124)) = (124 : UInt8) from rfl]
  cases decide (kind = 10) with
  | false => rfl
  | true =>
    simp only [cond_true, cond_false, opt_s, List.getD_cons_zero, tI, has_lt, Bool.not_true, Bool.true_and]
theorem allK {L : Int → R} {s : List UInt8} {p : UInt8 → Bool} {K : R} (hend : L (s.length : Nat) = K) (hL : ∀ i : Nat, i < s.length → L i = cond (p (s.getD i 0)) (L ((i + 1 : Nat) : Int)) (some [.bool false])) : L 0 = cond (s.all p) K (some [.bool false]) := by
  have key : ∀ n i : Nat, i + n = s.length → L i = cond ((s.drop i).all p) K (some [.bool false]) := by
    intro n
    induction n with
    | zero =>
      intro i hi
      have : i = s.length := by omega
      subst this
      rw [hend, List.drop_length]; rfl
    | succ n ih =>
      intro i hi
      have hil : i < s.length := by omega
      rw [hL i hil, ih (i + 1) (by omega), drop_cons 0 hil, List.all_cons]
      cases p (s.getD i 0) <;> rfl
  exact key s.length 0 (by omega)
theorem any_set (s chars : List UInt8) : Lib.containsAny s chars = s.any (chars.contains ·) := by
  unfold Lib.containsAny
  induction s with
  | nil => rfl
  | cons b r ih =>
    rw [Lib.indexAny, List.any_cons]
    have hge := Lib.indexAny_ge chars r
    cases hb : chars.contains b with
    | true => rfl
    | false =>
      simp only [Bool.false_eq_true, if_false, Bool.false_or]
      by_cases hm : Lib.indexAny r chars = -1
      · rw [← ih, hm]; rfl
      · rw [if_neg (by simpa using hm), ← ih]
        exact decide_eq_decide.2 (by omega)
def inD (c : UInt8) : Bool := bif bif bif bif decide (32 < (c.toNat : Int)) then !decide ((c.toNat : Int) = 40) else false then !decide ((c.toNat : Int) = 41) else false then !decide ((c.toNat : Int) = 34) else false then !decide ((c.toNat : Int) = 92) else false
def inT (c : UInt8) : Bool := bif bif !decide ((c.toNat : Int) = 34) then !decide ((c.toNat : Int) = 92) else false then !decide ((c.toNat : Int) = 10) else false
theorem inD_eq (c : UInt8) : (!(decide ((c.toNat : Int) ≤ 32) || ([40, 41, 34, 92] : List UInt8).contains c)) = inD c :=
  bool_of_beq (u8_all (fun c => (!(decide ((c.toNat : Int) ≤ 32) || ([40, 41, 34, 92] : List UInt8).contains c)) == inD c) (by decide +kernel) c)
theorem inT_eq (c : UInt8) : (!([34, 92, 10] : List UInt8).contains c) = inT c :=
  bool_of_beq (u8_all (fun c => (!([34, 92, 10] : List UInt8).contains c) == inT c) (by decide +kernel) c)
theorem not_any (l : List UInt8) : (!l.any (fun x => ([34, 92, 10] : List UInt8).contains x)) = l.all inT := by
  induction l with
  | nil => rfl
  | cons c r ih => rw [List.any_cons, List.all_cons, Bool.not_or, ih, inT_eq]
theorem r114 (s cs : List UInt8) (h : s.length ≤ 4194304) (h2 : 2 ≤ cs.length) (h3 : cs.length ≤ 100) (h4 : cs.all (fun c => decide (c.toNat < 128)) = true) : RUN E 114 [.str s, .str cs] = some [.bool (s.any (cs.contains ·))] := by
  have e : RUN E 114 [.str s, .str cs] = xContainsAny [.str s, .str cs] := (RUN_eq _ _ _).trans (by kernel_rfl)
  rw [e]
  unfold xContainsAny
  simp only
  rw [dec_t h2, dec_t h3, dec_t h, h4, any_set]; rfl
theorem r113 {x : D} (hm : dmass x ≤ 1048576) : RUN E 113 [x] = some [.bool (!decide (D.toStr (D.cell x 3) = []) && (D.toStr (D.cell x 3)).all inD && (D.toStr (D.cell x 4)).all inT)] := by
  have h3 : (D.toStr (D.cell x 3)).length ≤ 1048576 := Nat.le_trans (cellS_le _ _) hm
  have h4 : (D.toStr (D.cell x 4)).length ≤ 1048576 := Nat.le_trans (cellS_le _ _) hm
  have lp : L113a 0 x = cond ((D.toStr (D.cell x 3)).all inD) (some [.bool ((D.toStr (D.cell x 4)).all inT)]) (some [.bool false]) := by
    refine allK (L := fun i => L113a i x) ?_ fun i hi => ?_
    · show L113a _ x = _
      rw [round113a, dec_f (by omega), cond_false, r114 _ _ (by omega) (by decide) (by decide) (by decide)]
      simp only [opt_s, List.getD_cons_zero, tB]
      congr 2
      congr 1
      exact not_any _
    · show L113a i x = _
      rw [round113a, dec_t (by omega), inb_nat hi, Int.toNat_natCast, nxt (by omega), enter104]
      simp only [Int.toNat_natCast, cond_true]
      rw [show ∀ c : UInt8, Nat.toUInt8 c.toNat = c from fun c => by simp, ← inD_eq]
      generalize (D.toStr (D.cell x 3)).getD i 0 = c
      rw [← has_iff]
      cases decide ((c.toNat : Int) ≤ 32) with
      | true => rfl
      | false =>
        simp only [cond_true, cond_false, opt_s, List.getD_cons_zero, tI, Bool.false_or]
        cases decide (0 ≤ Lib.indexByte [40, 41, 34, 92] c) <;> rfl
  rw [enter113, lp]
  cases decide (D.toStr (D.cell x 3) = []) <;> cases (D.toStr (D.cell x 3)).all inD <;> rfl
theorem r127 {x : D} (hm : dmass x ≤ 1048576) (e s l : Bool) (kind : Int) : RUN E 127 [.agg [.bool e, .bool s, .bool l, .int kind], x] =
    some [.bool ((!decide (D.toStr (D.cell x 3) = []) && (D.toStr (D.cell x 3)).all inD && (D.toStr (D.cell x 4)).all inT) && !(decide (kind = 10) && ((D.toStr (D.cell x 3)).contains 124 || (D.toStr (D.cell x 4)).contains 124)))] := by
  have h3 : (D.toStr (D.cell x 3)).length ≤ 1048576 := Nat.le_trans (cellS_le _ _) hm
  have h4 : (D.toStr (D.cell x 4)).length ≤ 1048576 := Nat.le_trans (cellS_le _ _) hm
  have lp2 : L127b 0 (.agg [.bool e, .bool s, .bool l, .int kind]) x = cond ((D.toStr (D.cell x 4)).all inT) (some [.bool (!decide (D.toStr (D.cell x 3) = []) && !(decide (kind = 10) && ((D.toStr (D.cell x 3)).contains 124 || (D.toStr (D.cell x 4)).contains 124)))]) (some [.bool false]) := by
    refine allK (L := fun i => L127b i _ x) ?_ fun i hi => ?_
    · show L127b _ _ x = _
      rw [round127b, dec_f (by omega), cond_false, r126, r126]
      cases decide (D.toStr (D.cell x 3) = []) <;> cases decide (kind = 10) <;> cases (D.toStr (D.cell x 3)).contains 124 <;> cases (D.toStr (D.cell x 4)).contains 124 <;> rfl
    · show L127b i _ x = _
      rw [round127b, dec_t (by omega), inb_nat hi, Int.toNat_natCast, nxt (by omega), enter137]
      simp only [cond_true, opt_s, List.getD_cons_zero, tB]
      unfold inT
      generalize (bif bif !decide ((((D.toStr (D.cell x 4)).getD i 0).toNat : Int) = 34) then !decide ((((D.toStr (D.cell x 4)).getD i 0).toNat : Int) = 92) else false then !decide ((((D.toStr (D.cell x 4)).getD i 0).toNat : Int) = 10) else false) = b
      cases b <;> rfl
  have lp1 : L127a 0 (.agg [.bool e, .bool s, .bool l, .int kind]) x = cond ((D.toStr (D.cell x 3)).all inD) (L127b 0 (.agg [.bool e, .bool s, .bool l, .int kind]) x) (some [.bool false]) := by
    refine allK (L := fun i => L127a i _ x) ?_ fun i hi => ?_
    · show L127a _ _ x = _
      rw [round127a, dec_f (by omega)]; rfl
    · show L127a i _ x = _
      rw [round127a, dec_t (by omega), inb_nat hi, Int.toNat_natCast, nxt (by omega), enter136]
      simp only [cond_true, opt_s, List.getD_cons_zero, tB]
      unfold inD
      generalize (bif bif bif bif decide (32 < (((D.toStr (D.cell x 3)).getD i 0).toNat : Int)) then !decide ((((D.toStr (D.cell x 3)).getD i 0).toNat : Int) = 40) else false then !decide ((((D.toStr (D.cell x 3)).getD i 0).toNat : Int) = 41) else false then !decide ((((D.toStr (D.cell x 3)).getD i 0).toNat : Int) = 34) else false then !decide ((((D.toStr (D.cell x 3)).getD i 0).toNat : Int) = 92) else false) = b
      cases b <;> rfl
  rw [enter127, lp1, lp2]
  cases decide (D.toStr (D.cell x 3) = []) <;> cases (D.toStr (D.cell x 3)).all inD <;> cases (D.toStr (D.cell x 4)).all inT <;> rfl
end chk
end Go.Proofs.YthbncndefigidaaDoor.mc

namespace Go.Proofs.YthbncndefigidaaDoor.mc
open Go.Proofs.YthbncndefigidaaDoor.DS
namespace chk
open check

theorem c0 (a : D) (r : List D) : D.cell (.agg (a :: r)) 0 = a := rfl
theorem c1 (a b : D) (r : List D) : D.cell (.agg (a :: b :: r)) 1 = b := rfl
theorem c2 (a b c : D) (r : List D) : D.cell (.agg (a :: b :: c :: r)) 2 = c := rfl
theorem c3 (a b c d : D) (r : List D) : D.cell (.agg (a :: b :: c :: d :: r)) 3 = d := rfl
theorem c4 (a b c d e : D) (r : List D) : D.cell (.agg (a :: b :: c :: d :: e :: r)) 4 = e := rfl
theorem r67 (s : List UInt8) (c : UInt8) : RUN E 67 [.str s, .str [c]] = some [.bool (s.contains c)] := by rw [enter67, has_iff]
theorem has_app (a b : List UInt8) (c : UInt8) : (a ++ b).contains c = (a.contains c || b.contains c) := by
  induction a with
  | nil => rfl
  | cons x r ih => rw [List.cons_append, List.contains_cons, List.contains_cons, ih, Bool.or_assoc]
theorem pos_ne {l : List D} : decide ((0 : Int) < (l.length : Int)) = !decide (l = []) := by
  cases l with
  | nil => rfl
  | cons a r => rw [dec_t (by simp only [List.length_cons]; omega), dec_f (by simp)]; rfl
theorem zero_ne {l : List D} : decide ((l.length : Int) = 0) = decide (l = []) := by
  cases l with
  | nil => rfl
  | cons a r => rw [dec_f (by simp only [List.length_cons]; omega), dec_f (by simp)]
def ok (p : Int) (x : D) : Bool := !brk (D.toInt (D.cell x 0)) && !(star p && star (D.toInt (D.cell x 0)))
def ec (p : Int) (l : List D) : Bool := ok p (l.getD 0 .no) && ok p (l.getD (l.length - 1) .no)
theorem ne_lenD {l : List D} (h : l ≠ []) : l.length ≠ 0 := fun e => h (List.eq_nil_of_length_eq_zero e)
theorem r112a {n : D} {ks : List D} (hk : D.toList (D.cell n 5) = ks) (hl : ks.length ≤ 1048576) {e s l b : Bool} {kind : Int} (hb : RUN E 91 [.list ks, .agg [.bool e, .bool s, .bool l, .int kind]] = some [.bool b]) :
    C112a n e s l kind = some [.bool (!decide (ks = []) && (ec (D.toInt (D.cell n 0)) ks && b))] := by
  rw [round112a, hk, zero_ne]
  by_cases hs : ks = []
  · subst hs; rfl
  · have h0 := ne_lenD hs
    rw [dec_f hs, len1 h0 (by omega), inb_nat (by omega : ks.length - 1 < ks.length), show inb 0 ks.length = true from inb_nat (i := 0) (by omega), hb]
    simp only [r89, r125, opt_s, cond_true, cond_false, List.getD_cons_zero, tB, Int.toNat_natCast]
    unfold ec ok
    generalize brk (D.toInt (D.cell (ks.getD 0 .no) 0)) = x1
    generalize brk (D.toInt (D.cell (ks.getD (ks.length - 1) .no) 0)) = x2
    generalize star (D.toInt (D.cell (ks.getD 0 .no) 0)) = y1
    generalize star (D.toInt (D.cell (ks.getD (ks.length - 1) .no) 0)) = y2
    generalize star (D.toInt (D.cell n 0)) = z
    cases x1 <;> cases x2 <;> cases y1 <;> cases y2 <;> cases z <;> cases b <;> rfl

/-- What is said of the inlines below. -/
def Below (k : Int) (ks : List D) : Prop := ∀ (e s l : Bool) (kind : Int), ∃ b b' : Bool, RUN E 91 [.list ks, .agg [.bool e, .bool s, .bool l, .int kind]] = some [.bool b] ∧
  RUN E 74 [.list ks, .int k, .agg [.bool e, .bool s, .bool l, .bool (decide (kind = 10)), .bool (decide (kind = 2))]] = some [.bool b'] ∧ (ks ≠ [] → b' = (ec k ks && b)) ∧ (ks = [] → b' = true ∧ b = true)
theorem inl {x : D} {k : Int} (hk : D.toInt (D.cell x 0) = k) (h11 : 11 ≤ k) (h18 : k ≤ 18) (hm : dmass x ≤ 1048576) (hc : k = 16 → D.toStr (D.cell x 3) = [] ∧ D.toStr (D.cell x 4) = []) (hl : k = 17 → D.toStr (D.cell x 2) = [])
    {ks : List D} (hks : D.toList (D.cell x 5) = ks) (hlen : ks.length ≤ 1048576) (IH : k = 14 ∨ k = 15 ∨ k = 17 → Below k ks) (e s l : Bool) (kind : Int) :
    ∃ c' : Bool, RUN E 96 [x, .agg [.bool e, .bool s, .bool l, .bool (decide (kind = 10)), .bool (decide (kind = 2))]] = some [.bool c'] ∧ RUN E 112 [x, .agg [.bool e, .bool s, .bool l, .int kind]] = some [.bool (c' && !(brk k && !decide (kind = 2)))] := by
  have h2 : (D.toStr (D.cell x 2)).length ≤ 1048576 := Nat.le_trans (cellS_le _ _) hm
  have h3 : (D.toStr (D.cell x 3)).length ≤ 1048576 := Nat.le_trans (cellS_le _ _) hm
  have h4 : (D.toStr (D.cell x 4)).length ≤ 1048576 := Nat.le_trans (cellS_le _ _) hm
  have hlim : decide ((D.toStr (D.cell x 3)).length + (D.toStr (D.cell x 4)).length ≤ lim) = true := lim_t (by omega)
  rw [enter96, enter112, lim_t (by omega), lim_t (by rw [List.length_append]; omega), r67]
  simp only [cond_true, opt_s, c0, c1, c2, c3, c4, tB, tI, List.getD_cons_zero, hk, hks, pos_ne]
  rcases (by omega : k = 11 ∨ k = 12 ∨ k = 13 ∨ k = 14 ∨ k = 15 ∨ k = 16 ∨ k = 17 ∨ k = 18) with h | h | h | h | h | h | h | h <;> subst h
  · refine ⟨_, rfl, ?_⟩
    cases decide (D.toStr (D.cell x 2) = []) <;> rfl
  · show ∃ c' : Bool, some [D.bool true] = some [.bool c'] ∧ some [D.bool (decide (kind = 2))] = some [.bool (c' && !(brk 12 && !decide (kind = 2)))]
    cases decide (kind = 2) <;> exact ⟨_, rfl, rfl⟩
  · show ∃ c' : Bool, some [D.bool true] = some [.bool c'] ∧ some [D.bool (decide (kind = 2))] = some [.bool (c' && !(brk 13 && !decide (kind = 2)))]
    cases decide (kind = 2) <;> exact ⟨_, rfl, rfl⟩
  · obtain ⟨b, b', g1, g2, g3, g4⟩ := IH (.inl rfl) true s l kind
    have hC := r112a hks hlen g1
    rw [hk] at hC
    show ∃ c' : Bool, (opt (cond (bif bif bif e then false else true then !decide (ks = []) else false then true else false) (RUN E 74 [.list ks, .int 14, .agg [.bool true, .bool s, .bool l, .bool (decide (kind = 10)), .bool (decide (kind = 2))]]) (some [])) fun ρ7 => some [D.bool (bif bif !e then !decide (ks = []) else false then D.toBool (List.getD ρ7 0 D.no) else false)]) = some [.bool c'] ∧
      cond e (some [D.bool false]) (C112a x true s l kind) = some [.bool (c' && !(brk 14 && !decide (kind = 2)))]
    rw [g2, hC]
    by_cases hs : ks = []
    · rw [dec_t hs]; cases e <;> exact ⟨_, rfl, rfl⟩
    · rw [dec_f hs, g3 hs]; cases e <;> cases ec 14 ks <;> cases b <;> exact ⟨_, rfl, rfl⟩
  · obtain ⟨b, b', g1, g2, g3, g4⟩ := IH (.inr (.inl rfl)) e true l kind
    have hC := r112a hks hlen g1
    rw [hk] at hC
    show ∃ c' : Bool, (opt (cond (bif bif bif s then false else true then !decide (ks = []) else false then true else false) (RUN E 74 [.list ks, .int 15, .agg [.bool e, .bool true, .bool l, .bool (decide (kind = 10)), .bool (decide (kind = 2))]]) (some [])) fun ρ7 => some [D.bool (bif bif !s then !decide (ks = []) else false then D.toBool (List.getD ρ7 0 D.no) else false)]) = some [.bool c'] ∧
      cond s (some [D.bool false]) (C112a x e true l kind) = some [.bool (c' && !(brk 15 && !decide (kind = 2)))]
    rw [g2, hC]
    by_cases hs : ks = []
    · rw [dec_t hs]; cases s <;> exact ⟨_, rfl, rfl⟩
    · rw [dec_f hs, g3 hs]; cases s <;> cases ec 15 ks <;> cases b <;> exact ⟨_, rfl, rfl⟩
  · obtain ⟨hd, hti⟩ := hc rfl
    rw [hd, hti]
    simp only [r67, enter104, r126, List.append_nil]
    generalize D.toStr (D.cell x 2) = t
    show ∃ c' : Bool, (opt (cond (bif bif decide (t = []) then false else true then true else false) (some [D.bool (t.contains 96)]) (some [])) fun ρ5 => some [D.bool (bif bif !decide (t = []) then !D.toBool (List.getD ρ5 0 D.no) else false then !bif t.contains 124 then decide (kind = 10) else false else false)]) = some [.bool c'] ∧
      (opt (cond (bif bif decide (t = []) then false else true then true else false) (some [D.int (Lib.indexByte t 96)]) (some [])) fun ρ2 =>
        opt (cond (bif bif bif decide (t = []) then false else true then decide (D.toInt (List.getD ρ2 0 D.no) < 0) else false then true else false) (some [D.bool (!(decide (kind = 10) && t.contains 124))]) (some [])) fun ρ3 =>
          some [D.bool (bif bif !decide (t = []) then decide (D.toInt (List.getD ρ2 0 D.no) < 0) else false then D.toBool (List.getD ρ3 0 D.no) else false)]) = some [.bool (c' && !(brk 16 && !decide (kind = 2)))]
    cases decide (t = []) with
    | true => exact ⟨_, rfl, rfl⟩
    | false =>
      simp only [cond_true, cond_false, opt_s, List.getD_cons_zero, tI, tB, has_lt]
      cases t.contains 96 <;> cases t.contains 124 <;> cases decide (kind = 10) <;> exact ⟨_, rfl, rfl⟩
  · have ht := hl rfl
    obtain ⟨b, b', g1, g2, g3, g4⟩ := IH (.inr (.inr rfl)) e s true kind
    have hC := r112a hks hlen g1
    rw [hk] at hC
    rw [ht]
    simp only [r113 hm, r127 hm, List.nil_append, has_app]
    generalize (!decide (D.toStr (D.cell x 3) = []) && (D.toStr (D.cell x 3)).all inD && (D.toStr (D.cell x 4)).all inT) = G
    generalize ((D.toStr (D.cell x 3)).contains 124 || (D.toStr (D.cell x 4)).contains 124) = H
    show ∃ c' : Bool, (opt (cond (bif bif l then false else true then true else false) (some [D.bool G]) (some [])) fun ρ9 =>
      opt (cond (bif bif bif bif bif l then false else true then D.toBool (List.getD ρ9 0 D.no) else false then bif bif H then decide (kind = 10) else false then false else true else false then !decide (ks = []) else false then true else false) (RUN E 74 [.list ks, .int 17, .agg [.bool e, .bool s, .bool true, .bool (decide (kind = 10)), .bool (decide (kind = 2))]]) (some [])) fun ρ10 =>
        some [D.bool (bif bif bif bif !l then D.toBool (List.getD ρ9 0 D.no) else false then !bif H then decide (kind = 10) else false else false then !decide (ks = []) else false then D.toBool (List.getD ρ10 0 D.no) else false)]) = some [.bool c'] ∧
      (opt (cond (bif l then false else true) (some [D.bool (G && !(decide (kind = 10) && H))]) (some [])) fun ρ6 =>
        cond (bif l then true else bif D.toBool (List.getD ρ6 0 D.no) then false else true) (some [D.bool false]) (C112a x e s true kind)) = some [.bool (c' && !(brk 17 && !decide (kind = 2)))]
    rw [g2, hC]
    by_cases hs : ks = []
    · rw [dec_t hs]; cases l <;> cases G <;> cases H <;> cases decide (kind = 10) <;> exact ⟨_, rfl, rfl⟩
    · rw [dec_f hs, g3 hs]; cases l <;> cases G <;> cases H <;> cases decide (kind = 10) <;> cases ec 17 ks <;> cases b <;> exact ⟨_, rfl, rfl⟩
  · have hA : RUN E 114 [.str (D.toStr (D.cell x 3) ++ D.toStr (D.cell x 4)), .str [91, 93, 96]] = some [.bool ((D.toStr (D.cell x 3) ++ D.toStr (D.cell x 4)).any (([91, 93, 96] : List UInt8).contains ·))] := r114 _ _ (by rw [List.length_append]; omega) (by decide) (by decide) (by decide)
    rw [hlim]
    simp only [r113 hm, r127 hm, r126, hA, has_app]
    generalize (!decide (D.toStr (D.cell x 3) = []) && (D.toStr (D.cell x 3)).all inD && (D.toStr (D.cell x 4)).all inT) = G
    generalize (D.toStr (D.cell x 2)).contains 124 = Ht
    generalize (D.toStr (D.cell x 3)).contains 124 = Hd
    generalize (D.toStr (D.cell x 4)).contains 124 = Hi
    generalize (D.toStr (D.cell x 3) ++ D.toStr (D.cell x 4)).any (([91, 93, 96] : List UInt8).contains ·) = A
    show ∃ c' : Bool, (opt (some [D.bool G]) fun ρ6 => cond true
        (opt (cond (bif bif l then true else false then bif bif D.toBool (List.getD ρ6 0 D.no) then bif bif Ht || Hd || Hi then decide (kind = 10) else false then false else true else false then true else false else false) (some [D.bool A]) (some [])) fun ρ8 =>
          some [D.bool (bif bif D.toBool (List.getD ρ6 0 D.no) then !bif Ht || Hd || Hi then decide (kind = 10) else false else false then !bif l then D.toBool (List.getD ρ8 0 D.no) else false else false)]) none) = some [.bool c'] ∧
      cond true (opt (cond (bif l then true else false) (some [D.bool A]) (some [])) fun ρ6 =>
        cond (bif l then D.toBool (List.getD ρ6 0 D.no) else false) (some [D.bool false])
          (opt (some [D.bool (G && !(decide (kind = 10) && (Hd || Hi)))]) fun ρ8 => opt (cond (bif D.toBool (List.getD ρ8 0 D.no) then true else false) (some [D.bool (!(decide (kind = 10) && Ht))]) (some [])) fun ρ9 => some [D.bool (bif D.toBool (List.getD ρ8 0 D.no) then D.toBool (List.getD ρ9 0 D.no) else false)])) none = some [.bool (c' && !(brk 18 && !decide (kind = 2)))]
    cases l <;> cases G <;> cases Ht <;> cases Hd <;> cases Hi <;> cases A <;> cases decide (kind = 10) <;> exact ⟨_, rfl, rfl⟩
end chk
end Go.Proofs.YthbncndefigidaaDoor.mc
