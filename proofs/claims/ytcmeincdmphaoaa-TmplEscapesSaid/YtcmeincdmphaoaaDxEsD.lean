/- The law TmplEscapes: the two loops alike. -/
import Derived.Test.YtcmeincdmphaoaaDxEsB
set_option linter.unusedVariables false
set_option linter.unusedSimpArgs false
namespace Go.Proofs.Ytcmeincdmphaoaa.es
open Go.Proofs.Ytcmeincdmphaoaa.DS
set_option linter.unusedVariables false
namespace esx
theorem u8_all (p : UInt8 → Bool) (h : (List.range 256).all (fun n => p (UInt8.ofNat n)) = true) (c : UInt8) : p c = true := by
  have := List.all_eq_true.1 h c.toNat (List.mem_range.2 c.toNat_lt)
  simpa using this
abbrev B := List UInt8
theorem any_cases (cs : B) : ∀ s : B, (Lib.indexAny s cs = -1 ∧ ∀ x ∈ s, cs.contains x = false) ∨ ∃ pre x post, s = pre ++ x :: post ∧ (∀ y ∈ pre, cs.contains y = false) ∧ cs.contains x = true ∧ Lib.indexAny s cs = (pre.length : Int) := by
  intro s
  induction s with
  | nil => exact .inl ⟨rfl, fun _ h => by cases h⟩
  | cons b l ih =>
    rw [Lib.indexAny]
    cases hb : cs.contains b with
    | true => exact .inr ⟨[], b, l, rfl, fun _ h => (by cases h), hb, rfl⟩
    | false =>
      rcases ih with ⟨h1, h2⟩ | ⟨pre, x, post, h1, h2, h3, h4⟩
      · refine .inl ⟨by rw [h1]; rfl, fun x hx => ?_⟩
        rcases List.mem_cons.1 hx with rfl | hx
        · exact hb
        · exact h2 x hx
      · refine .inr ⟨b :: pre, x, post, by rw [h1]; rfl, fun y hy => ?_, h3, ?_⟩
        · rcases List.mem_cons.1 hy with rfl | hy
          · exact hb
          · exact h2 y hy
        · rw [h4]
          have : ((pre.length : Int) == -1) = false := by simp
          rw [this]; simp
theorem idx_first {c : UInt8} {pre post : B} (h : c ∉ pre) : Lib.indexByte (pre ++ c :: post) c = (pre.length : Int) := by
  induction pre with
  | nil => simp [Lib.indexByte]
  | cons b l ih =>
    have hb : (b == c) = false := by simp only [beq_eq_false_iff_ne]; rintro rfl; exact h List.mem_cons_self
    rw [List.cons_append, Lib.indexByte, hb, ih fun hm => h (List.mem_cons_of_mem _ hm)]
    have : ((l.length : Int) == -1) = false := by simp
    rw [this]; simp
theorem idx_late {c x : UInt8} {pre post : B} (h : c ∉ pre) (hx : ¬ x = c) : Lib.indexByte (pre ++ x :: post) c < 0 ∨ (pre.length : Int) < Lib.indexByte (pre ++ x :: post) c := by
  rcases idx_cases c (pre ++ x :: post) with ⟨h1, _⟩ | ⟨p2, q2, he, hn, hi⟩
  · left; omega
  · right
    rw [hi]
    rcases Nat.lt_or_ge pre.length p2.length with hl | hl
    · omega
    · exfalso
      have hg : (pre ++ x :: post)[p2.length]? = some c := by rw [he]; simp
      rcases Nat.lt_or_ge p2.length pre.length with hl2 | hl2
      · rw [List.getElem?_append_left hl2] at hg
        exact h (List.mem_of_getElem? hg)
      · have : p2.length = pre.length := by omega
        rw [this] at hg; simp at hg; exact hx hg
theorem any_first {cs : B} {x : UInt8} {pre post : B} (h : ∀ y ∈ pre, cs.contains y = false) (hx : cs.contains x = true) : Lib.indexAny (pre ++ x :: post) cs = (pre.length : Int) := by
  induction pre with
  | nil => rw [List.nil_append, Lib.indexAny, hx]; rfl
  | cons b l ih =>
    rw [List.cons_append, Lib.indexAny, h b List.mem_cons_self, ih fun y hy => h y (List.mem_cons_of_mem _ hy)]
    have : ((l.length : Int) == -1) = false := by simp
    rw [this]; simp
theorem any_late {cs : B} {pre post : B} (h : ∀ y ∈ pre, cs.contains y = false) : Lib.indexAny (pre ++ post) cs < 0 ∨ (pre.length : Int) ≤ Lib.indexAny (pre ++ post) cs := by
  rcases any_cases cs (pre ++ post) with ⟨h1, _⟩ | ⟨p2, x, q2, he, hn, hc, hi⟩
  · left; omega
  · right
    rw [hi]
    rcases Nat.lt_or_ge p2.length pre.length with hl | hl
    · exfalso
      have hg : (pre ++ post)[p2.length]? = some x := by rw [he]; simp
      rw [List.getElem?_append_left hl] at hg
      have := h x (List.mem_of_getElem? hg)
      rw [this] at hc; cases hc
    · omega
/-- The scheme, where a colon comes ahead of the other signs. -/
def sch : B → Option B
  | [] => none
  | b :: l => bif decide (b = 58) then some [] else bif ([47, 63, 35] : B).contains b then none else (sch l).map (b :: ·)
theorem sch_pre : ∀ (pre r : B), (∀ y ∈ pre, ([58, 47, 63, 35] : B).contains y = false) → sch (pre ++ r) = (sch r).map (pre ++ ·) := by
  intro pre
  induction pre with
  | nil => intro r _; show sch r = _; cases sch r <;> rfl
  | cons b l ih =>
    intro r h
    have hb := h b List.mem_cons_self
    have h1 : ¬ b = 58 := by rintro rfl; revert hb; decide
    have h2 : ([47, 63, 35] : B).contains b = false := by
      simp only [List.contains_cons, Bool.or_eq_false_iff] at hb ⊢
      exact hb.2
    rw [List.cons_append, sch, decide_eq_false h1, h2, ih r fun y hy => h y (List.mem_cons_of_mem _ hy)]
    cases sch r <;> rfl
theorem e9 (s : B) (c : Int) : RUN E 9 [.str s, .int c] = xIndexByte [.str s, .int c] := (RUN_eq _ _ _).trans (by kernel_rfl)
theorem e15 (s t : B) : RUN E 15 [.str s, .str t] = xIndexAny [.str s, .str t] := (RUN_eq _ _ _).trans (by kernel_rfl)
theorem e10 (s : B) : RUN E 10 [.str s] = xEscape [.str s] := (RUN_eq _ _ _).trans (by kernel_rfl)
theorem low16 (s : B) (h : s.length ≤ 1048576) : RUN E 16 [.str s] = some [.str (s.map low1)] := by rw [enter16]; exact lower_loop round16a s (by omega)
theorem low21 (s : B) (h : s.length ≤ 1048576) : RUN E 21 [.str s] = some [.str (s.map low1)] := by rw [enter21]; exact lower_loop round21a s (by omega)
def badS (p : B) : Bool := !(decide (p.map low1 = ([104, 116, 116, 112] : B)) || decide (p.map low1 = ([104, 116, 116, 112, 115] : B)) || decide (p.map low1 = ([109, 97, 105, 108, 116, 111] : B)))
def bad (s : B) : Bool := match sch s with | none => false | some p => badS p
theorem get_mid (pre post : B) (x : UInt8) : (pre ++ x :: post).getD pre.length 0 = x := by simp [List.getD_eq_getElem?_getD]
theorem take_mid (pre post : B) : (pre ++ post).take pre.length = pre := by simp
theorem sch_no {s : B} (h : ∀ x ∈ s, ([58, 47, 63, 35] : B).contains x = false) : sch s = none := by
  have := sch_pre s [] h
  rw [List.append_nil] at this; rw [this]; rfl
theorem r6 (s : B) (h : s.length ≤ 200000) : RUN E 6 [.str s] = some [.bool (bad s)] := by
  rw [enter6, e15]
  have hx : xIndexAny [.str s, .str ([58, 47, 63, 35] : B)] = some [.int (Lib.indexAny s [58, 47, 63, 35])] := by
    show cond _ _ _ = _
    rw [show (decide (2 ≤ ([58, 47, 63, 35] : B).length) && (decide (([58, 47, 63, 35] : B).length ≤ 100) && (decide (s.length ≤ 1073741824) && ([58, 47, 63, 35] : B).all fun c => decide (c.toNat < 128)))) = true by rw [dec_t (p := s.length ≤ 1073741824) (by omega)]; decide]
    rfl
  rw [hx]
  simp only [opt_s, List.getD_cons_zero, tI]
  rcases any_cases [58, 47, 63, 35] s with ⟨h1, h2⟩ | ⟨pre, x, post, rfl, h2, h3, h4⟩
  · rw [h1]
    have : bad s = false := by unfold bad; rw [sch_no h2]
    rw [this]
    simp only [show decide ((-1 : Int) < 0) = true from rfl, inb_f (n := s.length) (.inl (by omega : (-1 : Int) < 0))]
    rfl
  · rw [h4]
    have hb : inb (pre.length : Int) (pre ++ x :: post).length = true := inb_nat (by simp)
    rw [hb, Int.toNat_natCast, get_mid, dec_f (p := (pre.length : Int) < 0) (by omega)]
    have hs := sch_pre pre (x :: post) h2
    by_cases hx58 : x = 58
    · subst hx58
      rw [sch] at hs
      simp only [decide_true, cond_true, Option.map_some, List.append_nil] at hs
      have hb2 : bad (pre ++ 58 :: post) = badS pre := by unfold bad; rw [hs]
      rw [hb2, cutOk_hi (by simp), cut_hi, take_mid, low16 pre (by simp at h; omega)]
      simp only [opt_s, List.getD_cons_zero, tS]
      unfold badS
      cases decide (pre.map low1 = ([104, 116, 116, 112] : B)) <;> cases decide (pre.map low1 = ([104, 116, 116, 112, 115] : B)) <;> cases decide (pre.map low1 = ([109, 97, 105, 108, 116, 111] : B)) <;> rfl
    · have h58 : ¬ ((x.toNat : Int) = 58) := fun e => hx58 (UInt8.toNat_inj.1 (by show x.toNat = 58; omega))
      have h3' : ([47, 63, 35] : B).contains x = true := by
        simp only [List.contains_cons, Bool.or_eq_true] at h3 ⊢
        rcases h3 with h3 | h3
        · exact absurd (eq_of_beq h3) hx58
        · exact h3
      rw [sch, decide_eq_false hx58, h3'] at hs
      have hb2 : bad (pre ++ x :: post) = false := by unfold bad; rw [hs]; rfl
      rw [hb2, dec_f h58]
      rfl
theorem r11 (s : B) (h : s.length ≤ 200000) : RUN E 11 [.str s] = some [.bool (!(bad s))] := by
  rw [enter11, e15, e9]
  have hx : xIndexAny [.str s, .str ([47, 63, 35] : B)] = some [.int (Lib.indexAny s [47, 63, 35])] := by
    show cond _ _ _ = _
    rw [show (decide (2 ≤ ([47, 63, 35] : B).length) && (decide (([47, 63, 35] : B).length ≤ 100) && (decide (s.length ≤ 1073741824) && ([47, 63, 35] : B).all fun c => decide (c.toNat < 128)))) = true by rw [dec_t (p := s.length ≤ 1073741824) (by omega)]; decide]
    rfl
  have h9 : xIndexByte [.str s, .int 58] = some [.int (Lib.indexByte s 58)] := rfl
  rw [hx, h9]
  simp only [opt_s, List.getD_cons_zero, tI]
  rcases any_cases [58, 47, 63, 35] s with ⟨h1, h2⟩ | ⟨pre, x, post, rfl, h2, h3, h4⟩
  · have hbad : bad s = false := by unfold bad; rw [sch_no h2]
    rcases idx_cases 58 s with ⟨q1, q2⟩ | ⟨pre, post, rfl, q2, q3⟩
    · rw [q1, hbad, dec_t (by omega)]; rfl
    · have := h2 58 (by simp); exact absurd this (by decide)
  · have hs := sch_pre pre (x :: post) h2
    have hpre : ∀ y ∈ pre, ¬ y = 58 ∧ ([47, 63, 35] : B).contains y = false := by
      intro y hy
      have := h2 y hy
      refine ⟨by rintro rfl; revert this; decide, ?_⟩
      simp only [List.contains_cons, Bool.or_eq_false_iff] at this ⊢
      exact this.2
    by_cases hx58 : x = 58
    · subst hx58
      rw [sch] at hs
      simp only [decide_true, cond_true, Option.map_some, List.append_nil] at hs
      have hb2 : bad (pre ++ 58 :: post) = badS pre := by unfold bad; rw [hs]
      have hc : Lib.indexByte (pre ++ 58 :: post) 58 = (pre.length : Int) := idx_first (fun hm => (hpre 58 hm).1 rfl)
      have ho : Lib.indexAny (pre ++ 58 :: post) [47, 63, 35] < 0 ∨ (pre.length : Int) ≤ Lib.indexAny (pre ++ 58 :: post) [47, 63, 35] := any_late (fun y hy => (hpre y hy).2)
      have hoo : (bif decide (0 ≤ Lib.indexAny (pre ++ 58 :: post) [47, 63, 35]) then decide (Lib.indexAny (pre ++ 58 :: post) [47, 63, 35] < (pre.length : Int)) else false) = false := by
        rcases ho with ho | ho
        · rw [dec_f (by omega)]; rfl
        · rw [dec_f (p := Lib.indexAny (pre ++ 58 :: post) [47, 63, 35] < (pre.length : Int)) (by omega)]; cases decide (0 ≤ Lib.indexAny (pre ++ 58 :: post) [47, 63, 35]) <;> rfl
      rw [hc, hoo, hb2, cutOk_hi (by simp), cut_hi, take_mid, low21 pre (by simp at h; omega), dec_f (by omega)]
      simp only [opt_s, List.getD_cons_zero, tS]
      unfold badS
      cases decide (pre.map low1 = ([104, 116, 116, 112] : B)) <;> cases decide (pre.map low1 = ([104, 116, 116, 112, 115] : B)) <;> cases decide (pre.map low1 = ([109, 97, 105, 108, 116, 111] : B)) <;> rfl
    · have h3' : ([47, 63, 35] : B).contains x = true := by
        simp only [List.contains_cons, Bool.or_eq_true] at h3 ⊢
        rcases h3 with h3 | h3
        · exact absurd (eq_of_beq h3) hx58
        · exact h3
      rw [sch, decide_eq_false hx58, h3'] at hs
      have hb2 : bad (pre ++ x :: post) = false := by unfold bad; rw [hs]; rfl
      have ho : Lib.indexAny (pre ++ x :: post) [47, 63, 35] = (pre.length : Int) := any_first (fun y hy => (hpre y hy).2) h3'
      have hc : Lib.indexByte (pre ++ x :: post) 58 < 0 ∨ (pre.length : Int) < Lib.indexByte (pre ++ x :: post) 58 := idx_late (fun hm => (hpre 58 hm).1 rfl) hx58
      rw [ho, hb2]
      rcases hc with hc | hc
      · rw [dec_t hc]; rfl
      · rw [dec_f (by omega), dec_t (p := (0 : Int) ≤ (pre.length : Int)) (by omega), dec_t hc]; rfl
/-! ### The bytes of an address -/
def hexes : B := [48, 49, 50, 51, 52, 53, 54, 55, 56, 57, 65, 66, 67, 68, 69, 70]
def letC (x : Int) : Bool := (decide (97 ≤ x) && decide (x ≤ 122)) || (decide (65 ≤ x) && decide (x ≤ 90))
def digC (x : Int) : Bool := decide (48 ≤ x) && decide (x ≤ 57)
def keepC (f : Bool) (c : UInt8) : Bool := (letC c.toNat || digC c.toNat || decide (0 ≤ Lib.indexByte [45, 95, 46, 126] c)) || (f && decide (0 ≤ Lib.indexByte [58, 47, 63, 35, 61, 38, 37, 43, 44, 64] c))
def hexC (c : UInt8) : B := [37, hexes.getD (c.toNat / 16) 0, hexes.getD (c.toNat % 16) 0]
def addrC (f : Bool) (c : UInt8) : B := bif keepC f c then [c] else hexC c
def addrT (f : Bool) (s : B) : B := s.flatMap (addrC f)
theorem r7 (x : Int) : RUN E 7 [.int x] = some [.bool (letC x)] := by
  rw [enter7, enter17]
  simp only [opt_s, List.getD_cons_zero, tB]
  unfold letC
  cases decide (97 ≤ x) <;> cases decide (x ≤ 122) <;> cases decide (65 ≤ x) <;> cases decide (x ≤ 90) <;> rfl
theorem r12 (x : Int) : RUN E 12 [.int x] = some [.bool (letC x)] := by
  rw [enter12]
  unfold letC
  cases decide (97 ≤ x) <;> cases decide (x ≤ 122) <;> cases decide (65 ≤ x) <;> cases decide (x ≤ 90) <;> rfl
theorem r8 (x : Int) : RUN E 8 [.int x] = some [.bool (digC x)] := by
  rw [enter8]; unfold digC
  cases decide (48 ≤ x) <;> cases decide (x ≤ 57) <;> rfl
theorem r13 (x : Int) : RUN E 13 [.int x] = some [.bool (digC x)] := by
  rw [enter13]; unfold digC
  cases decide (48 ≤ x) <;> cases decide (x ≤ 57) <;> rfl
theorem r9 (s : B) (c : UInt8) : RUN E 9 [.str s, .int (c.toNat : Int)] = some [.int (Lib.indexByte s c)] := by
  rw [e9]
  show some [D.int (Lib.indexByte s ((c.toNat : Int)).toNat.toUInt8)] = _
  simp
theorem hex1 (c : UInt8) : (inb (Int.fdiv (c.toNat : Int) (2 ^ min (Int.toNat 4) (IntKind.bits IntKind.u8))) 16 && inb (IntKind.wrap IntKind.u8 (↑(BitVec.toNat (BitVec.ofInt (IntKind.bits IntKind.u8) (c.toNat : Int) &&& BitVec.ofInt (IntKind.bits IntKind.u8) 15)) : Int)) 16 &&
    (Nat.beq (Int.toNat (Int.fdiv (c.toNat : Int) (2 ^ min (Int.toNat 4) (IntKind.bits IntKind.u8)))) (c.toNat / 16) && Nat.beq (Int.toNat (IntKind.wrap IntKind.u8 (↑(BitVec.toNat (BitVec.ofInt (IntKind.bits IntKind.u8) (c.toNat : Int) &&& BitVec.ofInt (IntKind.bits IntKind.u8) 15)) : Int))) (c.toNat % 16))) = true :=
  u8_all (fun c => inb (Int.fdiv (c.toNat : Int) (2 ^ min (Int.toNat 4) (IntKind.bits IntKind.u8))) 16 && inb (IntKind.wrap IntKind.u8 (↑(BitVec.toNat (BitVec.ofInt (IntKind.bits IntKind.u8) (c.toNat : Int) &&& BitVec.ofInt (IntKind.bits IntKind.u8) 15)) : Int)) 16 &&
    (Nat.beq (Int.toNat (Int.fdiv (c.toNat : Int) (2 ^ min (Int.toNat 4) (IntKind.bits IntKind.u8)))) (c.toNat / 16) && Nat.beq (Int.toNat (IntKind.wrap IntKind.u8 (↑(BitVec.toNat (BitVec.ofInt (IntKind.bits IntKind.u8) (c.toNat : Int) &&& BitVec.ofInt (IntKind.bits IntKind.u8) 15)) : Int))) (c.toNat % 16))) (by decide +kernel) c
theorem hex2 (c : UInt8) : (cutOk 16 (some (IntKind.wrap IntKind.u8 (Int.tdiv (c.toNat : Int) 16))) (some (IntKind.wrap IntKind.u8 (IntKind.wrap IntKind.u8 (Int.tdiv (c.toNat : Int) 16) + 1))) &&
    (cutOk 16 (some (Int.tmod (c.toNat : Int) 16)) (some (IntKind.wrap IntKind.u8 (Int.tmod (c.toNat : Int) 16 + 1))) &&
    decide (cutL hexes (some (IntKind.wrap IntKind.u8 (Int.tdiv (c.toNat : Int) 16))) (some (IntKind.wrap IntKind.u8 (IntKind.wrap IntKind.u8 (Int.tdiv (c.toNat : Int) 16) + 1))) = [hexes.getD (c.toNat / 16) 0] ∧ cutL hexes (some (Int.tmod (c.toNat : Int) 16)) (some (IntKind.wrap IntKind.u8 (Int.tmod (c.toNat : Int) 16 + 1))) = [hexes.getD (c.toNat % 16) 0]))) = true :=
  u8_all (fun c => cutOk 16 (some (IntKind.wrap IntKind.u8 (Int.tdiv (c.toNat : Int) 16))) (some (IntKind.wrap IntKind.u8 (IntKind.wrap IntKind.u8 (Int.tdiv (c.toNat : Int) 16) + 1))) &&
    (cutOk 16 (some (Int.tmod (c.toNat : Int) 16)) (some (IntKind.wrap IntKind.u8 (Int.tmod (c.toNat : Int) 16 + 1))) &&
    decide (cutL hexes (some (IntKind.wrap IntKind.u8 (Int.tdiv (c.toNat : Int) 16))) (some (IntKind.wrap IntKind.u8 (IntKind.wrap IntKind.u8 (Int.tdiv (c.toNat : Int) 16) + 1))) = [hexes.getD (c.toNat / 16) 0] ∧ cutL hexes (some (Int.tmod (c.toNat : Int) 16)) (some (IntKind.wrap IntKind.u8 (Int.tmod (c.toNat : Int) 16 + 1))) = [hexes.getD (c.toNat % 16) 0]))) (by decide +kernel) c
end esx
end Go.Proofs.Ytcmeincdmphaoaa.es

namespace Go.Proofs.Ytcmeincdmphaoaa.es
open Go.Proofs.Ytcmeincdmphaoaa.DS
set_option linter.unusedVariables false
namespace esx
theorem addr_len (f : Bool) (s : B) : (addrT f s).length ≤ 3 * s.length := by
  induction s with
  | nil => simp [addrT]
  | cons c s ih =>
    have h : addrT f (c :: s) = addrC f c ++ addrT f s := by simp [addrT]
    have hc : (addrC f c).length ≤ 3 := by unfold addrC hexC; cases keepC f c <;> simp
    rw [h, List.length_append, List.length_cons]; omega
theorem addr_snoc (f : Bool) {s : B} {i : Nat} (h : i < s.length) : addrT f (s.take (i + 1)) = addrT f (s.take i) ++ addrC f (s.getD i 0) := by
  rw [take_snoc 0 h]; simp [addrT]
theorem esc14 (s : B) (h : s.length ≤ 1048576) : RUN E 14 [.str s] = some [.str (escT s)] := by
  have key : ∀ n i : Nat, i + n = s.length → L14a s (escT (s.take i)) (i : Int) = some [.str (escT s)] := by
    intro n
    induction n with
    | zero =>
      intro i hi
      have : i = s.length := by omega
      subst this
      rw [round14a, dec_f (by omega), List.take_length]; rfl
    | succ n ih =>
      intro i hi
      have hil : i < s.length := by omega
      have ht := take_snoc (0 : UInt8) hil
      have hs : escT (s.take (i + 1)) = escT (s.take i) ++ escB (s.getD i 0) := by rw [ht]; simp [escT]
      have hl := escT_len (s.take i)
      rw [List.length_take] at hl
      have nx := ih (i + 1) (by omega)
      rw [hs] at nx
      rw [round14a, dec_t (by omega), inb_nat hil, Int.toNat_natCast, nxt (by omega), cutOk_both (by omega) (by omega), cut_both, sub_one 0 hil]
      generalize s.getD i 0 = c at *
      have hcc : ∀ k : UInt8, decide ((c.toNat : Int) = (k.toNat : Int)) = decide (c = k) := by
        intro k
        by_cases hk : c = k
        · subst hk; simp
        · rw [dec_f hk, dec_f]; intro e; exact hk (UInt8.toNat_inj.1 (by omega))
      rw [show (38 : Int) = ((38 : UInt8).toNat : Int) from rfl, show (60 : Int) = ((60 : UInt8).toNat : Int) from rfl, show (62 : Int) = ((62 : UInt8).toNat : Int) from rfl, show (34 : Int) = ((34 : UInt8).toNat : Int) from rfl, hcc, hcc, hcc, hcc]
      rw [lim_t (by simp; omega), lim_t (by simp; omega), lim_t (by simp; omega), lim_t (by simp; omega), lim_t (by simp; omega)]
      unfold escB at nx
      by_cases h1 : c = 38
      · rw [if_pos h1] at nx; rw [dec_t h1]; exact nx
      · rw [if_neg h1] at nx; rw [dec_f h1]
        by_cases h2 : c = 60
        · rw [if_pos h2] at nx; rw [dec_t h2]; exact nx
        · rw [if_neg h2] at nx; rw [dec_f h2]
          by_cases h3 : c = 62
          · rw [if_pos h3] at nx; rw [dec_t h3]; exact nx
          · rw [if_neg h3] at nx; rw [dec_f h3]
            by_cases h4 : c = 34
            · rw [if_pos h4] at nx; rw [dec_t h4]; exact nx
            · rw [if_neg h4] at nx; rw [dec_f h4]; exact nx
  rw [enter14]
  have := key s.length 0 (by omega)
  simpa [escT] using this
theorem loop4 (s : B) (f : Bool) (h : s.length ≤ 200000) : L4a s f 0 [] = some [.str (escT (addrT f s))] := by
  have key : ∀ n i : Nat, i + n = s.length → L4a s f (i : Int) (bytesD (addrT f (s.take i))) = some [.str (escT (addrT f s))] := by
    intro n
    induction n with
    | zero =>
      intro i hi
      have : i = s.length := by omega
      subst this
      have hl := addr_len f s
      rw [round4a, dec_f (by omega), List.take_length, dBytes_bytesD, e10]
      have hx : xEscape [.str (addrT f s)] = some [.str (escT (addrT f s))] := by
        show cond _ _ _ = _
        rw [dec_t (by omega)]; rfl
      rw [hx]; rfl
    | succ n ih =>
      intro i hi
      have hil : i < s.length := by omega
      have nx := ih (i + 1) (by omega)
      rw [addr_snoc f hil, bytesD_append] at nx
      have hl := addr_len f (s.take i)
      rw [List.length_take] at hl
      rw [round4a, dec_t (by omega), inb_nat hil, Int.toNat_natCast, nxt (by omega)]
      generalize s.getD i 0 = c at *
      have hx := hex1 c
      simp only [Bool.and_eq_true] at hx
      obtain ⟨⟨x1, x2⟩, x3, x4⟩ := hx
      rw [show (([48, 49, 50, 51, 52, 53, 54, 55, 56, 57, 65, 66, 67, 68, 69, 70] : List UInt8)).length = 16 from rfl, x1, x2, Nat.eq_of_beq_eq_true x3, Nat.eq_of_beq_eq_true x4]
      rw [fit_t (by rw [bytesD_len]; simp; omega), fit_t (by rw [bytesD_len]; simp; omega)]
      simp only [r7, r8, r9, opt_s, List.getD_cons_zero, tI, tB, cond_true]
      have hk : bytesD (addrC f c) = bif keepC f c then [D.int (c.toNat : Int)] else [D.int 37, D.int ((hexes.getD (c.toNat / 16) 0).toNat : Int), D.int ((hexes.getD (c.toNat % 16) 0).toNat : Int)] := by
        unfold addrC hexC; cases keepC f c <;> rfl
      rw [hk] at nx
      unfold keepC at nx
      generalize letC c.toNat = a at *
      generalize digC c.toNat = b at *
      generalize Lib.indexByte [45, 95, 46, 126] c = i1 at *
      generalize Lib.indexByte [58, 47, 63, 35, 61, 38, 37, 43, 44, 64] c = i2 at *
      cases a <;> cases b <;> cases f <;> cases hd : decide (0 ≤ i1) <;> cases he : decide (0 ≤ i2) <;>
        simp only [hd, he, Bool.or_true, Bool.true_or, Bool.or_false, Bool.false_or, Bool.and_true, Bool.true_and, Bool.false_and, Bool.and_false, cond_true, cond_false, opt_s, List.getD_cons_zero, tI, tB, List.getD_nil] at nx ⊢ <;> exact nx
  have := key s.length 0 (by omega)
  simpa [addrT, bytesD] using this
theorem loop5 (s : B) (f : Bool) (h : s.length ≤ 200000) : L5a s f [] 0 = some [.str (escT (addrT f s))] := by
  have key : ∀ n i : Nat, i + n = s.length → L5a s f (addrT f (s.take i)) (i : Int) = some [.str (escT (addrT f s))] := by
    intro n
    induction n with
    | zero =>
      intro i hi
      have : i = s.length := by omega
      subst this
      have hl := addr_len f s
      rw [round5a, dec_f (by omega), List.take_length, esc14 _ (by omega)]; rfl
    | succ n ih =>
      intro i hi
      have hil : i < s.length := by omega
      have nx := ih (i + 1) (by omega)
      rw [addr_snoc f hil] at nx
      have hl := addr_len f (s.take i)
      rw [List.length_take] at hl
      rw [round5a, dec_t (by omega), inb_nat hil, Int.toNat_natCast, nxt (by omega), cutOk_both (by omega) (by omega), cut_both, sub_one 0 hil]
      generalize s.getD i 0 = c at *
      have hx := hex2 c
      simp only [Bool.and_eq_true, decide_eq_true_eq] at hx
      obtain ⟨x1, x2, x3, x4⟩ := hx
      rw [show (([48, 49, 50, 51, 52, 53, 54, 55, 56, 57, 65, 66, 67, 68, 69, 70] : List UInt8)) = hexes from rfl, show hexes.length = 16 from rfl, x1, x2, x3, x4]
      rw [lim_t (by simp; omega), lim_t (by simp), lim_t (by simp), lim_t (by simp; omega)]
      simp only [r12, r13, r9, opt_s, List.getD_cons_zero, tI, tB, cond_true]
      unfold addrC keepC hexC at nx
      generalize letC c.toNat = a at *
      generalize digC c.toNat = b at *
      generalize Lib.indexByte [45, 95, 46, 126] c = i1 at *
      generalize Lib.indexByte [58, 47, 63, 35, 61, 38, 37, 43, 44, 64] c = i2 at *
      cases a <;> cases b <;> cases f <;> cases hd : decide (0 ≤ i1) <;> cases he : decide (0 ≤ i2) <;>
        simp only [hd, he, Bool.or_true, Bool.true_or, Bool.or_false, Bool.false_or, Bool.and_true, Bool.true_and, Bool.false_and, Bool.and_false, cond_true, cond_false, opt_s, List.getD_cons_zero, tI, tB, List.getD_nil] at nx ⊢ <;> exact nx
  have := key s.length 0 (by omega)
  simpa [addrT] using this
theorem law {M : Mem} {v0 v1 : Value} {s : B} {f : Bool} (_ : Rep E.tt M .str v0 (.str s)) (_ : Rep E.tt M .bool v1 (.bool f)) : RUN E 3 [.str s, .bool f] = some [.bool true] := by
  rw [enter3]
  by_cases h : s.length ≤ 200000
  · have h4 : RUN E 4 [.str s, .bool f] = some [.str (bif f && bad s then [35] else escT (addrT f s))] := by
      rw [enter4, r6 s h, loop4 s f h]
      cases f <;> cases bad s <;> rfl
    have h5 : RUN E 5 [.str s, .bool f] = some [.str (bif f && bad s then [35] else escT (addrT f s))] := by
      rw [enter5, r11 s h, loop5 s f h]
      cases f <;> cases bad s <;> rfl
    rw [h4, h5, dec_f (by omega)]
    simp [opt_s, tS]
  · rw [dec_t (by omega)]; rfl
end esx
end Go.Proofs.Ytcmeincdmphaoaa.es
