/- Small laws for the equations. -/
import Derived.Test.YtjofkhdnidjleabDoorDtK
import Derived.Lib.Bytealg
set_option linter.unusedVariables false
set_option linter.unusedSimpArgs false
namespace Go.Proofs.YtjofkhdnidjleabDoor.DS

/-! Small laws for the equations. -/

theorem inb_nat {i n : Nat} (h : i < n) : inb (i : Int) n = true := by unfold inb; simp; omega
theorem inb_iff {i : Int} {n : Nat} : inb i n = true ↔ 0 ≤ i ∧ i < (n : Int) := by unfold inb; simp
theorem wrap_id {i : Int} (h0 : -9223372036854775808 ≤ i) (h1 : i ≤ 9223372036854775807) : IntKind.i64.wrap i = i := wrap64 h0 h1
theorem fitL_le {n m : Nat} (h : n + m ≤ lim) : fitL n m = true := by unfold fitL; simpa using h
theorem dec_t {p : Prop} [Decidable p] (h : p) : decide p = true := by simp [h]
theorem dec_f {p : Prop} [Decidable p] (h : ¬ p) : decide p = false := by simp [h]
theorem bif_id (b : Bool) : (bif b then true else false) = b := by cases b <;> rfl
theorem bif_not (b : Bool) : (bif b then false else true) = !b := by cases b <;> rfl
theorem getD_eq {α : Type} (l : List α) (i : Nat) (d : α) (h : i < l.length) : l.getD i d = l[i] := by
  simp [List.getD_eq_getElem?_getD, List.getElem?_eq_getElem h]
theorem lim_val : lim = 68719476736 := rfl


/-! Small laws for plain proofs over the equations: data, indices, bytes, cuts. -/

theorem opt_s {α β : Type} (a : α) (f : α → Option β) : opt (some a) f = f a := rfl
theorem tI (n : Int) : D.toInt (.int n) = n := rfl
theorem tS (s : List UInt8) : D.toStr (.str s) = s := rfl
theorem tL (l : List D) : D.toList (.list l) = l := rfl
theorem tB (b : Bool) : D.toBool (.bool b) = b := rfl
theorem bt (a b : Bool) : (bif true then a else b) = a := rfl
theorem bf (a b : Bool) : (bif false then a else b) = b := rfl
theorem b_and (a b : Bool) : (bif a then b else false) = (a && b) := by cases a <;> rfl
theorem b_or (a b : Bool) : (bif a then true else b) = (a || b) := by cases a <;> rfl
theorem nxt {i : Nat} (h : i ≤ 4611686018427387904) : IntKind.wrap .i64 ((i : Int) + 1) = ((i + 1 : Nat) : Int) := by rw [wrap_id (by omega) (by omega)]; omega
theorem fit_t {n m : Nat} (h : n + m ≤ 68719476736) : fitL n m = true := fitL_le (by rw [lim_val]; exact h)
theorem lim_t {n m : Nat} (h : n + m ≤ 68719476736) : decide (n + m ≤ lim) = true := dec_t (by rw [lim_val]; exact h)
theorem wrap_u8 {i : Int} (h0 : 0 ≤ i) (h1 : i ≤ 255) : IntKind.wrap .u8 i = i := by
  rw [show IntKind.wrap .u8 i = i % 256 from by simp [IntKind.wrap, IntKind.signed, IntKind.bits]]
  exact Int.emod_eq_of_lt h0 (by omega)
theorem u8_lt (c : UInt8) : c.toNat < 256 := c.toNat_lt
theorem u8_ofInt (c : UInt8) : UInt8.ofNat (Int.toNat (c.toNat : Int)) = c := by simp
theorem getD_drop {α : Type} (l : List α) (i j : Nat) (d : α) : (l.drop i).getD j d = l.getD (i + j) d := by simp [List.getD_eq_getElem?_getD]
theorem drop_cons {α : Type} {l : List α} {i : Nat} (d : α) (h : i < l.length) : l.drop i = l.getD i d :: l.drop (i + 1) := by
  rw [getD_eq l i d h]; exact List.drop_eq_getElem_cons h
theorem take_snoc {α : Type} {l : List α} {i : Nat} (d : α) (h : i < l.length) : l.take (i + 1) = l.take i ++ [l.getD i d] := by
  rw [getD_eq l i d h]; exact List.take_succ_eq_append_getElem h
/-- A part of a row or string. -/
def sub {α : Type} (l : List α) (i k : Nat) : List α := (l.take k).drop i
theorem sub_len {α : Type} {l : List α} {i k : Nat} (hk : k ≤ l.length) : (sub l i k).length = k - i := by simp [sub]; omega
theorem sub_snoc {α : Type} {l : List α} {i k : Nat} (d : α) (hi : i ≤ k) (hk : k < l.length) : sub l i (k + 1) = sub l i k ++ [l.getD k d] := by
  unfold sub
  rw [take_snoc d hk, List.drop_append_of_le_length (by simp; omega)]
theorem sub_self {α : Type} (l : List α) (i : Nat) : sub l i i = [] := by simp [sub]
theorem sub_one {α : Type} {l : List α} {i : Nat} (d : α) (h : i < l.length) : sub l i (i + 1) = [l.getD i d] := by rw [sub_snoc d (Nat.le_refl _) h, sub_self]; rfl
theorem cut_both {α : Type} (l : List α) (i k : Nat) : cutL l (some (i : Int)) (some (k : Int)) = sub l i k := rfl
theorem cut_lo {α : Type} (l : List α) (i : Nat) : cutL l (some (i : Int)) none = l.drop i := rfl
theorem cut_hi {α : Type} (l : List α) (k : Nat) : cutL l none (some (k : Int)) = l.take k := rfl
theorem cutOk_both {n i k : Nat} (h1 : i ≤ k) (h2 : k ≤ n) : cutOk n (some (i : Int)) (some (k : Int)) = true := by simp only [cutOk, Bool.and_eq_true, decide_eq_true_eq]; omega
theorem cutOk_lo {n i : Nat} (h : i ≤ n) : cutOk n (some (i : Int)) none = true := by simp only [cutOk, Bool.and_eq_true, decide_eq_true_eq]; omega
theorem cutOk_hi {n k : Nat} (h : k ≤ n) : cutOk n none (some (k : Int)) = true := by simp only [cutOk, Bool.and_eq_true, decide_eq_true_eq]; omega
theorem inb_f {i : Int} {n : Nat} (h : i < 0 ∨ (n : Int) ≤ i) : inb i n = false := by
  rw [← Bool.not_eq_true, inb_iff]; omega

/-- How great a string or row is, in the measure of the bound. -/
theorem mass_str (s : List UInt8) (r : List D) : dmass.dmAll (.str s :: r) = s.length + 1 + dmass.dmAll r := rfl
theorem mass_list (l : List D) (r : List D) : dmass.dmAll (.list l :: r) = dmass.dmAll l + 1 + dmass.dmAll r := rfl
theorem mass_nil : dmass.dmAll [] = 0 := rfl

/-! Functions that many packages have, in plain words: small letters, equal rows, prefixes and suffixes. -/

theorem emp : Array.toList (ByteArray.data { data := #[] }) = ([] : List UInt8) := rfl
theorem bytesD_len (l : List UInt8) : (bytesD l).length = l.length := by simp [bytesD]
theorem bytesD_getD {l : List UInt8} {i : Nat} (h : i < l.length) : (bytesD l).getD i .no = .int ((l.getD i 0).toNat : Int) := by
  simp [bytesD, List.getD_eq_getElem?_getD, List.getElem?_eq_getElem h]
theorem bytesD_set (l : List UInt8) (i : Nat) (c : UInt8) : (bytesD l).set i (.int (c.toNat : Int)) = bytesD (l.set i c) := by simp [bytesD, List.map_set]
theorem dBytes_bytesD (l : List UInt8) : dBytes (bytesD l) = l := by
  unfold dBytes bytesD
  rw [List.map_map]
  conv => rhs; rw [← List.map_id l]
  apply List.map_congr_left
  intro c _
  simp [D.toInt]
theorem dBytes_append (a b : List D) : dBytes (a ++ b) = dBytes a ++ dBytes b := by simp [dBytes]
theorem bytesD_append (a b : List UInt8) : bytesD (a ++ b) = bytesD a ++ bytesD b := by simp [bytesD]

/-- A small letter in place of a great one. -/
def low1 (c : UInt8) : UInt8 := if 65 ≤ c.toNat ∧ c.toNat ≤ 90 then UInt8.ofNat (c.toNat + 32) else c
theorem low1_up {c : UInt8} (h1 : 65 ≤ c.toNat) (h2 : c.toNat ≤ 90) : ((low1 c).toNat : Int) = (c.toNat : Int) + 32 := by
  unfold low1
  rw [if_pos ⟨h1, h2⟩]
  have : (UInt8.ofNat (c.toNat + 32)).toNat = c.toNat + 32 := by
    rw [UInt8.toNat_ofNat']; omega
  rw [this]; simp
theorem low1_no {c : UInt8} (h : ¬ (65 ≤ c.toNat ∧ c.toNat ≤ 90)) : low1 c = c := by unfold low1; rw [if_neg h]

theorem set_mid {α : Type} (x y : α) (r : List α) : ∀ a : List α, (a ++ x :: r).set a.length y = a ++ y :: r := by
  intro a
  induction a with
  | nil => rfl
  | cons b a ih => simp [ih]
theorem lower_loop {L : Int → Int → List D → R} (hL : ∀ (v9 v10 : Int) (v7s : List D), L v9 v10 v7s =
    cond (decide (v10 < v9))
      (cond (inb v10 (List.length v7s))
        (cond (bif decide (65 ≤ D.toInt (List.getD v7s (Int.toNat v10) D.no)) then decide (D.toInt (List.getD v7s (Int.toNat v10) D.no) ≤ 90) else false)
          (cond (inb v10 (List.length v7s))
            (L v9 (IntKind.wrap IntKind.i64 (v10 + 1)) (List.set v7s (Int.toNat v10) (D.int (IntKind.wrap IntKind.u8 (D.toInt (List.getD v7s (Int.toNat v10) D.no) + 32)))))
            (none))
          (L v9 (IntKind.wrap IntKind.i64 (v10 + 1)) v7s))
        (none))
      (some [D.str (dBytes v7s)])) (s : List UInt8) (hs : s.length ≤ 4611686018427387904) :
    L (((bytesD s).length : Nat) : Int) 0 (bytesD s) = some [.str (s.map low1)] := by
  have key : ∀ n i : Nat, i + n = s.length → L (s.length : Int) (i : Int) (bytesD ((s.take i).map low1 ++ s.drop i)) = some [.str (s.map low1)] := by
    intro n
    induction n with
    | zero =>
      intro i hi
      have : i = s.length := by omega
      subst this
      rw [hL, dec_f (by omega)]
      simp [dBytes_bytesD]
    | succ n ih =>
      intro i hi
      have hil : i < s.length := by omega
      have hlen : (bytesD ((s.take i).map low1 ++ s.drop i)).length = s.length := by rw [bytesD_len]; simp; omega
      have hlist : (s.take (i + 1)).map low1 ++ s.drop (i + 1) = (s.take i).map low1 ++ low1 (s.getD i 0) :: s.drop (i + 1) := by rw [take_snoc 0 hil]; simp
      have hcur : (s.take i).map low1 ++ s.drop i = (s.take i).map low1 ++ s.getD i 0 :: s.drop (i + 1) := by rw [drop_cons 0 hil]
      have htl : ((s.take i).map low1).length = i := by simp; omega
      have hset : ((s.take i).map low1 ++ s.getD i 0 :: s.drop (i + 1)).set i (low1 (s.getD i 0)) = (s.take i).map low1 ++ low1 (s.getD i 0) :: s.drop (i + 1) := by
        have := set_mid (s.getD i 0) (low1 (s.getD i 0)) (s.drop (i + 1)) ((s.take i).map low1)
        rwa [htl] at this
      have hg : ((s.take i).map low1 ++ s.drop i).getD i 0 = s.getD i 0 := by
        rw [hcur, List.getD_eq_getElem?_getD, List.getElem?_append_right (by omega), htl]; simp
      have hgd : (bytesD ((s.take i).map low1 ++ s.drop i)).getD i .no = .int ((s.getD i 0).toNat : Int) := by
        rw [bytesD_getD (by rw [← bytesD_len, hlen]; exact hil), hg]
      have e1 := ih (i + 1) (by omega)
      rw [hL, dec_t (by omega), hlen, inb_nat hil, nxt (by omega)]
      simp only [cond_true, Int.toNat_natCast, hgd, tI]
      by_cases hu : 65 ≤ (s.getD i 0).toNat ∧ (s.getD i 0).toNat ≤ 90
      · rw [dec_t (by omega), dec_t (by omega)]
        simp only [cond_true]
        rw [wrap_u8 (by omega) (by omega), ← low1_up hu.1 hu.2, bytesD_set, hcur, hset, ← hlist]
        exact e1
      · have : (bif decide (65 ≤ ((s.getD i 0).toNat : Int)) then decide (((s.getD i 0).toNat : Int) ≤ 90) else false) = false := by
          by_cases h1 : 65 ≤ (s.getD i 0).toNat
          · rw [dec_f (p := ((s.getD i 0).toNat : Int) ≤ 90) (by omega)]; simp
          · rw [dec_f (by omega)]; rfl
        rw [this, hcur]
        rw [hlist, low1_no hu] at e1
        exact e1
  have := key s.length 0 (by omega)
  rw [bytesD_len]
  simpa using this

/-- A row is equal to itself. -/
theorem eq_same {L : Int → R} {xs : List D} {e : D → Bool} (he : ∀ d, e d = true) (hL : ∀ v : Int, L v =
    cond (decide (v < (xs.length : Int)))
      (cond (inb v xs.length)
        (cond (inb v xs.length)
          (cond (bif e (List.getD xs (Int.toNat v) D.no) then false else true)
            (some [D.bool false])
            (L (IntKind.wrap IntKind.i64 (v + 1))))
          (none))
        (none))
      (some [D.bool true])) (hx : xs.length ≤ 4611686018427387904) : L 0 = some [.bool true] := by
  have key : ∀ n i : Nat, i + n = xs.length → L (i : Int) = some [.bool true] := by
    intro n
    induction n with
    | zero => intro i hi; rw [hL, dec_f (by omega)]; rfl
    | succ n ih =>
      intro i hi
      rw [hL, dec_t (by omega), inb_nat (by omega), he, nxt (by omega)]
      exact ih (i + 1) (by omega)
  exact key xs.length 0 (by omega)

/-! ### Prefixes and suffixes -/
def hasSuf (s p : List UInt8) : Bool := decide (p.length ≤ s.length) && decide (s.drop (s.length - p.length) = p)
def hasPre (s p : List UInt8) : Bool := decide (p.length ≤ s.length) && decide (s.take p.length = p)
theorem suf_eq {s p : List UInt8} (hs : s.length ≤ 4611686018427387904) (hp : p.length ≤ 4611686018427387904) :
    cond (bif cutOk (List.length s) (some (IntKind.wrap IntKind.i64 ((↑(List.length s) : Int) - (↑(List.length p) : Int)))) none then true else bif bif decide ((↑(List.length p) : Int) ≤ (↑(List.length s) : Int)) then true else false then false else true)
      (some [D.bool (bif decide ((↑(List.length p) : Int) ≤ (↑(List.length s) : Int)) then decide (cutL s (some (IntKind.wrap IntKind.i64 ((↑(List.length s) : Int) - (↑(List.length p) : Int)))) none = p) else false)])
      (none) = some [.bool (hasSuf s p)] := by
  by_cases h : p.length ≤ s.length
  · have e : IntKind.wrap IntKind.i64 ((↑(List.length s) : Int) - (↑(List.length p) : Int)) = ((s.length - p.length : Nat) : Int) := by rw [wrap_id (by omega) (by omega)]; omega
    rw [e, cutOk_lo (by omega), dec_t (by omega), cut_lo]
    simp [hasSuf, h]
  · rw [dec_f (by omega)]
    simp [hasSuf, h]
theorem pre_eq {s p : List UInt8} (hs : s.length ≤ 4611686018427387904) (hp : p.length ≤ 4611686018427387904) :
    cond (bif cutOk (List.length s) none (some (↑(List.length p) : Int)) then true else bif bif decide ((↑(List.length p) : Int) ≤ (↑(List.length s) : Int)) then true else false then false else true)
      (some [D.bool (bif decide ((↑(List.length p) : Int) ≤ (↑(List.length s) : Int)) then decide (cutL s none (some (↑(List.length p) : Int)) = p) else false)])
      (none) = some [.bool (hasPre s p)] := by
  by_cases h : p.length ≤ s.length
  · rw [cutOk_hi (by omega), dec_t (by omega), cut_hi]
    simp [hasPre, h]
  · rw [dec_f (by omega)]
    simp [hasPre, h]

/-! Splitting at one byte; loops over rows; how great the parts of data are. -/

/-! ### Cutting at a byte -/
def cuts (c : UInt8) : List UInt8 → List UInt8 → List (List UInt8)
  | w, [] => [w]
  | w, b :: r => bif b == c then w :: cuts c [] r else cuts c (w ++ [b]) r
def splitC (c : UInt8) (s : List UInt8) : List (List UInt8) := cuts c [] s
theorem cuts_none {c : UInt8} : ∀ (s w : List UInt8), c ∉ s → cuts c w s = [w ++ s] := by
  intro s
  induction s with
  | nil => intro w _; simp [cuts]
  | cons b r ih =>
    intro w h
    have hb : (b == c) = false := by
      rw [← Bool.not_eq_true, beq_iff_eq]; intro e; subst e; exact h List.mem_cons_self
    simp only [cuts, hb, cond_false]
    rw [ih _ (fun hr => h (List.mem_cons_of_mem _ hr))]; simp
theorem cuts_one {c : UInt8} (post : List UInt8) : ∀ (pre w : List UInt8), c ∉ pre → cuts c w (pre ++ c :: post) = (w ++ pre) :: cuts c [] post := by
  intro pre
  induction pre with
  | nil => intro w _; simp [cuts]
  | cons b r ih =>
    intro w h
    have hb : (b == c) = false := by
      rw [← Bool.not_eq_true, beq_iff_eq]; intro e; subst e; exact h List.mem_cons_self
    simp only [List.cons_append, cuts, hb, cond_false]
    rw [ih _ (fun hr => h (List.mem_cons_of_mem _ hr))]; simp
theorem idx_cases (c : UInt8) : ∀ s : List UInt8, (Lib.indexByte s c = -1 ∧ c ∉ s) ∨ ∃ pre post, s = pre ++ c :: post ∧ c ∉ pre ∧ Lib.indexByte s c = (pre.length : Int) := by
  intro s
  induction s with
  | nil => exact .inl ⟨rfl, by simp⟩
  | cons b r ih =>
    unfold Lib.indexByte
    cases hb : b == c with
    | true =>
      have := beq_iff_eq.1 hb; subst this
      exact .inr ⟨[], r, rfl, by simp, by simp⟩
    | false =>
      have hne : b ≠ c := by intro e; subst e; simp at hb
      rcases ih with ⟨h1, h2⟩ | ⟨pre, post, h1, h2, h3⟩
      · left
        refine ⟨by simp [h1], ?_⟩
        simp only [List.mem_cons, not_or]
        exact ⟨fun e => hne e.symm, h2⟩
      · right
        refine ⟨b :: pre, post, by rw [h1]; rfl, ?_, ?_⟩
        · simp only [List.mem_cons, not_or]
          exact ⟨fun e => hne e.symm, h2⟩
        · rw [h3]
          have : ((pre.length : Int) == -1) = false := by rw [← Bool.not_eq_true, beq_iff_eq]; omega
          simp [this]
theorem splitC_none {c : UInt8} {s : List UInt8} (h : c ∉ s) : splitC c s = [s] := by unfold splitC; rw [cuts_none _ _ h]; rfl
theorem splitC_one {c : UInt8} {pre : List UInt8} (post : List UInt8) (h : c ∉ pre) : splitC c (pre ++ c :: post) = pre :: splitC c post := by unfold splitC; rw [cuts_one _ _ _ h]; rfl
theorem split_len (c : UInt8) : ∀ n (s : List UInt8), s.length ≤ n → (splitC c s).length = s.count c + 1 ∧ ∀ x ∈ splitC c s, x.length ≤ s.length := by
  intro n
  induction n with
  | zero =>
    intro s h
    have : s = [] := List.length_eq_zero_iff.1 (by omega)
    subst this
    exact ⟨rfl, fun x hx => by simp [splitC, cuts] at hx; subst hx; simp⟩
  | succ n ih =>
    intro s h
    rcases idx_cases c s with ⟨_, h2⟩ | ⟨pre, post, h1, h2, _⟩
    · rw [splitC_none h2, List.count_eq_zero.2 h2]
      exact ⟨rfl, fun x hx => by simp at hx; subst hx; exact Nat.le_refl _⟩
    · subst h1
      simp at h
      obtain ⟨q1, q2⟩ := ih post (by omega)
      rw [splitC_one _ h2]
      refine ⟨by simp [q1, List.count_eq_zero.2 h2], fun x hx => ?_⟩
      rcases List.mem_cons.1 hx with rfl | hx
      · simp
      · have := q2 x hx; simp; omega

theorem take_set_self {α : Type} (x : α) : ∀ (a : List α) (i : Nat), (a.set i x).take i = a.take i := by
  intro a
  induction a with
  | nil => intro i; rfl
  | cons b r ih => intro i; cases i with
    | zero => rfl
    | succ i => simp [ih]
theorem split_loop {L : List UInt8 → Int → Int → List D → R} {X : List UInt8 → R} {c : UInt8} (hX : ∀ s, s.length ≤ 4194304 → X s = some [.int (Lib.indexByte s c)]) (hL : ∀ (s0 : List UInt8) (n3 i10 : Int) (a9s : List D), L s0 n3 i10 a9s =
    cond (decide (i10 < n3))
      (opt (X s0) fun r1 =>
        cond (decide (D.toInt (List.getD r1 0 D.no) < 0))
          (cond (inb i10 (List.length a9s))
            (cond (cutOk (List.length (List.set a9s (Int.toNat i10) (D.str s0))) none (some (IntKind.wrap IntKind.i64 (i10 + 1))))
              (some [D.list (cutL (List.set a9s (Int.toNat i10) (D.str s0)) none (some (IntKind.wrap IntKind.i64 (i10 + 1))))])
              (none))
            (none))
          (cond (cutOk (List.length s0) none (some (IntKind.wrap IntKind.i64 (D.toInt (List.getD r1 0 D.no) + 0))))
            (cond (inb i10 (List.length a9s))
              (cond (cutOk (List.length s0) (some (IntKind.wrap IntKind.i64 (D.toInt (List.getD r1 0 D.no) + (↑(List.length [c]) : Int)))) none)
                (L (cutL s0 (some (IntKind.wrap IntKind.i64 (D.toInt (List.getD r1 0 D.no) + (↑(List.length [c]) : Int)))) none) n3 (IntKind.wrap IntKind.i64 (i10 + 1)) (List.set a9s (Int.toNat i10) (D.str (cutL s0 none (some (IntKind.wrap IntKind.i64 (D.toInt (List.getD r1 0 D.no) + 0)))))))
                (none))
              (none))
            (none)))
      (cond (inb i10 (List.length a9s))
        (cond (cutOk (List.length (List.set a9s (Int.toNat i10) (D.str s0))) none (some (IntKind.wrap IntKind.i64 (i10 + 1))))
          (some [D.list (cutL (List.set a9s (Int.toNat i10) (D.str s0)) none (some (IntKind.wrap IntKind.i64 (i10 + 1))))])
          (none))
        (none))) : ∀ (n : Nat) (s : List UInt8), s.length ≤ n → n ≤ 4194304 → ∀ (i : Nat) (a : List D), i + s.count c ≤ 4194304 → a.length = i + s.count c + 1 → L s ((i + s.count c : Nat) : Int) (i : Int) a = some [.list (a.take i ++ (splitC c s).map .str)] := by
  intro n
  induction n with
  | zero =>
    intro s h _ i a hb ha
    have : s = [] := List.length_eq_zero_iff.1 (by omega)
    subst this
    rw [hL, dec_f (by simp), nxt (by omega), inb_nat (by omega), Int.toNat_natCast, cutOk_hi (by rw [List.length_set]; omega), cut_hi]
    simp only [cond_true, cond_false]
    rw [take_snoc .no (by rw [List.length_set]; omega)]
    simp only [List.count_nil, Nat.add_zero] at ha
    simp [splitC, cuts, List.getD_eq_getElem?_getD, List.getElem?_set, ha, take_set_self]
  | succ n ih =>
    intro s h hn i a hb ha
    have hin : inb (i : Int) a.length = true := inb_nat (by omega)
    have hx := hX s (by omega)
    rcases idx_cases c s with ⟨_, h2⟩ | ⟨pre, post, h1, h2, h3⟩
    · have hc : s.count c = 0 := List.count_eq_zero.2 h2
      rw [hc] at ha ⊢
      rw [hL, dec_f (by omega), nxt (by omega), hin, Int.toNat_natCast, cutOk_hi (by rw [List.length_set]; omega), cut_hi, splitC_none h2]
      simp only [cond_true, cond_false]
      rw [take_snoc .no (by rw [List.length_set]; omega)]
      simp [List.getD_eq_getElem?_getD, List.getElem?_set, ha, take_set_self]
    · have hcs : s.count c = post.count c + 1 := by rw [h1]; simp [List.count_eq_zero.2 h2]
      have hl : s.length = pre.length + 1 + post.length := by rw [h1]; simp; omega
      rw [hL, dec_t (by omega), hx, opt_s, List.getD_cons_zero, tI, h3, dec_f (by omega), nxt (by omega), hin, Int.toNat_natCast]
      have w0 : IntKind.wrap IntKind.i64 ((pre.length : Int) + 0) = (pre.length : Int) := wrap_id (by omega) (by omega)
      have w1 : IntKind.wrap IntKind.i64 ((pre.length : Int) + (↑(List.length [c]) : Int)) = ((pre.length + 1 : Nat) : Int) := nxt (by omega)
      have e1 : s.take pre.length = pre := by rw [h1]; simp
      have e2 : s.drop (pre.length + 1) = post := by rw [h1]; simp [List.drop_append]
      have k1 : cutOk s.length none (some (pre.length : Int)) = true := cutOk_hi (by omega)
      have k2 : cutOk s.length (some ((pre.length + 1 : Nat) : Int)) none = true := cutOk_lo (by omega)
      simp only [w0, w1, k1, k2, cut_lo, cut_hi, e1, e2, cond_true, cond_false]
      have := ih post (by omega) (by omega) (i + 1) (a.set i (.str pre)) (by omega) (by rw [List.length_set]; omega)
      rw [show i + 1 + post.count c = i + s.count c by omega] at this
      rw [this, h1, splitC_one _ h2, take_snoc .no (by rw [List.length_set]; omega)]
      have hlt : i < i + s.count c + 1 := by omega
      simp [List.getD_eq_getElem?_getD, List.getElem?_set, ha, take_set_self, hlt]

/-! ### A loop that asks all -/
theorem all_loop {L : Int → R} {xs : List D} {p : D → Bool} (hend : L (xs.length : Nat) = some [.bool true]) (hL : ∀ i : Nat, i < xs.length → L i = cond (p (xs.getD i .no)) (L ((i + 1 : Nat) : Int)) (some [.bool false])) : L 0 = some [.bool (xs.all p)] := by
  have key : ∀ n i : Nat, i + n = xs.length → L i = some [.bool ((xs.drop i).all p)] := by
    intro n
    induction n with
    | zero =>
      intro i hi
      have : i = xs.length := by omega
      subst this
      rw [hend, List.drop_length]; rfl
    | succ n ih =>
      intro i hi
      have hil : i < xs.length := by omega
      rw [hL i hil, ih (i + 1) (by omega), drop_cons .no hil]
      simp only [List.all_cons]
      cases p (xs.getD i .no) <;> rfl
  have := key xs.length 0 (by omega)
  rwa [List.drop_zero] at this
theorem all_loopS {L : Int → R} {s : List UInt8} {p : UInt8 → Bool} (hend : L (s.length : Nat) = some [.bool true]) (hL : ∀ i : Nat, i < s.length → L i = cond (p (s.getD i 0)) (L ((i + 1 : Nat) : Int)) (some [.bool false])) : L 0 = some [.bool (s.all p)] := by
  have key : ∀ n i : Nat, i + n = s.length → L i = some [.bool ((s.drop i).all p)] := by
    intro n
    induction n with
    | zero =>
      intro i hi
      have : i = s.length := by omega
      subst this
      rw [hend, List.drop_length]; rfl
    | succ n ih =>
      intro i hi
      have hil : i < s.length := by omega
      rw [hL i hil, ih (i + 1) (by omega), drop_cons 0 hil]
      simp only [List.all_cons]
      cases p (s.getD i 0) <;> rfl
  have := key s.length 0 (by omega)
  rwa [List.drop_zero] at this

/-! ### How great parts are -/
theorem mass_mem {l : List D} {x : D} (h : x ∈ l) : dmass x ≤ dmass.dmAll l := by
  induction l with
  | nil => cases h
  | cons y r ih =>
    simp only [dmass.dmAll]
    rcases List.mem_cons.1 h with rfl | h
    · omega
    · have := ih h; omega
theorem mass_getD (l : List D) (i : Nat) : dmass (l.getD i .no) ≤ dmass.dmAll l := by
  by_cases h : i < l.length
  · rw [getD_eq l i .no h]; exact mass_mem (List.getElem_mem h)
  · rw [List.getD_eq_getElem?_getD, List.getElem?_eq_none (by omega)]; simp [dmass]
theorem mass_cell (d : D) (i : Nat) : dmass (d.cell i) ≤ dmass d := by
  cases d with
  | agg cs => exact mass_getD cs i
  | _ => cases i <;> simp [D.cell, D.cells, dmass]
theorem toStr_le (d : D) : d.toStr.length ≤ dmass d := by cases d <;> simp [D.toStr, dmass]
theorem cellS_le (d : D) (i : Nat) : (D.toStr (d.cell i)).length ≤ dmass d := Nat.le_trans (toStr_le _) (mass_cell d i)
/-- The cells of a listed table. -/
def flatV : DataW Unit → List Value
  | .lit (.int k n) => [.int k n]
  | .lit (.bool b) => [.bool b]
  | .lit (.string s) => [.string ⟨s.toArray⟩]
  | .agg l => flatAll l
  | _ => []
where flatAll : List (DataW Unit) → List Value
  | [] => []
  | d :: r => flatV d ++ flatAll r
theorem toList_le (d : D) : dmass.dmAll d.toList ≤ dmass d := by cases d <;> simp [D.toList, dmass, dmass.dmAll]
end Go.Proofs.YtjofkhdnidjleabDoor.DS
