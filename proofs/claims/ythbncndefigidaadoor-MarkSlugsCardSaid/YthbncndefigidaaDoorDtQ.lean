/- Functions that many packages have, in plain words: small letters, equal rows, prefixes and suffixes. -/
import Derived.Test.YthbncndefigidaaDoorDtP
set_option linter.unusedVariables false
set_option linter.unusedSimpArgs false
namespace Go.Proofs.YthbncndefigidaaDoor.DS

theorem emp : Array.toList (ByteArray.data { data := #[] }) = ([] : List UInt8) := rfl
theorem bytesD_len (l : List UInt8) : (bytesD l).length = l.length := by simp [bytesD]
theorem bytesD_getD {l : List UInt8} {i : Nat} (h : i < l.length) : (bytesD l).getD i .no = .int ((l.getD i 0).toNat : Int) := by
  simp [bytesD, List.getD_eq_getElem?_getD, List.getElem?_eq_getElem h]
theorem bytesD_set (l : List UInt8) (i : Nat) (c : UInt8) : (bytesD l).set i (.int (c.toNat : Int)) = bytesD (l.set i c) := by simp [bytesD, List.map_set]
theorem dBytes_bytesD (l : List UInt8) : dBytes (bytesD l) = l := by
  unfold dBytes bytesD
  rw [List.map_map]
  conv => rhs; rw [← List.map_id l]
  apply List.map_congr_left
  intro c _
  simp [D.toInt]
theorem dBytes_append (a b : List D) : dBytes (a ++ b) = dBytes a ++ dBytes b := by simp [dBytes]
theorem bytesD_append (a b : List UInt8) : bytesD (a ++ b) = bytesD a ++ bytesD b := by simp [bytesD]

/-- A small letter in place of a great one. -/
def low1 (c : UInt8) : UInt8 := if 65 ≤ c.toNat ∧ c.toNat ≤ 90 then UInt8.ofNat (c.toNat + 32) else c
theorem low1_up {c : UInt8} (h1 : 65 ≤ c.toNat) (h2 : c.toNat ≤ 90) : ((low1 c).toNat : Int) = (c.toNat : Int) + 32 := by
  unfold low1
  rw [if_pos ⟨h1, h2⟩]
  have : (UInt8.ofNat (c.toNat + 32)).toNat = c.toNat + 32 := by
    rw [UInt8.toNat_ofNat']; omega
  rw [this]; simp
theorem low1_no {c : UInt8} (h : ¬ (65 ≤ c.toNat ∧ c.toNat ≤ 90)) : low1 c = c := by unfold low1; rw [if_neg h]

theorem set_mid {α : Type} (x y : α) (r : List α) : ∀ a : List α, (a ++ x :: r).set a.length y = a ++ y :: r := by
  intro a
  induction a with
  | nil => rfl
  | cons b a ih => simp [ih]
theorem lower_loop {L : Int → Int → List D → R} (hL : ∀ (v9 v10 : Int) (v7s : List D), L v9 v10 v7s =
    cond (decide (v10 < v9))
      (cond (inb v10 (List.length v7s))
        (cond (bif decide (65 ≤ D.toInt (List.getD v7s (Int.toNat v10) D.no)) then decide (D.toInt (List.getD v7s (Int.toNat v10) D.no) ≤ 90) else false)
          (cond (inb v10 (List.length v7s))
            (L v9 (IntKind.wrap IntKind.i64 (v10 + 1)) (List.set v7s (Int.toNat v10) (D.int (IntKind.wrap IntKind.u8 (D.toInt (List.getD v7s (Int.toNat v10) D.no) + 32)))))
            (none))
          (L v9 (IntKind.wrap IntKind.i64 (v10 + 1)) v7s))
        (none))
      (some [D.str (dBytes v7s)])) (s : List UInt8) (hs : s.length ≤ 4611686018427387904) :
    L (((bytesD s).length : Nat) : Int) 0 (bytesD s) = some [.str (s.map low1)] := by
  have key : ∀ n i : Nat, i + n = s.length → L (s.length : Int) (i : Int) (bytesD ((s.take i).map low1 ++ s.drop i)) = some [.str (s.map low1)] := by
    intro n
    induction n with
    | zero =>
      intro i hi
      have : i = s.length := by omega
      subst this
      rw [hL, dec_f (by omega)]
      simp [dBytes_bytesD]
    | succ n ih =>
      intro i hi
      have hil : i < s.length := by omega
      have hlen : (bytesD ((s.take i).map low1 ++ s.drop i)).length = s.length := by rw [bytesD_len]; simp; omega
      have hlist : (s.take (i + 1)).map low1 ++ s.drop (i + 1) = (s.take i).map low1 ++ low1 (s.getD i 0) :: s.drop (i + 1) := by rw [take_snoc 0 hil]; simp
      have hcur : (s.take i).map low1 ++ s.drop i = (s.take i).map low1 ++ s.getD i 0 :: s.drop (i + 1) := by rw [drop_cons 0 hil]
      have htl : ((s.take i).map low1).length = i := by simp; omega
      have hset : ((s.take i).map low1 ++ s.getD i 0 :: s.drop (i + 1)).set i (low1 (s.getD i 0)) = (s.take i).map low1 ++ low1 (s.getD i 0) :: s.drop (i + 1) := by
        have := set_mid (s.getD i 0) (low1 (s.getD i 0)) (s.drop (i + 1)) ((s.take i).map low1)
        rwa [htl] at this
      have hg : ((s.take i).map low1 ++ s.drop i).getD i 0 = s.getD i 0 := by
        rw [hcur, List.getD_eq_getElem?_getD, List.getElem?_append_right (by omega), htl]; simp
      have hgd : (bytesD ((s.take i).map low1 ++ s.drop i)).getD i .no = .int ((s.getD i 0).toNat : Int) := by
        rw [bytesD_getD (by rw [← bytesD_len, hlen]; exact hil), hg]
      have e1 := ih (i + 1) (by omega)
      rw [hL, dec_t (by omega), hlen, inb_nat hil, nxt (by omega)]
      simp only [cond_true, Int.toNat_natCast, hgd, tI]
      by_cases hu : 65 ≤ (s.getD i 0).toNat ∧ (s.getD i 0).toNat ≤ 90
      · rw [dec_t (by omega), dec_t (by omega)]
        simp only [cond_true]
        rw [wrap_u8 (by omega) (by omega), ← low1_up hu.1 hu.2, bytesD_set, hcur, hset, ← hlist]
        exact e1
      · have : (bif decide (65 ≤ ((s.getD i 0).toNat : Int)) then decide (((s.getD i 0).toNat : Int) ≤ 90) else false) = false := by
          by_cases h1 : 65 ≤ (s.getD i 0).toNat
          · rw [dec_f (p := ((s.getD i 0).toNat : Int) ≤ 90) (by omega)]; simp
          · rw [dec_f (by omega)]; rfl
        rw [this, hcur]
        rw [hlist, low1_no hu] at e1
        exact e1
  have := key s.length 0 (by omega)
  rw [bytesD_len]
  simpa using this

/-- A row is equal to itself. -/
theorem eq_same {L : Int → R} {xs : List D} {e : D → Bool} (he : ∀ d, e d = true) (hL : ∀ v : Int, L v =
    cond (decide (v < (xs.length : Int)))
      (cond (inb v xs.length)
        (cond (inb v xs.length)
          (cond (bif e (List.getD xs (Int.toNat v) D.no) then false else true)
            (some [D.bool false])
            (L (IntKind.wrap IntKind.i64 (v + 1))))
          (none))
        (none))
      (some [D.bool true])) (hx : xs.length ≤ 4611686018427387904) : L 0 = some [.bool true] := by
  have key : ∀ n i : Nat, i + n = xs.length → L (i : Int) = some [.bool true] := by
    intro n
    induction n with
    | zero => intro i hi; rw [hL, dec_f (by omega)]; rfl
    | succ n ih =>
      intro i hi
      rw [hL, dec_t (by omega), inb_nat (by omega), he, nxt (by omega)]
      exact ih (i + 1) (by omega)
  exact key xs.length 0 (by omega)

/-! ### Prefixes and suffixes -/
def hasSuf (s p : List UInt8) : Bool := decide (p.length ≤ s.length) && decide (s.drop (s.length - p.length) = p)
def hasPre (s p : List UInt8) : Bool := decide (p.length ≤ s.length) && decide (s.take p.length = p)
theorem suf_eq {s p : List UInt8} (hs : s.length ≤ 4611686018427387904) (hp : p.length ≤ 4611686018427387904) :
    cond (bif cutOk (List.length s) (some (IntKind.wrap IntKind.i64 ((↑(List.length s) : Int) - (↑(List.length p) : Int)))) none then true else bif bif decide ((↑(List.length p) : Int) ≤ (↑(List.length s) : Int)) then true else false then false else true)
      (some [D.bool (bif decide ((↑(List.length p) : Int) ≤ (↑(List.length s) : Int)) then decide (cutL s (some (IntKind.wrap IntKind.i64 ((↑(List.length s) : Int) - (↑(List.length p) : Int)))) none = p) else false)])
      (none) = some [.bool (hasSuf s p)] := by
  by_cases h : p.length ≤ s.length
  · have e : IntKind.wrap IntKind.i64 ((↑(List.length s) : Int) - (↑(List.length p) : Int)) = ((s.length - p.length : Nat) : Int) := by rw [wrap_id (by omega) (by omega)]; omega
    rw [e, cutOk_lo (by omega), dec_t (by omega), cut_lo]
    simp [hasSuf, h]
  · rw [dec_f (by omega)]
    simp [hasSuf, h]
theorem pre_eq {s p : List UInt8} (hs : s.length ≤ 4611686018427387904) (hp : p.length ≤ 4611686018427387904) :
    cond (bif cutOk (List.length s) none (some (↑(List.length p) : Int)) then true else bif bif decide ((↑(List.length p) : Int) ≤ (↑(List.length s) : Int)) then true else false then false else true)
      (some [D.bool (bif decide ((↑(List.length p) : Int) ≤ (↑(List.length s) : Int)) then decide (cutL s none (some (↑(List.length p) : Int)) = p) else false)])
      (none) = some [.bool (hasPre s p)] := by
  by_cases h : p.length ≤ s.length
  · rw [cutOk_hi (by omega), dec_t (by omega), cut_hi]
    simp [hasPre, h]
  · rw [dec_f (by omega)]
    simp [hasPre, h]
end Go.Proofs.YthbncndefigidaaDoor.DS
