/- The reader's argument. -/
import Derived.Test.YtbinmfenhbpdnaaDxLinesB
set_option linter.unusedVariables false
set_option linter.unusedSimpArgs false
namespace Go.Proofs.Ytbinmfenhbpdnaa.pl
open Go.Proofs.Ytbinmfenhbpdnaa.DS
namespace lines

def sm (x : Int) : Bool := bif decide (97 ≤ x) then decide (x ≤ 122) else false
def dg (x : Int) : Bool := bif decide (48 ≤ x) then decide (x ≤ 57) else false
def up (x : Int) : Bool := bif decide (65 ≤ x) then decide (x ≤ 90) else false
/-- Bytes of a shortcode's name; bytes that stand without quotation marks; bytes of an argument's name. -/
def nmB (c : UInt8) : Bool := sm c.toNat || dg c.toNat || decide ((c.toNat : Int) = 45)
def plB (c : UInt8) : Bool := sm c.toNat || up c.toNat || dg c.toNat || decide ((c.toNat : Int) = 45) || decide ((c.toNat : Int) = 95) || decide ((c.toNat : Int) = 46) || decide ((c.toNat : Int) = 47) || decide ((c.toNat : Int) = 58)
def wb (c : UInt8) : Bool := sm c.toNat || dg c.toNat || decide ((c.toNat : Int) = 95)
theorem r53 (x : Int) : RUN E 53 [.int x] = some [.bool (sm x)] := enter53 x
theorem r54 (x : Int) : RUN E 54 [.int x] = some [.bool (dg x)] := enter54 x
theorem r25 (x : Int) : RUN E 25 [.int x] = some [.bool (dg x)] := enter25 x
theorem r24 (x : Int) : RUN E 24 [.int x] = some [.bool (bif sm x then true else up x)] := enter24 x
theorem r58 (c : UInt8) : RUN E 58 [.int (c.toNat : Int)] = some [.bool (wb c)] := by
  rw [enter58]
  simp only [r25]
  unfold wb sm
  cases decide (97 ≤ (c.toNat : Int)) <;> cases decide ((c.toNat : Int) ≤ 122) <;> cases dg (c.toNat : Int) <;> cases decide ((c.toNat : Int) = 95) <;> rfl
theorem r69 (c : UInt8) : RUN E 69 [.int (c.toNat : Int)] = some [.bool (plB c)] := by
  rw [enter69, r24]
  simp only [r25]
  unfold plB
  cases sm (c.toNat : Int) <;> cases up (c.toNat : Int) <;> cases dg (c.toNat : Int) <;> cases decide ((c.toNat : Int) = 45) <;> cases decide ((c.toNat : Int) = 95) <;> cases decide ((c.toNat : Int) = 46) <;> cases decide ((c.toNat : Int) = 47) <;> cases decide ((c.toNat : Int) = 58) <;> rfl
theorem u8_back (c : UInt8) : (Int.toNat ((c.toNat : Nat) : Int)).toUInt8 = c := by simp
theorem r39 (a : List UInt8) (c : UInt8) : RUN E 39 [.str a, .int (c.toNat : Int)] = some [.int (Lib.indexByte a c)] := by
  have : RUN E 39 [.str a, .int (c.toNat : Int)] = some [.int (Lib.indexByte a (Int.toNat ((c.toNat : Nat) : Int)).toUInt8)] := (RUN_eq _ _ _).trans (by kernel_rfl)
  rw [this, u8_back]
set_option maxRecDepth 100000 in
theorem signs : ∀ n : Fin 256, decide (0 ≤ Lib.indexByte [45, 95, 46, 47, 58] (UInt8.ofNat n.val)) = (decide ((n.val : Int) = 45) || decide ((n.val : Int) = 95) || decide ((n.val : Int) = 46) || decide ((n.val : Int) = 47) || decide ((n.val : Int) = 58)) := by decide +kernel
theorem r67 (c : UInt8) : RUN E 67 [.int (c.toNat : Int)] = some [.bool (plB c)] := by
  have h := signs ⟨c.toNat, c.toNat_lt⟩
  have e : UInt8.ofNat c.toNat = c := by simp
  rw [show (⟨c.toNat, c.toNat_lt⟩ : Fin 256).val = c.toNat from rfl, e] at h
  rw [enter67, r53]
  simp only [r54, r39, opt_s, List.getD_cons_zero, tB]
  unfold plB
  have h2 : (sm (c.toNat : Int) || up c.toNat || dg c.toNat || decide ((c.toNat : Int) = 45) || decide ((c.toNat : Int) = 95) || decide ((c.toNat : Int) = 46) || decide ((c.toNat : Int) = 47) || decide ((c.toNat : Int) = 58)) = (sm (c.toNat : Int) || up c.toNat || dg c.toNat || decide (0 ≤ Lib.indexByte [45, 95, 46, 47, 58] c)) := by
    rw [h]; simp only [Bool.or_assoc]
  rw [h2]
  show opt (cond (bif bif sm (c.toNat : Int) then true else up c.toNat then false else true) _ _) _ = _
  unfold up
  cases sm (c.toNat : Int) <;> cases decide (65 ≤ (c.toNat : Int)) <;> cases decide ((c.toNat : Int) ≤ 90) <;> cases dg (c.toNat : Int) <;> rfl
theorem r32 (s p : List UInt8) (h : s.length ≤ 1048576) (hp : p.length ≤ 1048576) : RUN E 32 [.str s, .str p] = some [.bool (hasPre s p)] := by
  rw [enter32, enter52, pre_eq (by omega) (by omega)]; rfl
theorem r27 (s p : List UInt8) (h : s.length ≤ 1048576) (hp : p.length ≤ 1048576) : RUN E 27 [.str s, .str p] = some [.bool (hasSuf s p)] := by
  rw [enter27, enter49, suf_eq (by omega) (by omega)]; rfl

/-! ### Runs of bytes -/
theorem span_loop {L : Int → R} {s : List UInt8} {p : UInt8 → Bool} {fin : Nat → R} (hL : ∀ i : Nat, i < s.length → L i = cond (p (s.getD i 0)) (L ((i + 1 : Nat) : Int)) (fin i)) (hend : L (s.length : Nat) = fin s.length) : L 0 = fin (s.takeWhile p).length := by
  have key : ∀ n i : Nat, i + n = s.length → L i = fin (i + ((s.drop i).takeWhile p).length) := by
    intro n
    induction n with
    | zero =>
      intro i hi
      have : i = s.length := by omega
      subst this
      rw [hend, List.drop_length]; rfl
    | succ n ih =>
      intro i hi
      have hil : i < s.length := by omega
      rw [hL i hil, drop_cons 0 hil, List.takeWhile_cons]
      cases hp : p (s.getD i 0) with
      | true => rw [cond_true, ih (i + 1) (by omega)]; simp only [if_true, List.length_cons]; congr 1; omega
      | false => rfl
  have := key s.length 0 (by omega)
  rw [List.drop_zero, Nat.zero_add] at this
  exact this
theorem take_tw (p : UInt8 → Bool) : ∀ s : List UInt8, s.take (s.takeWhile p).length = s.takeWhile p := by
  intro s
  induction s with
  | nil => rfl
  | cons c r ih => rw [List.takeWhile_cons]; cases p c with
    | true => simp [ih]
    | false => rfl
theorem drop_tw (p : UInt8 → Bool) : ∀ s : List UInt8, s.drop (s.takeWhile p).length = s.dropWhile p := by
  intro s
  induction s with
  | nil => rfl
  | cons c r ih => rw [List.takeWhile_cons, List.dropWhile_cons]; cases p c with
    | true => simp [ih]
    | false => rfl
theorem tw_le (p : UInt8 → Bool) : ∀ s : List UInt8, (s.takeWhile p).length ≤ s.length := by
  intro s
  induction s with
  | nil => exact Nat.le_refl _
  | cons c r ih => rw [List.takeWhile_cons]; cases p c with
    | true => simp; exact ih
    | false => simp
def rd (s : List UInt8) (b : Bool) : D := .agg [.str s, .bool b]
theorem r55 (s : List UInt8) (hs : s.length ≤ 1048576) (b : Bool) : RUN E 55 [rd s b] = some [.str (s.takeWhile plB), rd (s.dropWhile plB) b] := by
  have fin : ∀ i : Nat, i ≤ s.length → (cond (cutOk (List.length s) none (some (i : Int))) (cond (cutOk (List.length s) (some (i : Int)) none) (some [D.str (cutL s none (some (i : Int))), D.agg [D.str (cutL s (some (i : Int)) none), D.bool b]]) none) none : R) = some [.str (s.take i), rd (s.drop i) b] := by
    intro i hi
    rw [cutOk_hi hi, cutOk_lo hi]; rfl
  have := span_loop (L := fun i => L55a i s b) (s := s) (p := plB) (fin := fun i => some [.str (s.take i), rd (s.drop i) b]) (fun i hi => by
    show L55a i s b = _
    rw [round55a, inb_nat hi, dec_t (by omega), Int.toNat_natCast, nxt (by omega), fin i (by omega)]
    simp only [cond_true, cond_false, r67, opt_s, List.getD_cons_zero, tB]) (by
    show L55a _ s b = _
    rw [round55a, dec_f (by omega), fin s.length (Nat.le_refl _)]
    cases inb ((s.length : Nat) : Int) s.length <;> rfl)
  simp only [take_tw, drop_tw] at this
  exact (enter55 s b).trans this
theorem r33 (s : List UInt8) (hs : s.length ≤ 1048576) (b : Bool) : RUN E 33 [rd s b] = some [.str (s.takeWhile nmB), rd (s.dropWhile nmB) (bif decide (((s.takeWhile nmB).length : Int) < 1) || decide (20 < ((s.takeWhile nmB).length : Int)) then true else b)] := by
  have fin : ∀ i : Nat, i ≤ s.length → (cond (cutOk (List.length s) none (some (i : Int))) (cond (cutOk (List.length s) (some (i : Int)) none)
      (cond (bif decide ((i : Int) < 1) then true else decide (20 < (i : Int))) (some [D.str (cutL s none (some (i : Int))), D.agg [D.str (cutL s (some (i : Int)) none), D.bool true]]) (some [D.str (cutL s none (some (i : Int))), D.agg [D.str (cutL s (some (i : Int)) none), D.bool b]])) none) none : R) =
      some [.str (s.take i), rd (s.drop i) (bif decide ((i : Int) < 1) || decide (20 < (i : Int)) then true else b)] := by
    intro i hi
    rw [cutOk_hi hi, cutOk_lo hi]
    cases decide ((i : Int) < 1) <;> cases decide (20 < (i : Int)) <;> rfl
  have := span_loop (L := fun i => L33a i s b) (s := s) (p := nmB) (fin := fun i => some [.str (s.take i), rd (s.drop i) (bif decide ((i : Int) < 1) || decide (20 < (i : Int)) then true else b)]) (fun i hi => by
    show L33a i s b = _
    rw [round33a, inb_nat hi, dec_t (by omega), Int.toNat_natCast, nxt (by omega), fin i (by omega)]
    simp only [cond_true, cond_false, r53, r54]
    unfold nmB
    cases sm ((s.getD i 0).toNat : Int) <;> cases dg ((s.getD i 0).toNat : Int) <;> cases decide (((s.getD i 0).toNat : Int) = 45) <;> simp [opt_s, tB]) (by
    show L33a _ s b = _
    rw [round33a, dec_f (by omega), fin s.length (Nat.le_refl _)]
    cases inb ((s.length : Nat) : Int) s.length <;> simp [opt_s, D.toBool])
  simp only [take_tw, drop_tw] at this
  exact (enter33 s b).trans this
theorem r34 (s : List UInt8) (hs : s.length ≤ 1048576) (b : Bool) (p : List UInt8) (hp : p.length ≤ 1048576) : RUN E 34 [rd s b, .str p] = some [.bool (hasPre s p), rd (bif hasPre s p then s.drop p.length else s) b] := by
  refine (enter34 s b p).trans ?_
  rw [r32 s p hs hp]
  simp only [opt_s, List.getD_cons_zero, tB]
  cases h : hasPre s p with
  | false => rfl
  | true =>
    have : p.length ≤ s.length := by unfold hasPre at h; simp only [Bool.and_eq_true, decide_eq_true_eq] at h; exact h.1
    rw [cutOk_lo this, cut_lo]; rfl

/-! ### Text in quotation marks, as the program reads it -/
def lo (c : UInt8) : Bool := decide ((c.toNat : Int) < 32)
def qt (c : UInt8) : Bool := decide ((c.toNat : Int) = 34)
def bs (c : UInt8) : Bool := decide ((c.toNat : Int) = 92)
def pq : List UInt8 → List UInt8 × List UInt8 × Bool
  | [] => ([], [], true)
  | [c] => bif lo c then ([], [c], true) else bif qt c then ([], [], false) else bif bs c then ([], [], true) else ([c], [], true)
  | c :: d :: r => bif lo c then ([], c :: d :: r, true) else bif qt c then ([], d :: r, false) else
    bif bs c then (bif qt d || bs d then (d :: (pq r).1, (pq r).2) else ([], d :: r, true)) else (c :: (pq (d :: r)).1, (pq (d :: r)).2)
theorem pre_one (c b : UInt8) (r : List UInt8) : hasPre (c :: r) [b] = decide (c = b) := by
  unfold hasPre
  rw [dec_t (by simp)]
  by_cases h : c = b
  · subst h; simp
  · rw [dec_f h, dec_f (by simpa using h)]; rfl
theorem pre_nil (b : UInt8) : hasPre [] [b] = false := rfl
theorem eqB (c : UInt8) (n : Nat) (hn : n < 256) : decide (c = UInt8.ofNat n) = decide ((c.toNat : Int) = (n : Int)) := by
  have e : (UInt8.ofNat n).toNat = n := by simp; omega
  rw [Bool.eq_iff_iff, decide_eq_true_eq, decide_eq_true_eq]
  constructor
  · intro h; rw [h, e]
  · intro h; exact UInt8.toNat_inj.1 (by rw [e]; omega)
theorem q34 (c : UInt8) (r : List UInt8) : hasPre (c :: r) [34] = qt c := by rw [pre_one]; exact eqB c 34 (by omega)
theorem q92 (c : UInt8) (r : List UInt8) : hasPre (c :: r) [92] = bs c := by rw [pre_one]; exact eqB c 92 (by omega)
theorem quoted_bad (out : List D) (s : List UInt8) (v0 v1 : List UInt8) (a : D) : L35b out s true v0 v1 a = some [.agg [.str (D.toStr (D.cell a 0)), .str (dBytes out)], rd s true] := by rw [round35b]; rfl
theorem quoted (v0 v1 : List UInt8) (a : D) : ∀ (n : Nat) (s : List UInt8), s.length ≤ n → ∀ out : List D, out.length + s.length ≤ 1048576 →
    L35b out s false v0 v1 a = some [.agg [.str (D.toStr (D.cell a 0)), .str (dBytes (out ++ bytesD (pq s).1))], rd (pq s).2.1 (pq s).2.2] := by
  have b0 : bytesD [] = [] := rfl
  intro n
  induction n with
  | zero =>
    intro s hs out ho
    have : s = [] := List.length_eq_zero_iff.1 (by omega)
    subst this
    rw [round35b]
    simp only [pq, b0, List.append_nil]; rfl
  | succ n ih =>
    intro s hs out ho
    cases s with
    | nil =>
      rw [round35b]
      simp only [pq, b0, List.append_nil]; rfl
    | cons c s1 =>
      have i0 : inb 0 (c :: s1).length = true := inb_nat (i := 0) (by simp)
      have ck : cutOk (c :: s1).length (some 1) none = true := cutOk_lo (i := 1) (by simp)
      have cu : cutL (c :: s1) (some 1) none = s1 := rfl
      have hne : decide (c :: s1 = ([] : List UInt8)) = false := dec_f (by simp)
      simp only [List.length_cons] at ho hs
      rw [round35b, i0, ck, cu, hne, List.getD_cons_zero]
      have f1 : ∀ x : D, fitL out.length [x].length = true := fun x => fit_t (by simp; omega)
      simp only [cond_true, cond_false, f1]
      cases s1 with
      | nil =>
        simp only [pq]
        rw [r32 [] [34] (by simp) (by simp), pre_nil, ih [] (by simp) _ (by simp; omega)]
        simp only [r32 [] [92] (by simp) (by simp), pre_nil]
        unfold lo qt bs
        cases decide ((c.toNat : Int) < 32) <;> cases decide ((c.toNat : Int) = 34) <;> cases decide ((c.toNat : Int) = 92) <;> simp [opt_s, tB, b0, pq, rd, bytesD]
      | cons d r =>
        have i1 : inb 0 (d :: r).length = true := inb_nat (i := 0) (by simp)
        have ck1 : cutOk (d :: r).length (some 1) none = true := cutOk_lo (i := 1) (by simp)
        have cu1 : cutL (d :: r) (some 1) none = r := rfl
        simp only [List.length_cons] at ho hs
        rw [r32 (d :: r) [34] (by simp; omega) (by simp), q34, i1, ck1, cu1, List.getD_cons_zero]
        simp only [r32 (d :: r) [92] (by simp; omega) (by simp), q92]
        rw [ih (d :: r) (by simp; omega) _ (by simp; omega), ih r (by omega) _ (by simp; omega)]
        simp only [pq]
        unfold lo
        show cond (decide ((c.toNat : Int) < 32)) _ (cond (qt c) _ (cond (bs c) _ _)) = _
        cases decide ((c.toNat : Int) < 32) <;> cases qt c <;> cases bs c <;> cases qt d <;> cases bs d <;> simp [opt_s, tB, b0, rd, bytesD]
end lines
end Go.Proofs.Ytbinmfenhbpdnaa.pl

namespace Go.Proofs.Ytbinmfenhbpdnaa.pl
open Go.Proofs.Ytbinmfenhbpdnaa.DS
namespace lines

theorem all_from {L : Int → R} {s : List UInt8} {p : UInt8 → Bool} {b : Bool} (i0 : Nat) (hend : L (s.length : Nat) = some [.bool b]) (hL : ∀ i : Nat, i0 ≤ i → i < s.length → L i = cond (p (s.getD i 0)) (L ((i + 1 : Nat) : Int)) (some [.bool false])) (h0 : i0 ≤ s.length) : L (i0 : Nat) = some [.bool ((s.drop i0).all p && b)] := by
  have key : ∀ n i : Nat, i0 ≤ i → i + n = s.length → L i = some [.bool ((s.drop i).all p && b)] := by
    intro n
    induction n with
    | zero =>
      intro i h1 hi
      have : i = s.length := by omega
      subst this
      rw [hend, List.drop_length]; rfl
    | succ n ih =>
      intro i h1 hi
      have hil : i < s.length := by omega
      rw [hL i h1 hil, drop_cons 0 hil, List.all_cons, ih (i + 1) (by omega) (by omega)]
      cases p (s.getD i 0) <;> rfl
  exact key (s.length - i0) i0 (Nat.le_refl _) (by omega)
/-- A name of a shortcode; a name of an argument; a value without quotation marks. -/
def cn (s : List UInt8) : Bool := bif decide ((s.length : Int) < 1) || decide (20 < (s.length : Int)) then false else s.all nmB
def an (s : List UInt8) : Bool := bif decide ((s.length : Int) < 1) || decide (20 < (s.length : Int)) then false else sm (s.getD 0 0).toNat && s.all wb
def bare (s : List UInt8) : Bool := !decide (s = []) && !decide (((s.getD 0 0).toNat : Int) = 58) && s.all plB
theorem r38 (s : List UInt8) (h : s.length ≤ 1048576) : RUN E 38 [.str s] = some [.bool (cn s)] := by
  have lp : L38a s 0 = some [.bool ((s.drop 0).all nmB && true)] := by
    refine all_from (L := fun i => L38a s i) 0 (by show L38a s _ = _; rw [round38a, dec_f (by omega)]; rfl) (fun i _ hi => ?_) (Nat.zero_le _)
    show L38a s i = _
    rw [round38a, dec_t (by omega), inb_nat hi, Int.toNat_natCast, nxt (by omega)]
    simp only [r25]
    unfold nmB sm
    generalize ((s.getD i 0).toNat : Int) = x
    cases decide (97 ≤ x) <;> cases decide (x ≤ 122) <;> cases dg x <;> cases decide (x = 45) <;> rfl
  rw [List.drop_zero, Bool.and_true] at lp
  rw [enter38, lp]
  unfold cn
  cases decide ((s.length : Int) < 1) <;> cases decide (20 < (s.length : Int)) <;> rfl
theorem wb_sm {c : UInt8} (h : sm c.toNat = true) : wb c = true := by unfold wb; rw [h]; rfl
theorem r40 (s : List UInt8) (h : s.length ≤ 1048576) : RUN E 40 [.str s] = some [.bool (an s)] := by
  have lp : L40a s 0 = some [.bool ((s.drop 0).all wb && true)] := by
    refine all_from (L := fun i => L40a s i) 0 (by show L40a s _ = _; rw [round40a, dec_f (by omega)]; rfl) (fun i _ hi => ?_) (Nat.zero_le _)
    show L40a s i = _
    rw [round40a, dec_t (by omega), inb_nat hi, Int.toNat_natCast, nxt (by omega), r58]
    simp only [opt_s, List.getD_cons_zero, tB, cond_true]
    cases wb (s.getD i 0) <;> rfl
  rw [List.drop_zero, Bool.and_true] at lp
  rw [enter40, lp]
  unfold an sm
  by_cases h1 : (s.length : Int) < 1
  · rw [dec_t h1]
    cases inb 0 s.length <;> cases decide (20 < (s.length : Int)) <;> rfl
  · have i0 : inb 0 s.length = true := inb_nat (i := 0) (by omega)
    rw [dec_f h1, i0]
    cases decide (20 < (s.length : Int)) with
    | true => rfl
    | false =>
      by_cases h2 : 97 ≤ ((s.getD 0 0).toNat : Int)
      · rw [dec_f (p := ((s.getD 0 0).toNat : Int) < 97) (by omega), dec_t h2]
        by_cases h3 : ((s.getD 0 0).toNat : Int) ≤ 122
        · rw [dec_f (p := 122 < ((s.getD 0 0).toNat : Int)) (by omega), dec_t h3]; rfl
        · rw [dec_t (p := 122 < ((s.getD 0 0).toNat : Int)) (by omega), dec_f h3]; rfl
      · rw [dec_t (p := ((s.getD 0 0).toNat : Int) < 97) (by omega), dec_f h2]; rfl
theorem r56 (s : List UInt8) (h : s.length ≤ 1048576) : RUN E 56 [.str s] = some [.bool (an s)] := by
  rw [enter56]
  unfold an
  cases s with
  | nil => rfl
  | cons c r =>
    have i0 : inb 0 (c :: r).length = true := inb_nat (i := 0) (by simp)
    have lp : L56a (c :: r) ((1 : Nat) : Int) = some [.bool (((c :: r).drop 1).all wb && true)] := by
      refine all_from (L := fun i => L56a (c :: r) i) 1 (by show L56a (c :: r) _ = _; rw [round56a, dec_f (by omega)]; rfl) (fun i _ hi => ?_) (by simp)
      show L56a (c :: r) i = _
      rw [round56a, dec_t (by omega), inb_nat hi, Int.toNat_natCast, nxt (by omega), r53]
      simp only [r54]
      unfold wb
      cases sm (((c :: r).getD i 0).toNat : Int) <;> cases dg (((c :: r).getD i 0).toNat : Int) <;> cases decide ((((c :: r).getD i 0).toNat : Int) = 95) <;> rfl
    have lp' : L56a (c :: r) 1 = some [.bool (r.all wb)] := by rw [Bool.and_true] at lp; exact lp
    rw [i0, dec_f (p := c :: r = []) (by simp), dec_f (p := ((c :: r).length : Int) < 1) (by simp; omega), r53, lp', List.getD_cons_zero, List.all_cons]
    cases decide (20 < ((c :: r).length : Int)) with
    | true => rfl
    | false =>
      cases hs : sm (c.toNat : Int) with
      | false => rfl
      | true => rw [wb_sm hs]; rfl
theorem r59 (s : List UInt8) (h : s.length ≤ 1048576) : RUN E 59 [.str s] = some [.bool (bare s)] := by
  rw [enter59]
  unfold bare
  cases s with
  | nil => rw [round59a]; rfl
  | cons c r =>
    have lp : L59a (c :: r) ((1 : Nat) : Int) = some [.bool (((c :: r).drop 1).all plB && true)] := by
      refine all_from (L := fun i => L59a (c :: r) i) 1 (by show L59a (c :: r) _ = _; rw [round59a, dec_f (by omega), dec_f (p := c :: r = []) (by simp)]; rfl) (fun i h1 hi => ?_) (by simp)
      show L59a (c :: r) i = _
      rw [round59a, dec_t (by omega), inb_nat hi, Int.toNat_natCast, nxt (by omega), r69, dec_f (p := (i : Int) = 0) (by omega)]
      simp only [opt_s, List.getD_cons_zero, tB, cond_true]
      cases plB ((c :: r).getD i 0) <;> rfl
    have lp' : L59a (c :: r) (IntKind.wrap .i64 (0 + 1)) = some [.bool (r.all plB)] := by rw [Bool.and_true] at lp; exact lp
    have i0 : inb 0 (c :: r).length = true := inb_nat (i := 0) (by simp)
    have r69' : RUN E 69 [.int (((c :: r).getD (Int.toNat 0) 0).toNat : Int)] = some [.bool (plB c)] := r69 c
    rw [round59a, dec_t (p := (0 : Int) < ((c :: r).length : Int)) (by simp), i0, lp', r69', dec_f (p := c :: r = []) (by simp), List.getD_cons_zero, List.all_cons]
    simp only [opt_s, tB]
    rw [show decide ((((c :: r).getD (Int.toNat 0) 0).toNat : Int) = 58) = decide ((c.toNat : Int) = 58) from rfl]
    cases plB c <;> cases decide ((c.toNat : Int) = 58) <;> simp [tB]
end lines
end Go.Proofs.Ytbinmfenhbpdnaa.pl

namespace Go.Proofs.Ytbinmfenhbpdnaa.pl
open Go.Proofs.Ytbinmfenhbpdnaa.DS
namespace lines

def sp (c : UInt8) : Bool := decide ((c.toNat : Int) = 32)
/-- Words: cut at each space outside of quotation marks; within them a backslash takes the next byte along. -/
def wsF : List UInt8 → Bool → List UInt8 → List (List UInt8)
  | cur, _, [] => [cur]
  | cur, q, [c] => bif q && bs c then [cur ++ [c]] else bif qt c then [cur ++ [c]] else bif sp c && !q then [cur, []] else [cur ++ [c]]
  | cur, q, c :: d :: r => bif q && bs c then wsF (cur ++ [c, d]) q r else bif qt c then wsF (cur ++ [c]) (!q) (d :: r) else
    bif sp c && !q then cur :: wsF [] q (d :: r) else wsF (cur ++ [c]) q (d :: r)
theorem sub_end (s : List UInt8) (f : Nat) : sub s f s.length = s.drop f := by unfold sub; rw [List.take_length]
theorem words_at (s : List UInt8) (hs : s.length ≤ 1048576) : ∀ n i : Nat, s.length - i ≤ n → i ≤ s.length → ∀ (f : Nat) (q : Bool) (out : List D), f ≤ i → out.length ≤ i →
    L37a s f q i out = some [.list (out ++ (wsF (sub s f i) q (s.drop i)).map .str)] := by
  have fin : ∀ (f i : Nat) (q : Bool) (out : List D), f ≤ s.length → s.length ≤ i → out.length ≤ i → i ≤ 1048577 → L37a s f q i out = some [.list (out ++ [.str (s.drop f)])] := by
    intro f i q out h1 h2 h3 h4
    rw [round37a, dec_f (by omega), cond_false, cutOk_lo h1, cond_true, fit_t (by simp; omega), cond_true]; rfl
  intro n
  induction n with
  | zero =>
    intro i hn hi f q out hf ho
    have : i = s.length := by omega
    subst this
    rw [fin f _ q out hf (Nat.le_refl _) ho (by omega), List.drop_length, sub_end]; rfl
  | succ n ih =>
    intro i hn hi f q out hf ho
    by_cases hil : i < s.length
    · rw [round37a, dec_t (by omega), inb_nat hil, Int.toNat_natCast, nxt (by omega), cutOk_both hf hi, fit_t (by simp; omega), cut_both]
      have w2 : IntKind.wrap IntKind.i64 (((i + 1 : Nat) : Int) + 1) = ((i + 2 : Nat) : Int) := nxt (i := i + 1) (by omega)
      rw [w2]
      simp only [cond_true]
      have e1 : L37a s f (!q) ((i + 1 : Nat) : Int) out = some [.list (out ++ (wsF (sub s f i ++ [s.getD i 0]) (!q) (s.drop (i + 1))).map .str)] := by rw [ih (i + 1) (by omega) (by omega) f (!q) out (by omega) (by omega), sub_snoc 0 hf hil]
      have e2 : L37a s f q ((i + 1 : Nat) : Int) out = some [.list (out ++ (wsF (sub s f i ++ [s.getD i 0]) q (s.drop (i + 1))).map .str)] := by rw [ih (i + 1) (by omega) (by omega) f q out (by omega) (by omega), sub_snoc 0 hf hil]
      have e3 : L37a s ((i + 1 : Nat) : Int) q ((i + 1 : Nat) : Int) (out ++ [D.str (sub s f i)]) = some [.list (out ++ [D.str (sub s f i)] ++ (wsF [] q (s.drop (i + 1))).map .str)] := by rw [ih (i + 1) (by omega) (by omega) (i + 1) q _ (by omega) (by simp; omega), sub_self]
      rw [e1, e2, e3, drop_cons 0 hil]
      by_cases hil2 : i + 1 < s.length
      · have e4 : L37a s f q ((i + 2 : Nat) : Int) out = some [.list (out ++ (wsF (sub s f i ++ [s.getD i 0] ++ [s.getD (i + 1) 0]) q (s.drop (i + 2))).map .str)] := by
          rw [ih (i + 2) (by omega) (by omega) f q out (by omega) (by omega), sub_snoc 0 (show f ≤ i + 1 by omega) hil2, sub_snoc 0 hf hil]
        rw [e4, drop_cons 0 hil2]
        simp only [wsF]
        unfold bs qt sp
        cases q <;> cases decide (((s.getD i 0).toNat : Int) = 92) <;> cases decide (((s.getD i 0).toNat : Int) = 34) <;> cases decide (((s.getD i 0).toNat : Int) = 32) <;> simp
      · have e4 : L37a s f q ((i + 2 : Nat) : Int) out = some [.list (out ++ [.str (sub s f i ++ [s.getD i 0])])] := by
          rw [fin f (i + 2) q out (by omega) (by omega) (by omega) (by omega), ← sub_end, show s.length = i + 1 by omega, sub_snoc 0 hf hil]
        rw [e4, show s.drop (i + 1) = [] from List.drop_eq_nil_of_le (by omega)]
        simp only [wsF]
        unfold bs qt sp
        cases q <;> cases decide (((s.getD i 0).toNat : Int) = 92) <;> cases decide (((s.getD i 0).toNat : Int) = 34) <;> cases decide (((s.getD i 0).toNat : Int) = 32) <;> simp
    · have : i = s.length := by omega
      subst this
      rw [fin f _ q out hf (Nat.le_refl _) ho (by omega), List.drop_length, sub_end]; rfl
theorem r37 (s : List UInt8) (hs : s.length ≤ 1048576) : RUN E 37 [.str s] = some [.list ((wsF [] false s).map .str)] := by
  have := words_at s hs s.length 0 (by omega) (by omega) 0 false [] (Nat.le_refl _) (by simp)
  rw [enter37]
  refine this.trans ?_
  rw [sub_self, List.drop_zero, List.nil_append]

/-! ### The reference's values -/
def vi : List UInt8 → Option (List UInt8)
  | [] => some []
  | [c] => bif lo c || qt c then none else bif bs c then none else some [c]
  | c :: d :: r => bif lo c || qt c then none else bif bs c then (bif qt d || bs d then (vi r).map (d :: ·) else none) else (vi (d :: r)).map (c :: ·)
def vres (out : List UInt8) : Option (List UInt8) → R
  | some v => some [.str (out ++ v), .bool true]
  | none => some [.str [], .bool false]
theorem vres_map (out : List UInt8) (c : UInt8) (o : Option (List UInt8)) : vres (out ++ [c]) o = vres out (o.map (c :: ·)) := by
  cases o with
  | none => rfl
  | some v => simp [vres]
theorem val_at (s : List UInt8) (hs : s.length ≤ 1048576) (h2 : 2 ≤ s.length) : ∀ n i : Nat, s.length - 1 - i ≤ n → i ≤ s.length - 1 → ∀ out : List UInt8, out.length ≤ i → L41a s out i = vres out (vi ((s.take (s.length - 1)).drop i)) := by
  have wk : IntKind.wrap IntKind.i64 ((s.length : Int) - 1) = ((s.length - 1 : Nat) : Int) := by rw [wrap_id (by omega) (by omega)]; omega
  have hm : (s.take (s.length - 1)).length = s.length - 1 := by simp
  have hg : ∀ i, i < s.length - 1 → (s.take (s.length - 1)).getD i 0 = s.getD i 0 := by
    intro i hi
    rw [List.getD_eq_getElem?_getD, List.getElem?_take, if_pos hi, List.getD_eq_getElem?_getD]
  have fin : ∀ out : List UInt8, L41a s out ((s.length - 1 : Nat) : Int) = some [.str out, .bool true] := by
    intro out
    rw [round41a, wk, dec_f (by omega)]; rfl
  intro n
  induction n with
  | zero =>
    intro i hn hi out ho
    have : i = s.length - 1 := by omega
    subst this
    rw [fin, List.drop_eq_nil_of_le (by rw [hm]; exact Nat.le_refl _)]; simp [vi, vres]
  | succ n ih =>
    intro i hn hi out ho
    by_cases hil : i < s.length - 1
    · have w1 : IntKind.wrap IntKind.i64 (((i + 1 : Nat) : Int) + 1) = ((i + 2 : Nat) : Int) := nxt (i := i + 1) (by omega)
      rw [round41a, wk, dec_t (by omega), inb_nat (show i < s.length by omega), Int.toNat_natCast, nxt (by omega), w1, inb_nat (show i + 1 < s.length by omega), Int.toNat_natCast, cutOk_both (i := i) (k := i + 1) (by omega) (by omega), cutOk_both (i := i + 1) (k := i + 2) (by omega) (by omega), cut_both, cut_both, sub_one 0 (show i < s.length by omega), sub_one 0 (show i + 1 < s.length by omega), lim_t (by simp; omega), lim_t (by simp; omega)]
      simp only [cond_true]
      rw [drop_cons 0 (show i < (s.take (s.length - 1)).length by rw [hm]; exact hil), hg i hil]
      rw [ih (i + 1) (by omega) (by omega) (out ++ [s.getD i 0]) (by simp; omega), vres_map]
      by_cases hil2 : i + 1 < s.length - 1
      · rw [dec_f (p := ((s.length - 1 : Nat) : Int) ≤ ((i + 1 : Nat) : Int)) (by omega), ih (i + 2) (by omega) (by omega) (out ++ [s.getD (i + 1) 0]) (by simp; omega), vres_map]
        rw [drop_cons 0 (show i + 1 < (s.take (s.length - 1)).length by rw [hm]; exact hil2), hg (i + 1) hil2]
        simp only [vi]
        unfold lo qt bs
        cases decide (((s.getD i 0).toNat : Int) < 32) <;> cases decide (((s.getD i 0).toNat : Int) = 34) <;> cases decide (((s.getD i 0).toNat : Int) = 92) <;> cases decide (((s.getD (i + 1) 0).toNat : Int) = 34) <;> cases decide (((s.getD (i + 1) 0).toNat : Int) = 92) <;> rfl
      · rw [dec_t (p := ((s.length - 1 : Nat) : Int) ≤ ((i + 1 : Nat) : Int)) (by omega), show (s.take (s.length - 1)).drop (i + 1) = [] from List.drop_eq_nil_of_le (by rw [hm]; omega)]
        simp only [vi]
        unfold lo qt bs
        cases decide (((s.getD i 0).toNat : Int) < 32) <;> cases decide (((s.getD i 0).toNat : Int) = 34) <;> cases decide (((s.getD i 0).toNat : Int) = 92) <;> rfl
    · have : i = s.length - 1 := by omega
      subst this
      rw [fin, List.drop_eq_nil_of_le (by rw [hm]; exact Nat.le_refl _)]; simp [vi, vres]
/-- A value: bare, or between quotation marks. -/
def val (s : List UInt8) : Option (List UInt8) := bif bare s then some s else
  bif decide ((s.length : Int) < 2) || !qt (s.getD 0 0) || !qt (s.getD (s.length - 1) 0) then none else vi ((s.take (s.length - 1)).drop 1)
theorem r41 (s : List UInt8) (hs : s.length ≤ 1048576) : RUN E 41 [.str s] = vres [] (val s) := by
  rw [enter41, r59 s hs]
  simp only [opt_s, List.getD_cons_zero, tB]
  unfold val
  cases bare s with
  | true => rfl
  | false =>
    simp only [cond_false]
    by_cases h2 : (s.length : Int) < 2
    · rw [dec_t h2]
      cases inb 0 s.length <;> cases inb (IntKind.wrap IntKind.i64 ((s.length : Int) - 1)) s.length <;> rfl
    · have i0 : inb 0 s.length = true := inb_nat (i := 0) (by omega)
      have wk : IntKind.wrap IntKind.i64 ((s.length : Int) - 1) = ((s.length - 1 : Nat) : Int) := by rw [wrap_id (by omega) (by omega)]; omega
      have lp := val_at s hs (by omega) s.length 1 (by omega) (by omega) [] (by simp)
      have lp' : L41a s [] 1 = vres [] (vi ((s.take (s.length - 1)).drop 1)) := lp
      rw [dec_f h2, i0, wk, inb_nat (show s.length - 1 < s.length by omega), Int.toNat_natCast, lp']
      unfold qt
      cases decide (((s.getD 0 0).toNat : Int) = 34) <;> cases decide (((s.getD (s.length - 1) 0).toNat : Int) = 34) <;> rfl
end lines
end Go.Proofs.Ytbinmfenhbpdnaa.pl

namespace Go.Proofs.Ytbinmfenhbpdnaa.pl
open Go.Proofs.Ytbinmfenhbpdnaa.DS
namespace lines

/-- What cannot stand as a value without quotation marks. -/
def nov (v : List UInt8) : Bool := decide (v = []) || decide (((v.getD 0 0).toNat : Int) = 58)
def pQuote (n s : List UInt8) (b : Bool) : List UInt8 × List UInt8 × List UInt8 × Bool := bif b then (n, [], s, true) else (n, (pq s).1, (pq s).2.1, (pq s).2.2)
/-- An argument: its name, its value, what is left, whether it is bad. -/
def pArg (s : List UInt8) : List UInt8 × List UInt8 × List UInt8 × Bool :=
  bif hasPre s [34] then pQuote [] (s.drop 1) false else
  bif hasPre (s.dropWhile plB) [61] then
    bif hasPre ((s.dropWhile plB).drop 1) [34] then pQuote (s.takeWhile plB) (((s.dropWhile plB).drop 1).drop 1) (!an (s.takeWhile plB)) else
    (s.takeWhile plB, ((s.dropWhile plB).drop 1).takeWhile plB, ((s.dropWhile plB).drop 1).dropWhile plB, !an (s.takeWhile plB) || nov (((s.dropWhile plB).drop 1).takeWhile plB))
  else ([], s.takeWhile plB, s.dropWhile plB, nov (s.takeWhile plB))
theorem dw_le (p : UInt8 → Bool) (s : List UInt8) : (s.dropWhile p).length ≤ s.length := by rw [← drop_tw, List.length_drop]; omega
def res4 (x : List UInt8 × List UInt8 × List UInt8 × Bool) : R := some [.agg [.str x.1, .str x.2.1], rd x.2.2.1 x.2.2.2]
theorem cquote (n s : List UInt8) (b : Bool) (hs : s.length ≤ 1048576) (a : D) (ha : D.toStr (D.cell a 0) = n) : C35a s b [] [] a = res4 (pQuote n s b) := by
  rw [round35a]
  cases b with
  | true => rw [quoted_bad, ha]; rfl
  | false => rw [quoted [] [] a s.length s (Nat.le_refl _) [] (by simp; omega), ha, List.nil_append, dBytes_bytesD]; rfl
theorem inbOr (v : List UInt8) (b : Bool) : (bif inb 0 v.length then true else bif bif bif b then true else decide (v = ([] : List UInt8)) then false else true then false else true) = true := by
  cases v with
  | nil => cases b <;> rfl
  | cons c r => rw [show inb 0 (c :: r).length = true from inb_nat (i := 0) (by simp)]; rfl
theorem r35 (s : List UInt8) (hs : s.length ≤ 1048576) : RUN E 35 [rd s false] = res4 (pArg s) := by
  have h1 := dw_le plB s
  have h2 := tw_le plB s
  have h3 := dw_le plB ((s.dropWhile plB).drop 1)
  have h4 := tw_le plB ((s.dropWhile plB).drop 1)
  have t34 : RUN E 34 [rd s false, .str [34]] = _ := r34 s hs false [34] (by simp)
  have t55 : RUN E 55 [rd s false] = _ := r55 s hs false
  have t61 : RUN E 34 [rd (s.dropWhile plB) false, .str [61]] = _ := r34 (s.dropWhile plB) (by omega) false [61] (by simp)
  have t56 := r56 (s.takeWhile plB) (by omega)
  refine (enter35 s false).trans ?_
  unfold pArg
  show opt (RUN E 34 [rd s false, .str [34]]) _ = _
  rw [t34]
  simp only [opt_s, List.getD_cons_zero, List.getD_cons_succ, tB]
  cases hq : hasPre s [34] with
  | true => exact cquote [] (s.drop 1) false (by simp; omega) _ rfl
  | false =>
    simp only [cond_true, cond_false]
    show opt (RUN E 55 [rd s false]) _ = _
    rw [t55]
    simp only [opt_s, List.getD_cons_zero, List.getD_cons_succ, tS]
    show opt (RUN E 34 [rd (s.dropWhile plB) false, .str [61]]) _ = _
    rw [t61]
    simp only [opt_s, List.getD_cons_zero, List.getD_cons_succ, tB]
    generalize s.takeWhile plB = v at *
    generalize s.dropWhile plB = t at *
    cases he : hasPre t [61] with
    | false =>
      simp only [cond_true, cond_false]
      show cond (bif inb 0 v.length then true else bif bif bif false then true else decide (v = ([] : List UInt8)) then false else true then false else true) _ _ = _
      rw [inbOr]
      unfold nov res4
      cases decide (v = []) <;> cases decide (((v.getD 0 0).toNat : Int) = 58) <;> rfl
    | true =>
      simp only [cond_true, cond_false]
      show opt (cond true (RUN E 56 [.str v]) (some [])) _ = _
      rw [cond_true, t56]
      simp only [opt_s, List.getD_cons_zero, tB]
      have hd : (t.drop 1).length ≤ 1048576 := by simp; omega
      have t34b : RUN E 34 [rd (t.drop 1) (!an v), .str [34]] = _ := r34 (t.drop 1) hd (!an v) [34] (by simp)
      show opt (RUN E 34 [rd (t.drop 1) (!an v), .str [34]]) _ = _
      rw [t34b]
      simp only [opt_s, List.getD_cons_zero, List.getD_cons_succ, tB]
      cases hq2 : hasPre (t.drop 1) [34] with
      | true => exact cquote v ((t.drop 1).drop 1) (!an v) (by simp; omega) _ rfl
      | false =>
        simp only [cond_true, cond_false]
        have t55b : RUN E 55 [rd (t.drop 1) (!an v)] = _ := r55 (t.drop 1) hd (!an v)
        show opt (RUN E 55 [rd (t.drop 1) (!an v)]) _ = _
        rw [t55b]
        simp only [opt_s, List.getD_cons_zero, List.getD_cons_succ, tS]
        generalize (t.drop 1).takeWhile plB = w at *
        generalize (t.drop 1).dropWhile plB = u at *
        show cond (bif inb 0 w.length then true else bif bif bif !an v then true else decide (w = ([] : List UInt8)) then false else true then false else true) _ _ = _
        rw [inbOr]
        unfold nov res4
        cases an v <;> cases decide (w = []) <;> cases decide (((w.getD 0 0).toNat : Int) = 58) <;> rfl

/-! ### Faults of a row of arguments: two walks of one form -/
theorem argsC (l : List D) (hl : l.length ≤ 1048576) : ∀ n i : Nat, i + n = l.length → ∃ e, L36c l l (l.length : Int) (i : Int) = some [.int e] ∧ L42c l l (l.length : Int) (i : Int) = some [.int e] := by
  intro n
  induction n with
  | zero => intro i hi; exact ⟨0, by rw [round36c, dec_f (by omega)]; rfl, by rw [round42c, dec_f (by omega)]; rfl⟩
  | succ n ih =>
    intro i hi
    obtain ⟨e, h1, h2⟩ := ih (i + 1) (by omega)
    rw [round36c, round42c, dec_t (by omega), inb_nat (show i < l.length by omega), Int.toNat_natCast, nxt (by omega), h1, h2]
    by_cases h0 : 0 < (i : Int)
    · have w : IntKind.wrap IntKind.i64 ((i : Int) - 1) = ((i - 1 : Nat) : Int) := by rw [wrap_id (by omega) (by omega)]; omega
      rw [w, inb_nat (show i - 1 < l.length by omega), dec_t h0]
      simp only [cond_true]
      cases decide (D.toStr (D.cell (l.getD i .no) 0) = ([] : List UInt8)) <;> cases decide (D.toStr (D.cell (l.getD (Int.toNat ((i - 1 : Nat) : Int)) .no) 0) = ([] : List UInt8)) <;> exact ⟨_, rfl, rfl⟩
    · rw [dec_f h0]
      cases inb (IntKind.wrap IntKind.i64 ((i : Int) - 1)) l.length <;> exact ⟨_, rfl, rfl⟩
theorem argsB (l : List D) (a : D) (i : Nat) (v : List D) (hv : v.length ≤ 1048576) (hi : i ≤ 1048576) (hn : ∃ e, L36a l l (l.length : Int) ((i + 1 : Nat) : Int) = some [.int e] ∧ L42a l l (l.length : Int) ((i + 1 : Nat) : Int) = some [.int e]) :
    ∀ n j : Nat, j + n = v.length → ∃ e, L36b l l (l.length : Int) (i : Int) v (v.length : Int) (j : Int) a = some [.int e] ∧ L42b l l (l.length : Int) (i : Int) v (v.length : Int) (j : Int) a = some [.int e] := by
  intro n
  induction n with
  | zero =>
    intro j hj
    obtain ⟨e, h1, h2⟩ := hn
    refine ⟨e, ?_, ?_⟩
    · rw [round36b, dec_f (by omega), nxt (i := i) (by omega), h1]; rfl
    · rw [round42b, dec_f (by omega), nxt (i := i) (by omega), h2]; rfl
  | succ n ih =>
    intro j hj
    obtain ⟨e, h1, h2⟩ := ih (j + 1) (by omega)
    rw [round36b, round42b, dec_t (by omega), inb_nat (show j < v.length by omega), Int.toNat_natCast, nxt (i := j) (by omega), h1, h2]
    cases decide (D.toStr (D.cell a 0) = ([] : List UInt8)) <;> cases decide (D.toStr (D.cell a 0) = D.toStr (D.cell (v.getD j .no) 0)) <;> exact ⟨_, rfl, rfl⟩
theorem argsA (l : List D) (hl : l.length ≤ 1048576) : ∀ n i : Nat, i + n = l.length → ∃ e, L36a l l (l.length : Int) (i : Int) = some [.int e] ∧ L42a l l (l.length : Int) (i : Int) = some [.int e] := by
  intro n
  induction n with
  | zero =>
    intro i hi
    obtain ⟨e, h1, h2⟩ := argsC l hl l.length 0 (Nat.zero_add _)
    exact ⟨e, by rw [round36a, dec_f (by omega)]; exact h1, by rw [round42a, dec_f (by omega)]; exact h2⟩
  | succ n ih =>
    intro i hi
    have hb := argsB l (l.getD i .no) i (l.take i) (by simp; omega) (by omega) (ih (i + 1) (by omega)) (l.take i).length 0 (Nat.zero_add _)
    obtain ⟨e, h1, h2⟩ := hb
    refine ⟨e, ?_, ?_⟩
    · rw [round36a, dec_t (by omega), inb_nat (show i < l.length by omega), Int.toNat_natCast, cutOk_hi (by omega), cut_hi]; exact h1
    · rw [round42a, dec_t (by omega), inb_nat (show i < l.length by omega), Int.toNat_natCast, cutOk_hi (by omega), cut_hi]; exact h2
theorem args (l : List D) (hl : l.length ≤ 1048576) : ∃ e, RUN E 36 [.list l] = some [.int e] ∧ RUN E 42 [.list l] = some [.int (bif decide (12 < (l.length : Int)) then 4 else e)] := by
  obtain ⟨e, h1, h2⟩ := argsA l hl l.length 0 (Nat.zero_add _)
  refine ⟨e, by rw [enter36]; exact h1, ?_⟩
  rw [enter42]
  cases decide (12 < (l.length : Int)) with
  | true => rfl
  | false => exact h2
end lines
end Go.Proofs.Ytbinmfenhbpdnaa.pl
