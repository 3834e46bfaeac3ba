/- Printing expressions: the program and the reference print the same; the law. -/
import Derived.Test.YtcmeincdmphaoaaGreatDoorDxWwB
import Derived.Test.YtcmeincdmphaoaaGreatDoorF8
import Derived.Lib.IndexBytes
import Derived.Lib.IndexMore
import Derived.Lib.LaidTab
import Derived.MakeChecks
set_option linter.unusedVariables false
set_option linter.unusedSimpArgs false
namespace Go.Proofs.YtcmeincdmphaoaaGreatDoor.ww
open Go.Proofs.YtcmeincdmphaoaaGreatDoor.DS
namespace wr
abbrev B := List UInt8

/-! ### Loops -/
theorem any_loopS {L : Int → R} {s : List UInt8} {p : UInt8 → Bool} (hend : L (s.length : Nat) = some [.bool false]) (hL : ∀ i : Nat, i < s.length → L i = cond (p (s.getD i 0)) (some [.bool true]) (L ((i + 1 : Nat) : Int))) : L 0 = some [.bool (s.any p)] := by
  have key : ∀ n i : Nat, i + n = s.length → L i = some [.bool ((s.drop i).any p)] := by
    intro n
    induction n with
    | zero =>
      intro i hi
      have : i = s.length := by omega
      subst this
      rw [hend, List.drop_length]; rfl
    | succ n ih =>
      intro i hi
      have hil : i < s.length := by omega
      rw [hL i hil, ih (i + 1) (by omega), drop_cons 0 hil]
      simp only [List.any_cons]
      cases p (s.getD i 0) <;> rfl
  have := key s.length 0 (by omega)
  rwa [List.drop_zero] at this
theorem all_loopK {L : Int → R} {s : List UInt8} {p : UInt8 → Bool} {K : R} (hend : L (s.length : Nat) = K) (hL : ∀ i : Nat, i < s.length → L i = cond (p (s.getD i 0)) (L ((i + 1 : Nat) : Int)) (some [.bool false])) : L 0 = cond (s.all p) K (some [.bool false]) := by
  have key : ∀ n i : Nat, i + n = s.length → L i = cond ((s.drop i).all p) K (some [.bool false]) := by
    intro n
    induction n with
    | zero =>
      intro i hi
      have : i = s.length := by omega
      subst this
      rw [hend, List.drop_length]; rfl
    | succ n ih =>
      intro i hi
      have hil : i < s.length := by omega
      rw [hL i hil, ih (i + 1) (by omega), drop_cons 0 hil]
      simp only [List.all_cons]
      cases p (s.getD i 0) <;> rfl
  have := key s.length 0 (by omega)
  rwa [List.drop_zero] at this

/-! ### Cutting at a byte -/
theorem r63 (s : B) (c : UInt8) : RUN E 63 [.str s, .str [c]] = some [.int (Lib.indexByte s c)] := (RUN_eq _ _ _).trans (by kernel_rfl)
theorem r62 (s : B) (c : UInt8) : RUN E 62 [.str s, .str [c]] = some [.int (Lib.countByte s c : Int)] := (RUN_eq _ _ _).trans (by kernel_rfl)
theorem r73 (s : B) (h : s.length ≤ 1048576) (c : UInt8) : RUN E 73 [.str s, .str [c]] = some [.list ((splitC c s).map .str)] := by
  have hc : s.count c ≤ s.length := List.count_le_length
  have n1 : IntKind.wrap IntKind.i64 ((s.count c : Int) + 1) = ((s.count c + 1 : Nat) : Int) := nxt (by omega)
  have n2 : IntKind.wrap IntKind.i64 ((s.length : Int) + 1) = ((s.length + 1 : Nat) : Int) := nxt (by omega)
  have mm : mmInt false ((s.count c + 1 : Nat) : Int) ((s.length + 1 : Nat) : Int) = ((s.count c + 1 : Nat) : Int) := by
    unfold mmInt; rw [dec_f (p := ((s.length + 1 : Nat) : Int) < ((s.count c + 1 : Nat) : Int)) (by omega)]; rfl
  have n3 : IntKind.wrap IntKind.i64 (((s.count c + 1 : Nat) : Int) - 1) = ((0 + s.count c : Nat) : Int) := by rw [wrap_id (by omega) (by omega)]; omega
  have lp := split_loop (L := fun s n i a => L100b s [c] 0 n i a) (X := fun s => RUN E 63 [.str s, .str [c]]) (c := c) (fun s _ => r63 s c) (fun s n i a => round100b s [c] 0 n i a) s.length s (Nat.le_refl _) (by omega) 0 (List.replicate (s.count c + 1) (.str [])) (by omega) (by simp)
  have e50 : RUN E 100 [.str s, .str [c], .int 0, .int (-1)] = some [.list ((splitC c s).map .str)] := by
    rw [enter100, dec_f (by omega), dec_f (by simp), dec_t (by omega), r62]
    simp only [cond_true, cond_false, opt_s, List.getD_cons_zero, tI, Lib.countByte, n1]
    rw [round100a, n2, mm, n3, dec_t (by omega), dec_t (by omega), dec_t (by rw [lim_val]; omega), Int.toNat_natCast]
    simpa using lp
  rw [enter73, e50]; rfl

/-! ### Names -/
def sm (x : Int) : Bool := bif decide (97 ≤ x) then decide (x ≤ 122) else false
def wd (x : Int) : Bool := sm x || (bif decide (48 ≤ x) then decide (x ≤ 57) else false) || decide (x = 95)
theorem r87 (x : Int) : RUN E 87 [.int x] = some [.bool (sm x)] := enter87 x
theorem r88 (x : Int) : RUN E 88 [.int x] = some [.bool (wd x)] := by
  rw [enter88, r87]
  simp only [opt_s, List.getD_cons_zero, tB, enter110]
  unfold wd
  cases sm x <;> cases (bif decide (48 ≤ x) then decide (x ≤ 57) else false) <;> cases decide (x = 95) <;> rfl
theorem r72 (x : Int) : RUN E 72 [.int x] = some [.bool (wd x)] := by
  rw [enter72]
  simp only [enter99]
  unfold wd sm
  cases (bif decide (97 ≤ x) then decide (x ≤ 122) else false) <;> cases (bif decide (48 ≤ x) then decide (x ≤ 57) else false) <;> cases decide (x = 95) <;> rfl
def kw : List B := [[105, 102], [101, 97, 99, 104], [119, 105, 116, 104], [108, 101, 116], [99, 97, 108, 108], [101, 108, 115, 101], [101, 110, 100], [105, 110], [97, 110, 100], [111, 114], [110, 111, 116], [116, 114, 117, 101], [102, 97, 108, 115, 101], [110, 105, 108]]
def kwAll (s : B) : Bool := kw.all fun k => !decide (s = k)
def nm (s : B) : Bool := !(decide (s = []) || decide (20 < (s.length : Int)) || !sm ((s.getD 0 0).toNat : Int)) && s.all (fun c => wd (c.toNat : Int)) && kwAll s
theorem kw_split : splitC 32 ([105, 102, 32, 101, 97, 99, 104, 32, 119, 105, 116, 104, 32, 108, 101, 116, 32, 99, 97, 108, 108, 32, 101, 108, 115, 101, 32, 101, 110, 100, 32, 105, 110, 32, 97, 110, 100, 32, 111, 114, 32, 110, 111, 116, 32, 116, 114, 117, 101, 32, 102, 97, 108, 115, 101, 32, 110, 105, 108] : B) = kw := by decide +kernel
theorem hd0 (s : B) : (bif inb 0 s.length then true else bif bif bif decide (s = ([] : B)) then true else decide (20 < (↑s.length : Int)) then false else true then false else true) = true := by
  cases s with
  | nil => rfl
  | cons b r => rw [show inb 0 (b :: r).length = true from inb_nat (i := 0) (by simp)]; rfl
theorem r74 (s : B) (h : s.length ≤ 1048576) : RUN E 74 [.str s] = some [.bool (nm s)] := by
  have lp : L74a s 0 = cond (s.all fun c => wd (c.toNat : Int)) (some [.bool (kwAll s)]) (some [.bool false]) := by
    refine all_loopK (L := fun i => L74a s i) ?_ fun i hi => ?_
    · show L74a s _ = _
      rw [round74a, dec_f (by omega)]
      unfold kwAll kw
      by_cases h0 : s = ([105, 102] : B)
      · rw [show decide (s = ([105, 102] : B)) = true from dec_t h0]; simp [h0]
      rw [show decide (s = ([105, 102] : B)) = false from dec_f h0]
      by_cases h1 : s = ([101, 97, 99, 104] : B)
      · rw [show decide (s = ([101, 97, 99, 104] : B)) = true from dec_t h1]; simp [h1]
      rw [show decide (s = ([101, 97, 99, 104] : B)) = false from dec_f h1]
      by_cases h2 : s = ([119, 105, 116, 104] : B)
      · rw [show decide (s = ([119, 105, 116, 104] : B)) = true from dec_t h2]; simp [h2]
      rw [show decide (s = ([119, 105, 116, 104] : B)) = false from dec_f h2]
      by_cases h3 : s = ([108, 101, 116] : B)
      · rw [show decide (s = ([108, 101, 116] : B)) = true from dec_t h3]; simp [h3]
      rw [show decide (s = ([108, 101, 116] : B)) = false from dec_f h3]
      by_cases h4 : s = ([99, 97, 108, 108] : B)
      · rw [show decide (s = ([99, 97, 108, 108] : B)) = true from dec_t h4]; simp [h4]
      rw [show decide (s = ([99, 97, 108, 108] : B)) = false from dec_f h4]
      by_cases h5 : s = ([101, 108, 115, 101] : B)
      · rw [show decide (s = ([101, 108, 115, 101] : B)) = true from dec_t h5]; simp [h5]
      rw [show decide (s = ([101, 108, 115, 101] : B)) = false from dec_f h5]
      by_cases h6 : s = ([101, 110, 100] : B)
      · rw [show decide (s = ([101, 110, 100] : B)) = true from dec_t h6]; simp [h6]
      rw [show decide (s = ([101, 110, 100] : B)) = false from dec_f h6]
      by_cases h7 : s = ([105, 110] : B)
      · rw [show decide (s = ([105, 110] : B)) = true from dec_t h7]; simp [h7]
      rw [show decide (s = ([105, 110] : B)) = false from dec_f h7]
      by_cases h8 : s = ([97, 110, 100] : B)
      · rw [show decide (s = ([97, 110, 100] : B)) = true from dec_t h8]; simp [h8]
      rw [show decide (s = ([97, 110, 100] : B)) = false from dec_f h8]
      by_cases h9 : s = ([111, 114] : B)
      · rw [show decide (s = ([111, 114] : B)) = true from dec_t h9]; simp [h9]
      rw [show decide (s = ([111, 114] : B)) = false from dec_f h9]
      by_cases h10 : s = ([110, 111, 116] : B)
      · rw [show decide (s = ([110, 111, 116] : B)) = true from dec_t h10]; simp [h10]
      rw [show decide (s = ([110, 111, 116] : B)) = false from dec_f h10]
      by_cases h11 : s = ([116, 114, 117, 101] : B)
      · rw [show decide (s = ([116, 114, 117, 101] : B)) = true from dec_t h11]; simp [h11]
      rw [show decide (s = ([116, 114, 117, 101] : B)) = false from dec_f h11]
      by_cases h12 : s = ([102, 97, 108, 115, 101] : B)
      · rw [show decide (s = ([102, 97, 108, 115, 101] : B)) = true from dec_t h12]; simp [h12]
      rw [show decide (s = ([102, 97, 108, 115, 101] : B)) = false from dec_f h12]
      by_cases h13 : s = ([110, 105, 108] : B)
      · rw [show decide (s = ([110, 105, 108] : B)) = true from dec_t h13]; simp [h13]
      rw [show decide (s = ([110, 105, 108] : B)) = false from dec_f h13]
      simp [h0, h1, h2, h3, h4, h5, h6, h7, h8, h9, h10, h11, h12, h13]
    · show L74a s i = _
      rw [round74a, dec_t (by omega), inb_nat hi, Int.toNat_natCast, nxt (by omega), r88]
      simp only [cond_true, opt_s, List.getD_cons_zero, tB]
      cases wd ((s.getD i 0).toNat : Int) <;> rfl
  rw [enter74, hd0, lp, r87]
  unfold nm
  cases decide (s = ([] : B)) <;> cases decide (20 < (s.length : Int)) <;> cases sm ((s.getD 0 0).toNat : Int) <;> cases (s.all fun c => wd (c.toNat : Int)) <;> simp [opt, D.toBool]
theorem len0 (s : B) : decide ((s.length : Int) < 1) = decide (s = ([] : B)) := by
  cases s with
  | nil => rfl
  | cons b r => rw [dec_f (p := (((b :: r).length : Nat) : Int) < 1) (by simp; omega), dec_f (by simp)]
theorem r58 (s : B) (h : s.length ≤ 1048576) : RUN E 58 [.str s] = some [.bool (nm s)] := by
  have lk : L58b s (kw.map .str) ((kw.map D.str).length : Int) 0 = some [.bool (kwAll s)] := by
    have := all_loop (L := fun i => L58b s (kw.map .str) ((kw.map D.str).length : Int) i) (xs := kw.map .str) (p := fun d => !decide (s = D.toStr d)) (by show L58b s _ _ _ = _; rw [round58b, dec_f (by omega)]; rfl) fun i hi => by
      show L58b s _ _ i = _
      rw [round58b, dec_t (by omega), inb_nat hi, Int.toNat_natCast, nxt (by have : (kw.map D.str).length = 14 := rfl; omega)]
      cases decide (s = D.toStr ((kw.map D.str).getD i .no)) <;> rfl
    refine this.trans ?_
    unfold kwAll
    rw [List.all_map]; rfl
  have lp : L58a s 0 = cond (s.all fun c => wd (c.toNat : Int)) (some [.bool (kwAll s)]) (some [.bool false]) := by
    refine all_loopK (L := fun i => L58a s i) ?_ fun i hi => ?_
    · show L58a s _ = _
      rw [round58a, dec_f (by omega), r73 _ (by decide) 32, kw_split]
      exact lk
    · show L58a s i = _
      rw [round58a, dec_t (by omega), inb_nat hi, Int.toNat_natCast, nxt (by omega), r72]
      simp only [cond_true, opt_s, List.getD_cons_zero, tB]
      cases wd ((s.getD i 0).toNat : Int) <;> rfl
  have hsm : sm ((s.getD 0 0).toNat : Int) = !(bif decide (((s.getD 0 0).toNat : Int) < 97) then true else decide (122 < ((s.getD 0 0).toNat : Int))) := by
    unfold sm
    by_cases h1 : ((s.getD 0 0).toNat : Int) < 97
    · rw [dec_t h1, dec_f (p := (97 : Int) ≤ _) (by omega)]; rfl
    · rw [dec_f h1, dec_t (p := (97 : Int) ≤ _) (by omega)]
      by_cases h2 : (122 : Int) < ((s.getD 0 0).toNat : Int)
      · rw [dec_t h2, dec_f (by omega)]; rfl
      · rw [dec_f h2, dec_t (by omega)]; rfl
  rw [enter58, lp, len0]
  unfold nm
  rw [hsm]
  cases s with
  | nil => rfl
  | cons b r =>
    have hin : inb 0 (b :: r).length = true := inb_nat (i := 0) (by simp)
    rw [hin, dec_f (p := (b :: r) = []) (by simp)]
    generalize ((b :: r).all fun c => wd (c.toNat : Int)) = q1
    generalize decide ((((b :: r).getD 0 0).toNat : Int) < 97) = q2
    generalize decide ((122 : Int) < (((b :: r).getD 0 0).toNat : Int)) = q3
    generalize decide ((20 : Int) < ((b :: r).length : Int)) = q4
    generalize kwAll (b :: r) = q5
    cases q1 <;> cases q2 <;> cases q3 <;> cases q4 <;> cases q5 <;> rfl

/-! ### Bytes -/
def bad (c : UInt8) : Bool := decide ((c.toNat : Int) < 32) && !decide ((c.toNat : Int) = 9) && !decide ((c.toNat : Int) = 10)
theorem r22 (s : B) (h : s.length ≤ 1048576) : RUN E 22 [.str s] = some [.bool (s.any bad)] := by
  rw [enter22]
  refine any_loopS (L := fun i => L22a s i) (by show L22a s _ = _; rw [round22a, dec_f (by omega)]; rfl) fun i hi => ?_
  show L22a s i = _
  rw [round22a, dec_t (by omega), inb_nat hi, Int.toNat_natCast, nxt (by omega)]
  unfold bad
  cases decide (((s.getD i 0).toNat : Int) < 32) <;> cases decide (((s.getD i 0).toNat : Int) = 9) <;> cases decide (((s.getD i 0).toNat : Int) = 10) <;> rfl
theorem r60 (s : B) (h : s.length ≤ 1048576) : RUN E 60 [.str s, .bool true, .bool true] = some [.bool (s.any bad)] := by
  rw [enter60]
  refine any_loopS (L := fun i => L60a s true true i) (by show L60a s _ _ _ = _; rw [round60a, dec_f (by omega)]; rfl) fun i hi => ?_
  show L60a s true true i = _
  rw [round60a, dec_t (by omega), inb_nat hi, Int.toNat_natCast, nxt (by omega)]
  unfold bad
  cases decide (((s.getD i 0).toNat : Int) < 32) <;> cases decide (((s.getD i 0).toNat : Int) = 9) <;> cases decide (((s.getD i 0).toNat : Int) = 10) <;> rfl

/-! ### How many arguments a function has -/
def T50 : List B := [[108, 101, 110, 49], [117, 112, 112, 101, 114, 49], [108, 111, 119, 101, 114, 49], [116, 114, 105, 109, 49], [115, 108, 117, 103, 49], [112, 108, 97, 105, 110, 49], [100, 101, 102, 97, 117, 108, 116, 50], [106, 111, 105, 110, 50], [115, 112, 108, 105, 116, 50], [114, 101, 112, 108, 97, 99, 101, 51], [102, 105, 114, 115, 116, 50], [108, 97, 115, 116, 50], [114, 101, 118, 101, 114, 115, 101, 49], [115, 111, 114, 116, 50], [119, 104, 101, 114, 101, 51], [104, 97, 115, 50], [107, 101, 121, 115, 49], [97, 100, 100, 50], [115, 117, 98, 50], [109, 117, 108, 50], [100, 105, 118, 50], [109, 111, 100, 50], [115, 116, 114, 105, 110, 103, 49], [121, 101, 97, 114, 49], [109, 111, 110, 116, 104, 49], [100, 97, 121, 49], [102, 97, 99, 116, 49], [108, 105, 115, 116, 50]]
theorem t50_split : splitC 32 ([108, 101, 110, 49, 32, 117, 112, 112, 101, 114, 49, 32, 108, 111, 119, 101, 114, 49, 32, 116, 114, 105, 109, 49, 32, 115, 108, 117, 103, 49, 32, 112, 108, 97, 105, 110, 49, 32, 100, 101, 102, 97, 117, 108, 116, 50, 32, 106, 111, 105, 110, 50, 32, 115, 112, 108, 105, 116, 50, 32, 114, 101, 112, 108, 97, 99, 101, 51, 32, 102, 105, 114, 115, 116, 50, 32, 108, 97, 115, 116, 50, 32, 114, 101, 118, 101, 114, 115, 101, 49, 32, 115, 111, 114, 116, 50, 32, 119, 104, 101, 114, 101, 51, 32, 104, 97, 115, 50, 32, 107, 101, 121, 115, 49, 32, 97, 100, 100, 50, 32, 115, 117, 98, 50, 32, 109, 117, 108, 50, 32, 100, 105, 118, 50, 32, 109, 111, 100, 50, 32, 115, 116, 114, 105, 110, 103, 49, 32, 121, 101, 97, 114, 49, 32, 109, 111, 110, 116, 104, 49, 32, 100, 97, 121, 49, 32, 102, 97, 99, 116, 49, 32, 108, 105, 115, 116, 50] : B) = T50 := by decide +kernel
def fnd (s : B) : List (B × Int) → Int
  | [] => 0
  | (k, n) :: r => if s = k then n else fnd s r
def K46 : List (B × Int) := T50.map fun t => (t.take (t.length - 1), ((t.getD (t.length - 1) 0).toNat : Int) - 48)
theorem r50 (s : B) : RUN E 50 [.str s] = some [.int (fnd s K46)] := by
  have key : ∀ n i : Nat, i + n = T50.length → L50a s (T50.map .str) (T50.length : Int) i = some [.int (fnd s (K46.drop i))] := by
    intro n
    induction n with
    | zero =>
      intro i hi
      have hk : K46.drop i = [] := List.drop_eq_nil_of_le (by have : K46.length = T50.length := List.length_map _; omega)
      rw [round50a, dec_f (by omega), hk]; rfl
    | succ n ih =>
      intro i hi
      have hil : i < T50.length := by omega
      have h28 : T50.length = 28 := rfl
      have hkl : i < K46.length := by have : K46.length = T50.length := List.length_map _; omega
      rw [round50a, dec_t (by omega), inb_nat (by rw [List.length_map]; omega), nxt (by omega), ih (i + 1) (by omega), List.drop_eq_getElem_cons hkl, Int.toNat_natCast]
      have hg : (T50.map D.str).getD i .no = .str T50[i] := by simp [List.getD_eq_getElem?_getD, hil]; rfl
      have hk : K46[i] = (T50[i].take (T50[i].length - 1), ((T50[i].getD (T50[i].length - 1) 0).toNat : Int) - 48) := by simp [K46]; exact ⟨rfl, rfl⟩
      have hlen : ∀ t ∈ T50, 1 ≤ t.length ∧ t.length ≤ 100 ∧ 48 ≤ (t.getD (t.length - 1) 0).toNat ∧ (t.getD (t.length - 1) 0).toNat ≤ 57 := by decide +kernel
      obtain ⟨l1, l2, l3, l4⟩ := hlen _ (List.getElem_mem hil)
      rw [hg, hk]
      generalize T50[i] = t at *
      have e1 : IntKind.wrap IntKind.i64 ((t.length : Int) - 1) = ((t.length - 1 : Nat) : Int) := by rw [wrap_id (by omega) (by omega)]; omega
      simp only [tS, e1, cond_true]
      rw [cutOk_hi (by omega), cut_hi, inb_nat (by omega), Int.toNat_natCast, wrap_u8 (by omega) (by omega), wrap_id (by omega) (by omega)]
      simp only [fnd]
      by_cases hs : t.take (t.length - 1) = s
      · rw [dec_t hs, if_pos hs.symm]; rfl
      · rw [dec_f hs, if_neg (fun e => hs e.symm)]; rfl
  rw [enter50]
  have e : RUN E 73 [.str ([108, 101, 110, 49, 32, 117, 112, 112, 101, 114, 49, 32, 108, 111, 119, 101, 114, 49, 32, 116, 114, 105, 109, 49, 32, 115, 108, 117, 103, 49, 32, 112, 108, 97, 105, 110, 49, 32, 100, 101, 102, 97, 117, 108, 116, 50, 32, 106, 111, 105, 110, 50, 32, 115, 112, 108, 105, 116, 50, 32, 114, 101, 112, 108, 97, 99, 101, 51, 32, 102, 105, 114, 115, 116, 50, 32, 108, 97, 115, 116, 50, 32, 114, 101, 118, 101, 114, 115, 101, 49, 32, 115, 111, 114, 116, 50, 32, 119, 104, 101, 114, 101, 51, 32, 104, 97, 115, 50, 32, 107, 101, 121, 115, 49, 32, 97, 100, 100, 50, 32, 115, 117, 98, 50, 32, 109, 117, 108, 50, 32, 100, 105, 118, 50, 32, 109, 111, 100, 50, 32, 115, 116, 114, 105, 110, 103, 49, 32, 121, 101, 97, 114, 49, 32, 109, 111, 110, 116, 104, 49, 32, 100, 97, 121, 49, 32, 102, 97, 99, 116, 49, 32, 108, 105, 115, 116, 50] : B), .str [32]] = some [.list (T50.map .str)] := by rw [r73 _ (by decide +kernel) 32, t50_split]
  refine (congrArg (fun x => opt x _) (show RUN E 73 [_, _] = _ from e)).trans ?_
  simp only [opt_s, List.getD_cons_zero, tL, List.length_map]
  exact key 28 0 rfl
def Kp : List (B × Int) := [([108, 101, 110], 1), ([117, 112, 112, 101, 114], 1), ([108, 111, 119, 101, 114], 1), ([116, 114, 105, 109], 1), ([115, 108, 117, 103], 1), ([112, 108, 97, 105, 110], 1), ([115, 112, 108, 105, 116], 2), ([114, 101, 112, 108, 97, 99, 101], 3), ([102, 105, 114, 115, 116], 2), ([108, 97, 115, 116], 2), ([114, 101, 118, 101, 114, 115, 101], 1), ([115, 111, 114, 116], 2), ([119, 104, 101, 114, 101], 3), ([104, 97, 115], 2), ([106, 111, 105, 110], 2), ([107, 101, 121, 115], 1), ([97, 100, 100], 2), ([115, 117, 98], 2), ([109, 117, 108], 2), ([100, 105, 118], 2), ([109, 111, 100], 2), ([121, 101, 97, 114], 1), ([109, 111, 110, 116, 104], 1), ([100, 97, 121], 1), ([115, 116, 114, 105, 110, 103], 1), ([100, 101, 102, 97, 117, 108, 116], 2), ([108, 105, 115, 116], 2), ([102, 97, 99, 116], 1)]
theorem e70 : ∃ kv : List (D × D), RUN E 70 [] = some [.list (kvD kv)] ∧ kv.map (fun p => (D.toStr p.1, D.toInt (D.cell p.2 0))) = Kp := ⟨_, enter70, by kernel_rfl⟩
theorem fnd_kv (s : B) (Z : D) (hZ : D.toInt (D.cell Z 0) = 0) : ∀ kv : List (D × D), D.toInt (D.cell (Option.getD (findKV .str (.str s) kv) Z) 0) = fnd s (kv.map fun p => (D.toStr p.1, D.toInt (D.cell p.2 0))) := by
  intro kv
  induction kv with
  | nil => exact hZ
  | cons p r ih =>
    obtain ⟨a, v⟩ := p
    have : findKV .str (.str s) ((a, v) :: r) = bif decide (s = D.toStr a) then some v else findKV .str (.str s) r := rfl
    rw [this, List.map_cons]
    simp only [fnd]
    by_cases h : s = D.toStr a
    · rw [show decide (s = D.toStr a) = true from dec_t h, if_pos h]; rfl
    · rw [show decide (s = D.toStr a) = false from dec_f h, if_neg h]; exact ih
theorem fnd_no {s : B} : ∀ {l : List (B × Int)}, (∀ p ∈ l, s ≠ p.1) → fnd s l = 0 := by
  intro l
  induction l with
  | nil => intro _; rfl
  | cons p r ih =>
    obtain ⟨k, n⟩ := p
    intro h
    simp only [fnd]
    rw [if_neg (h _ List.mem_cons_self)]
    exact ih fun q hq => h q (List.mem_cons_of_mem _ hq)
theorem fnd_eq (s : B) : fnd s Kp = fnd s K46 := by
  by_cases h : ∃ p ∈ Kp, s = p.1
  · obtain ⟨p, hp, rfl⟩ := h
    have : ∀ p ∈ Kp, fnd p.1 Kp = fnd p.1 K46 := by decide +kernel
    exact this p hp
  · have h1 : ∀ p ∈ Kp, s ≠ p.1 := fun p hp e => h ⟨p, hp, e⟩
    have h2 : ∀ q ∈ K46, ∃ p ∈ Kp, q.1 = p.1 := by decide +kernel
    rw [fnd_no h1, fnd_no fun q hq e => by
      obtain ⟨p, hp, he⟩ := h2 q hq
      exact h1 p hp (e.trans he)]
theorem r46 (s : B) : RUN E 46 [.str s] = some [.int (fnd s K46)] := by
  obtain ⟨kv, h1, h2⟩ := e70
  rw [enter46, h1]
  simp only [opt_s, List.getD_cons_zero, tL, unkv_kvD]
  rw [fnd_kv s _ rfl, h2, fnd_eq]
theorem fnd_le (s : B) : 0 ≤ fnd s K46 ∧ fnd s K46 ≤ 3 := by
  by_cases h : ∃ p ∈ K46, s = p.1
  · obtain ⟨p, hp, rfl⟩ := h
    have : ∀ p ∈ K46, 0 ≤ fnd p.1 K46 ∧ fnd p.1 K46 ≤ 3 := by decide +kernel
    exact this p hp
  · rw [fnd_no fun p hp e => h ⟨p, hp, e⟩]; omega
end wr
end Go.Proofs.YtcmeincdmphaoaaGreatDoor.ww

namespace Go.Proofs.YtcmeincdmphaoaaGreatDoor.ww
open Go.Proofs.YtcmeincdmphaoaaGreatDoor.DS
namespace wr
abbrev kd (x : D) : Int := D.toInt (D.cell x 0)
abbrev na (x : D) : B := D.toStr (D.cell x 1)
abbrev ar (x : D) : List D := D.toList (D.cell x 8)
abbrev vl (x : D) : D := D.agg (List.take (List.length (TI.cells { kt := KT.agg 25, cells := [KT.int IntKind.i64, KT.bool, KT.int IntKind.i64, KT.str, KT.slice 25, KT.slice 9], fields := [(0, 3), (1, 4), (2, 3), (3, 9), (4, 22), (5, 23)], bytes := 88 })) (List.drop (0 + Prod.fst ((2 : Nat), (25 : Nat))) (D.cells x)))
theorem cell_drop (l : List D) (i j n : Nat) (h : j < n) : ((l.drop i).take n).getD j .no = l.getD (i + j) .no := by
  simp [List.getD_eq_getElem?_getD, List.getElem?_take, List.getElem?_drop, h]
theorem vl_cell (x : D) (j : Nat) (h : j < 6) : D.cell (vl x) j = D.cell x (2 + j) := cell_drop _ 2 j 6 h
theorem pos_len (l : List D) : decide (0 < (l.length : Int)) = !decide ((l.length : Int) = 0) := by
  by_cases h : (l.length : Int) = 0
  · rw [dec_t h, dec_f (by omega)]; rfl
  · rw [dec_f h, dec_t (by omega)]; rfl

/-! ### Values -/
def zf (v : D) : Bool := bif bif bif bif bif decide (D.toInt (D.cell v 0) = 0) then !D.toBool (D.cell v 1) else false then decide (D.toInt (D.cell v 2) = 0) else false then decide (D.toStr (D.cell v 3) = ([] : B)) else false then decide (((D.toList (D.cell v 4)).length : Int) = 0) else false then decide (((D.toList (D.cell v 5)).length : Int) = 0) else false
theorem r54 (v : D) : RUN E 54 [v] = some [.bool (zf v)] := enter54 v
theorem r56 (v : D) : RUN E 56 [v] = some [.bool (zf v)] := enter56 v
/-- Is a value none of a constant? -/
def cf (v : D) : Bool := !(bif decide (D.toInt (D.cell v 0) = 0) then zf v else bif decide (D.toInt (D.cell v 0) = 1) then decide (D.toInt (D.cell v 2) = 0) && decide (D.toStr (D.cell v 3) = ([] : B)) && decide (((D.toList (D.cell v 4)).length : Int) = 0) && decide (((D.toList (D.cell v 5)).length : Int) = 0)
  else bif decide (D.toInt (D.cell v 0) = 2) then !D.toBool (D.cell v 1) && decide (D.toStr (D.cell v 3) = ([] : B)) && decide (((D.toList (D.cell v 4)).length : Int) = 0) && decide (((D.toList (D.cell v 5)).length : Int) = 0) && decide (-999999999999999 ≤ D.toInt (D.cell v 2)) && decide (D.toInt (D.cell v 2) ≤ 999999999999999)
  else bif decide (D.toInt (D.cell v 0) = 3) then !D.toBool (D.cell v 1) && decide (D.toInt (D.cell v 2) = 0) && decide (((D.toList (D.cell v 4)).length : Int) = 0) && decide (((D.toList (D.cell v 5)).length : Int) = 0) else false)
theorem le_not (a b : Int) : decide (a < b) = !decide (b ≤ a) := by
  by_cases h : b ≤ a
  · rw [dec_t h, dec_f (by omega)]; rfl
  · rw [dec_f h, dec_t (by omega)]; rfl
theorem r53 (v : D) : RUN E 53 [v] = some [.bool (cf v)] := by
  rw [enter53, pos_len, pos_len, le_not, le_not]
  unfold cf zf
  have hk : D.toInt (D.cell v 0) = 0 ∨ D.toInt (D.cell v 0) = 1 ∨ D.toInt (D.cell v 0) = 2 ∨ D.toInt (D.cell v 0) = 3 ∨ (D.toInt (D.cell v 0) ≠ 0 ∧ D.toInt (D.cell v 0) ≠ 1 ∧ D.toInt (D.cell v 0) ≠ 2 ∧ D.toInt (D.cell v 0) ≠ 3) := by omega
  generalize D.toInt (D.cell v 0) = k at *
  generalize decide (((D.toList (D.cell v 4)).length : Int) = 0) = b4
  generalize decide (((D.toList (D.cell v 5)).length : Int) = 0) = b5
  generalize D.toBool (D.cell v 1) = b1
  generalize decide (D.toInt (D.cell v 2) = 0) = b2
  generalize decide (D.toStr (D.cell v 3) = ([] : B)) = b3
  generalize decide (-999999999999999 ≤ D.toInt (D.cell v 2)) = b6
  generalize decide (D.toInt (D.cell v 2) ≤ 999999999999999) = b7
  rcases hk with rfl | rfl | rfl | rfl | ⟨h0, h1, h2, h3⟩
  · cases b4 <;> cases b5 <;> cases b1 <;> cases b2 <;> cases b3 <;> rfl
  · cases b4 <;> cases b5 <;> cases b1 <;> cases b2 <;> cases b3 <;> rfl
  · cases b4 <;> cases b5 <;> cases b1 <;> cases b3 <;> cases b2 <;> cases b6 <;> cases b7 <;> rfl
  · cases b4 <;> cases b5 <;> cases b1 <;> cases b2 <;> cases b3 <;> rfl
  · rw [dec_f h0, dec_f h1, dec_f h2, dec_f h3]
    cases b4 <;> cases b5 <;> cases b1 <;> cases b2 <;> cases b3 <;> rfl
theorem r57 (v : D) : RUN E 57 [v] = some [.bool (!cf v)] := by
  rw [enter57, r56, r56, r56, r56]
  unfold cf
  have e1 : zf (.agg [.int 0, .bool false, .int (D.toInt (D.cell v 2)), .str (D.toStr (D.cell v 3)), .list (D.toList (D.cell v 4)), .list (D.toList (D.cell v 5))]) = bif bif bif decide (D.toInt (D.cell v 2) = 0) then decide (D.toStr (D.cell v 3) = ([] : B)) else false then decide (((D.toList (D.cell v 4)).length : Int) = 0) else false then decide (((D.toList (D.cell v 5)).length : Int) = 0) else false := rfl
  have e2 : zf (.agg [.int 0, .bool (D.toBool (D.cell v 1)), .int 0, .str (D.toStr (D.cell v 3)), .list (D.toList (D.cell v 4)), .list (D.toList (D.cell v 5))]) = bif bif bif !D.toBool (D.cell v 1) then decide (D.toStr (D.cell v 3) = ([] : B)) else false then decide (((D.toList (D.cell v 4)).length : Int) = 0) else false then decide (((D.toList (D.cell v 5)).length : Int) = 0) else false := by
    unfold zf
    show (bif bif bif bif bif decide ((0 : Int) = 0) then !D.toBool (D.cell v 1) else false then decide ((0 : Int) = 0) else false then _ else false then _ else false then _ else false) = _
    cases D.toBool (D.cell v 1) <;> rfl
  have e3 : zf (.agg [.int 0, .bool (D.toBool (D.cell v 1)), .int (D.toInt (D.cell v 2)), .str [], .list (D.toList (D.cell v 4)), .list (D.toList (D.cell v 5))]) = bif bif bif !D.toBool (D.cell v 1) then decide (D.toInt (D.cell v 2) = 0) else false then decide (((D.toList (D.cell v 4)).length : Int) = 0) else false then decide (((D.toList (D.cell v 5)).length : Int) = 0) else false := by
    unfold zf
    show (bif bif bif bif bif decide ((0 : Int) = 0) then !D.toBool (D.cell v 1) else false then decide (D.toInt (D.cell v 2) = 0) else false then true else false then _ else false then _ else false) = _
    cases D.toBool (D.cell v 1) <;> cases decide (D.toInt (D.cell v 2) = 0) <;> rfl
  rw [e1, e2, e3]
  generalize zf v = z
  generalize decide (D.toInt (D.cell v 0) = 0) = k0
  generalize decide (D.toInt (D.cell v 0) = 1) = k1
  generalize decide (D.toInt (D.cell v 0) = 2) = k2
  generalize decide (D.toInt (D.cell v 0) = 3) = k3
  generalize decide (((D.toList (D.cell v 4)).length : Int) = 0) = b4
  generalize decide (((D.toList (D.cell v 5)).length : Int) = 0) = b5
  generalize D.toBool (D.cell v 1) = b1
  generalize decide (D.toInt (D.cell v 2) = 0) = b2
  generalize decide (D.toStr (D.cell v 3) = ([] : B)) = b3
  generalize decide (-999999999999999 ≤ D.toInt (D.cell v 2)) = b6
  generalize decide (D.toInt (D.cell v 2) ≤ 999999999999999) = b7
  cases k0
  · cases k1
    · cases k2
      · cases k3
        · rfl
        · cases b4 <;> cases b5 <;> cases b1 <;> cases b2 <;> rfl
      · cases b4 <;> cases b5 <;> cases b1 <;> cases b3 <;> cases b6 <;> cases b7 <;> rfl
    · cases b4 <;> cases b5 <;> cases b2 <;> cases b3 <;> rfl
  · cases z <;> rfl

/-! ### Names of nodes -/
def op (s : B) : Bool := bif bif bif bif bif decide (s = ([61, 61] : B)) then true else decide (s = ([33, 61] : B)) then true else decide (s = ([60] : B)) then true else decide (s = ([60, 61] : B)) then true else decide (s = ([62] : B)) then true else decide (s = ([62, 61] : B))
theorem r59 (s : B) : RUN E 59 [.str s] = some [.bool (op s)] := enter59 s
theorem r52 (x : D) (h : (na x).length ≤ 1048576) : RUN E 52 [x] = some [.bool (bif decide (kd x = 3) then !nm (na x) else bif decide (kd x = 4) then !nm (na x) else bif decide (kd x = 6) then !nm (na x) else bif decide (kd x = 10) then !op (na x) else !decide (na x = ([] : B)))] := by
  rw [enter52, r74 _ h]
  unfold op
  generalize nm (na x) = b
  generalize decide (kd x = 3) = a3
  generalize decide (kd x = 4) = a4
  generalize decide (kd x = 6) = a6
  generalize decide (kd x = 10) = a10
  generalize decide (na x = ([] : B)) = z
  generalize decide (na x = ([61, 61] : B)) = d0
  generalize decide (na x = ([33, 61] : B)) = d1
  generalize decide (na x = ([60] : B)) = d2
  generalize decide (na x = ([60, 61] : B)) = d3
  generalize decide (na x = ([62] : B)) = d4
  generalize decide (na x = ([62, 61] : B)) = d5
  cases a3
  · cases a4
    · cases a6
      · cases a10
        · rfl
        · cases d0 <;> cases d1 <;> cases d2 <;> cases d3 <;> cases d4 <;> cases d5 <;> rfl
      · rfl
    · rfl
  · rfl

/-! ### A node -/
/-- What a node is that has no error of its own. -/
def Shape (x : D) : Prop := (kd x = 1 ∧ (ar x).length = 0 ∧ cf (vl x) = false) ∨ (kd x = 2 ∧ (ar x).length = 0) ∨ (kd x = 3 ∧ (ar x).length = 0) ∨ (kd x = 4 ∧ (ar x).length = 1) ∨ (kd x = 5 ∧ (ar x).length = 2) ∨
  (kd x = 6 ∧ 1 ≤ (ar x).length ∧ (ar x).length ≤ 3) ∨ (kd x = 7 ∧ (ar x).length = 1) ∨ (kd x = 8 ∧ (ar x).length = 2) ∨ (kd x = 9 ∧ (ar x).length = 2) ∨ (kd x = 10 ∧ (ar x).length = 2)
def Same2 (x : D) : Prop := ∃ e : Int, RUN E 31 [x] = some [.int e] ∧ RUN E 34 [x] = some [.int e] ∧ (e = 0 → Shape x)
section
variable (x : D) (h1 : (na x).length ≤ 1048576) (h5 : (D.toStr (D.cell x 5)).length ≤ 1048576)
include h1 h5 in
theorem node1 (hk : kd x = 1) : Same2 x := by
  have g51 : RUN E 51 [.int 1] = some [.int 0] := (enter51 1).trans rfl
  have g55 : RUN E 55 [.int 1] = some [.int 0] := (enter55 1).trans rfl
  have g52 := r52 x h1
  rw [hk] at g52
  unfold Same2
  rw [enter31, enter34, round34a, show D.toInt (D.cell x 0) = 1 from hk, g51, g55, g52, r22 _ h5, r60 _ h5, r53, r57]
  repeat rw [opt_s]
  repeat rw [List.getD_cons_zero]
  repeat rw [tI]
  cases c0 : cf (vl x) <;> cases c1 : decide (na x = ([] : B)) <;> cases c2 : decide (((ar x).length : Int) = 0) <;> cases c3 : (D.toStr (D.cell x 5)).any bad <;>
    first
    | exact ⟨0, rfl, rfl, fun _ => .inl ⟨hk, by have := of_decide_eq_true c2; omega, c0⟩⟩
    | exact ⟨_, rfl, rfl, fun h => absurd h (by decide)⟩
include h1 h5 in
theorem node2 (hk : kd x = 2) : Same2 x := by
  have g51 : RUN E 51 [.int 2] = some [.int 0] := (enter51 2).trans rfl
  have g55 : RUN E 55 [.int 2] = some [.int 0] := (enter55 2).trans rfl
  have g52 := r52 x h1
  rw [hk] at g52
  unfold Same2
  rw [enter31, enter34, round34a, show D.toInt (D.cell x 0) = 2 from hk, g51, g55, g52, r22 _ h5, r60 _ h5, r54, r56]
  repeat rw [opt_s]
  repeat rw [List.getD_cons_zero]
  repeat rw [tI]
  cases c0 : zf (vl x) <;> cases c1 : decide (na x = ([] : B)) <;> cases c2 : decide (((ar x).length : Int) = 0) <;> cases c3 : (D.toStr (D.cell x 5)).any bad <;>
    first
    | exact ⟨0, rfl, rfl, fun _ => .inr (.inl ⟨hk, by have := of_decide_eq_true c2; omega⟩)⟩
    | exact ⟨_, rfl, rfl, fun h => absurd h (by decide)⟩
include h1 h5 in
theorem node3 (hk : kd x = 3) : Same2 x := by
  have g51 : RUN E 51 [.int 3] = some [.int 0] := (enter51 3).trans rfl
  have g55 : RUN E 55 [.int 3] = some [.int 0] := (enter55 3).trans rfl
  have g52 := r52 x h1
  rw [hk] at g52
  unfold Same2
  rw [enter31, enter34, round34a, show D.toInt (D.cell x 0) = 3 from hk, g51, g55, g52, r22 _ h5, r60 _ h5, r54, r56, r58 _ h1]
  repeat rw [opt_s]
  repeat rw [List.getD_cons_zero]
  repeat rw [tI]
  cases c0 : zf (vl x) <;> cases c1 : nm (na x) <;> cases c2 : decide (((ar x).length : Int) = 0) <;> cases c3 : (D.toStr (D.cell x 5)).any bad <;>
    first
    | exact ⟨0, rfl, rfl, fun _ => .inr (.inr (.inl ⟨hk, by have := of_decide_eq_true c2; omega⟩))⟩
    | exact ⟨_, rfl, rfl, fun h => absurd h (by decide)⟩
include h1 h5 in
theorem node4 (hk : kd x = 4) : Same2 x := by
  have g51 : RUN E 51 [.int 4] = some [.int 1] := (enter51 4).trans rfl
  have g55 : RUN E 55 [.int 4] = some [.int 1] := (enter55 4).trans rfl
  have g52 := r52 x h1
  rw [hk] at g52
  unfold Same2
  rw [enter31, enter34, round34a, show D.toInt (D.cell x 0) = 4 from hk, g51, g55, g52, r22 _ h5, r60 _ h5, r54, r56, r58 _ h1]
  repeat rw [opt_s]
  repeat rw [List.getD_cons_zero]
  repeat rw [tI]
  cases c0 : zf (vl x) <;> cases c1 : nm (na x) <;> cases c2 : decide (((ar x).length : Int) = 1) <;> cases c3 : (D.toStr (D.cell x 5)).any bad <;>
    first
    | exact ⟨0, rfl, rfl, fun _ => .inr (.inr (.inr (.inl ⟨hk, by have := of_decide_eq_true c2; omega⟩)))⟩
    | exact ⟨_, rfl, rfl, fun h => absurd h (by decide)⟩
include h1 h5 in
theorem node5 (hk : kd x = 5) : Same2 x := by
  have g51 : RUN E 51 [.int 5] = some [.int 2] := (enter51 5).trans rfl
  have g55 : RUN E 55 [.int 5] = some [.int 2] := (enter55 5).trans rfl
  have g52 := r52 x h1
  rw [hk] at g52
  unfold Same2
  rw [enter31, enter34, round34a, show D.toInt (D.cell x 0) = 5 from hk, g51, g55, g52, r22 _ h5, r60 _ h5, r54, r56]
  repeat rw [opt_s]
  repeat rw [List.getD_cons_zero]
  repeat rw [tI]
  cases c0 : zf (vl x) <;> cases c1 : decide (na x = ([] : B)) <;> cases c2 : decide (((ar x).length : Int) = 2) <;> cases c3 : (D.toStr (D.cell x 5)).any bad <;>
    first
    | exact ⟨0, rfl, rfl, fun _ => .inr (.inr (.inr (.inr (.inl ⟨hk, by have := of_decide_eq_true c2; omega⟩))))⟩
    | exact ⟨_, rfl, rfl, fun h => absurd h (by decide)⟩
include h1 h5 in
theorem node6 (hk : kd x = 6) : Same2 x := by
  have g51 : RUN E 51 [.int 6] = some [.int (-1)] := (enter51 6).trans rfl
  have g55 : RUN E 55 [.int 6] = some [.int (-1)] := (enter55 6).trans rfl
  have g52 := r52 x h1
  rw [hk] at g52
  unfold Same2
  rw [enter31, enter34, round34a, show D.toInt (D.cell x 0) = 6 from hk, g51, g55, g52, r22 _ h5, r60 _ h5, r54, r56, r58 _ h1, r46, r50]
  rw [show (bif decide ((6 : Int) = 6) then true else false) = true from rfl]
  repeat rw [cond_true]
  repeat rw [opt_s]
  repeat rw [List.getD_cons_zero]
  repeat rw [tI]
  cases c0 : zf (vl x) <;> cases c1 : nm (na x) <;> cases c2 : decide (((ar x).length : Int) = 0) <;> cases c3 : decide (fnd (na x) K46 = ((ar x).length : Int)) <;> cases c4 : (D.toStr (D.cell x 5)).any bad <;>
    first
    | exact ⟨0, rfl, rfl, fun _ => .inr (.inr (.inr (.inr (.inr (.inl ⟨hk, by have := of_decide_eq_false c2; omega, by have := of_decide_eq_true c3; have := fnd_le (na x); omega⟩)))))⟩
    | exact ⟨_, rfl, rfl, fun h => absurd h (by decide)⟩
include h1 h5 in
theorem node7 (hk : kd x = 7) : Same2 x := by
  have g51 : RUN E 51 [.int 7] = some [.int 1] := (enter51 7).trans rfl
  have g55 : RUN E 55 [.int 7] = some [.int 1] := (enter55 7).trans rfl
  have g52 := r52 x h1
  rw [hk] at g52
  unfold Same2
  rw [enter31, enter34, round34a, show D.toInt (D.cell x 0) = 7 from hk, g51, g55, g52, r22 _ h5, r60 _ h5, r54, r56]
  repeat rw [opt_s]
  repeat rw [List.getD_cons_zero]
  repeat rw [tI]
  cases c0 : zf (vl x) <;> cases c1 : decide (na x = ([] : B)) <;> cases c2 : decide (((ar x).length : Int) = 1) <;> cases c3 : (D.toStr (D.cell x 5)).any bad <;>
    first
    | exact ⟨0, rfl, rfl, fun _ => .inr (.inr (.inr (.inr (.inr (.inr (.inl ⟨hk, by have := of_decide_eq_true c2; omega⟩))))))⟩
    | exact ⟨_, rfl, rfl, fun h => absurd h (by decide)⟩
include h1 h5 in
theorem node8 (hk : kd x = 8) : Same2 x := by
  have g51 : RUN E 51 [.int 8] = some [.int 2] := (enter51 8).trans rfl
  have g55 : RUN E 55 [.int 8] = some [.int 2] := (enter55 8).trans rfl
  have g52 := r52 x h1
  rw [hk] at g52
  unfold Same2
  rw [enter31, enter34, round34a, show D.toInt (D.cell x 0) = 8 from hk, g51, g55, g52, r22 _ h5, r60 _ h5, r54, r56]
  repeat rw [opt_s]
  repeat rw [List.getD_cons_zero]
  repeat rw [tI]
  cases c0 : zf (vl x) <;> cases c1 : decide (na x = ([] : B)) <;> cases c2 : decide (((ar x).length : Int) = 2) <;> cases c3 : (D.toStr (D.cell x 5)).any bad <;>
    first
    | exact ⟨0, rfl, rfl, fun _ => .inr (.inr (.inr (.inr (.inr (.inr (.inr (.inl ⟨hk, by have := of_decide_eq_true c2; omega⟩)))))))⟩
    | exact ⟨_, rfl, rfl, fun h => absurd h (by decide)⟩
include h1 h5 in
theorem node9 (hk : kd x = 9) : Same2 x := by
  have g51 : RUN E 51 [.int 9] = some [.int 2] := (enter51 9).trans rfl
  have g55 : RUN E 55 [.int 9] = some [.int 2] := (enter55 9).trans rfl
  have g52 := r52 x h1
  rw [hk] at g52
  unfold Same2
  rw [enter31, enter34, round34a, show D.toInt (D.cell x 0) = 9 from hk, g51, g55, g52, r22 _ h5, r60 _ h5, r54, r56]
  repeat rw [opt_s]
  repeat rw [List.getD_cons_zero]
  repeat rw [tI]
  cases c0 : zf (vl x) <;> cases c1 : decide (na x = ([] : B)) <;> cases c2 : decide (((ar x).length : Int) = 2) <;> cases c3 : (D.toStr (D.cell x 5)).any bad <;>
    first
    | exact ⟨0, rfl, rfl, fun _ => .inr (.inr (.inr (.inr (.inr (.inr (.inr (.inr (.inl ⟨hk, by have := of_decide_eq_true c2; omega⟩))))))))⟩
    | exact ⟨_, rfl, rfl, fun h => absurd h (by decide)⟩
include h1 h5 in
theorem node10 (hk : kd x = 10) : Same2 x := by
  have g51 : RUN E 51 [.int 10] = some [.int 2] := (enter51 10).trans rfl
  have g55 : RUN E 55 [.int 10] = some [.int 2] := (enter55 10).trans rfl
  have g52 := r52 x h1
  rw [hk] at g52
  unfold Same2
  rw [enter31, enter34, round34a, show D.toInt (D.cell x 0) = 10 from hk, g51, g55, g52, r22 _ h5, r60 _ h5, r54, r56, r59]
  repeat rw [opt_s]
  repeat rw [List.getD_cons_zero]
  repeat rw [tI]
  cases c0 : zf (vl x) <;> cases c1 : op (na x) <;> cases c2 : decide (((ar x).length : Int) = 2) <;> cases c3 : (D.toStr (D.cell x 5)).any bad <;>
    first
    | exact ⟨0, rfl, rfl, fun _ => .inr (.inr (.inr (.inr (.inr (.inr (.inr (.inr (.inr (⟨hk, by have := of_decide_eq_true c2; omega⟩)))))))))⟩
    | exact ⟨_, rfl, rfl, fun h => absurd h (by decide)⟩
include h1 h5 in
theorem node : Same2 x := by
  by_cases hk : 1 ≤ kd x ∧ kd x ≤ 10
  · have : kd x = 1 ∨ kd x = 2 ∨ kd x = 3 ∨ kd x = 4 ∨ kd x = 5 ∨ kd x = 6 ∨ kd x = 7 ∨ kd x = 8 ∨ kd x = 9 ∨ kd x = 10 := by omega
    rcases this with h | h | h | h | h | h | h | h | h | h
    · exact node1 x h1 h5 h
    · exact node2 x h1 h5 h
    · exact node3 x h1 h5 h
    · exact node4 x h1 h5 h
    · exact node5 x h1 h5 h
    · exact node6 x h1 h5 h
    · exact node7 x h1 h5 h
    · exact node8 x h1 h5 h
    · exact node9 x h1 h5 h
    · exact node10 x h1 h5 h
  · have hb : (bif decide (kd x < 1) then true else decide (10 < kd x)) = true := by
      by_cases h : kd x < 1
      · rw [dec_t h]; rfl
      · rw [dec_f h, dec_t (by omega)]; rfl
    exact ⟨10, by rw [enter31, hb]; rfl, by rw [enter34, hb]; rfl, fun h => by cases h⟩
end

/-! ### All nodes -/
inductive Good : D → Prop
  | mk (x : D) (hs : Shape x) (ha : ∀ a ∈ ar x, Good a) : Good x
theorem drop_ge (l : List D) (i : Nat) : dmass (l.getD i .no) + dmass.dmAll (l.drop (i + 1)) ≤ dmass.dmAll (l.drop i) := by
  by_cases h : i < l.length
  · rw [drop_cons .no h]; exact Nat.le_refl _
  · rw [List.drop_eq_nil_of_le (by omega), List.getD_eq_getElem?_getD, List.getElem?_eq_none (by omega)]; simp [dmass, dmass.dmAll]
theorem drop_mono (l : List D) (i : Nat) : ∀ k, dmass.dmAll (l.drop (i + k)) ≤ dmass.dmAll (l.drop i) := by
  intro k
  induction k with
  | zero => exact Nat.le_refl _
  | succ k ih => have := drop_ge l (i + k); rw [show i + (k + 1) = i + k + 1 by omega]; omega
theorem mass_cells (x : D) : dmass x = dmass.dmAll x.cells := by cases x <;> rfl
/-- How great a node's parts are together. -/
theorem mass4 (x : D) : dmass (D.cell x 0) + dmass (D.cell x 1) + dmass (D.cell x 5) + dmass (D.cell x 8) ≤ dmass x := by
  have e0 := mass_cells x
  have a0 := drop_ge x.cells 0
  have a1 := drop_ge x.cells 1
  have a2 := drop_mono x.cells 2 3
  have a3 := drop_ge x.cells 5
  have a4 := drop_mono x.cells 6 2
  have a5 := drop_ge x.cells 8
  rw [List.drop_zero] at a0
  show dmass (x.cells.getD 0 .no) + dmass (x.cells.getD 1 .no) + dmass (x.cells.getD 5 .no) + dmass (x.cells.getD 8 .no) ≤ _
  simp only [Nat.zero_add, Nat.reduceAdd] at *
  omega
theorem kd_pos {x : D} (h : kd x ≠ 0) : 1 ≤ dmass (D.cell x 0) := by
  unfold kd at h
  cases hc : D.cell x 0 with
  | int n => simp [dmass]
  | _ => rw [hc] at h; exact absurd rfl h
theorem ar_mass {x a : D} (ha : a ∈ ar x) : dmass a + 1 ≤ dmass (D.cell x 8) := by
  unfold ar at ha
  cases hc : D.cell x 8 with
  | list l => rw [hc] at ha; have := mass_mem (show a ∈ l from ha); simp only [dmass]; omega
  | _ => rw [hc] at ha; cases ha
theorem shape_len {x : D} (h : Shape x) : (ar x).length ≤ 3 ∧ kd x ≠ 0 := by
  unfold Shape at h
  omega
theorem faults : ∀ n, ∀ x, dmass x ≤ n → n ≤ 1048576 → ∃ e : Int, RUN E 11 [x] = some [.int e] ∧ RUN E 14 [x] = some [.int e] ∧ (e = 0 → Good x) := by
  intro n
  induction n with
  | zero =>
    intro x hx hn
    have m4 := mass4 x
    obtain ⟨e, a1, a2, a3⟩ := node x (show (D.toStr (D.cell x 1)).length ≤ _ by have := toStr_le (D.cell x 1); omega) (by have := toStr_le (D.cell x 5); omega)
    rw [enter11, enter14, a1, a2]
    simp only [opt_s, List.getD_cons_zero, tI]
    by_cases he : e = 0
    · have := (shape_len (a3 he)).2
      have := kd_pos this
      omega
    · rw [dec_f he]; exact ⟨e, rfl, rfl, fun h => absurd h he⟩
  | succ n ih =>
    intro x hx hn
    have m4 := mass4 x
    obtain ⟨e, a1, a2, a3⟩ := node x (show (D.toStr (D.cell x 1)).length ≤ _ by have := toStr_le (D.cell x 1); omega) (by have := toStr_le (D.cell x 5); omega)
    rw [enter11, enter14, a1, a2]
    simp only [opt_s, List.getD_cons_zero, tI]
    by_cases he : e = 0
    · rw [dec_t he]
      have hs := a3 he
      obtain ⟨l3, k0⟩ := shape_len hs
      have kp := kd_pos k0
      have key : ∀ m i : Nat, i + m = (ar x).length → ∃ e : Int, L11a (ar x) ((ar x).length : Int) i = some [.int e] ∧ L14a (ar x) ((ar x).length : Int) i = some [.int e] ∧ (e = 0 → ∀ a ∈ (ar x).drop i, Good a) := by
        intro m
        induction m with
        | zero =>
          intro i hi
          rw [round11a, round14a, dec_f (by omega), List.drop_eq_nil_of_le (by omega)]
          exact ⟨0, rfl, rfl, fun _ a ha => by cases ha⟩
        | succ m ihm =>
          intro i hi
          have hil : i < (ar x).length := by omega
          have hmem : (ar x).getD i .no ∈ ar x := by rw [getD_eq _ _ _ hil]; exact List.getElem_mem _
          have hm := ar_mass hmem
          obtain ⟨e1, b1, b2, b3⟩ := ih ((ar x).getD i .no) (by omega) (by omega)
          obtain ⟨e2, c1, c2, c3⟩ := ihm (i + 1) (by omega)
          rw [round11a, round14a, dec_t (by omega), inb_nat hil, Int.toNat_natCast, nxt (by omega), b1, b2]
          simp only [cond_true, opt_s, List.getD_cons_zero, tI]
          by_cases h1 : e1 = 0
          · rw [dec_t h1]
            refine ⟨e2, c1, c2, fun h2 a ha => ?_⟩
            rw [drop_cons .no hil] at ha
            rcases List.mem_cons.1 ha with rfl | ha
            · exact b3 h1
            · exact c3 h2 a ha
          · rw [dec_f h1]; exact ⟨e1, rfl, rfl, fun h => absurd h h1⟩
      obtain ⟨e2, c1, c2, c3⟩ := key (ar x).length 0 (by omega)
      exact ⟨e2, c1, c2, fun h2 => .mk x hs fun a ha => c3 h2 a (by rw [List.drop_zero]; exact ha)⟩
    · rw [dec_f he]; exact ⟨e, rfl, rfl, fun h => absurd h he⟩

/-! ### How deep -/
theorem depths {x : D} (h : Good x) : ∃ d : Int, RUN E 12 [x] = some [.int d] ∧ RUN E 15 [x] = some [.int d] := by
  induction h with
  | mk x hs ha ih =>
    obtain ⟨l3, _⟩ := shape_len hs
    have key : ∀ m i : Nat, i + m = (ar x).length → ∀ n : Int, ∃ d : Int, L12a n (ar x) ((ar x).length : Int) i = some [.int d] ∧ L15a n (ar x) ((ar x).length : Int) i = some [.int d] := by
      intro m
      induction m with
      | zero => intro i hi n; rw [round12a, round15a, dec_f (by omega)]; exact ⟨_, rfl, rfl⟩
      | succ m ihm =>
        intro i hi n
        have hil : i < (ar x).length := by omega
        have hmem : (ar x).getD i .no ∈ ar x := by rw [getD_eq _ _ _ hil]; exact List.getElem_mem _
        obtain ⟨d, b1, b2⟩ := ih _ hmem
        rw [round12a, round15a, dec_t (by omega), inb_nat hil, Int.toNat_natCast, nxt (by omega), b1, b2]
        exact ihm (i + 1) (by omega) _
    rw [enter12, enter15]
    exact key (ar x).length 0 (by omega) 0
end wr
end Go.Proofs.YtcmeincdmphaoaaGreatDoor.ww

namespace Go.Proofs.YtcmeincdmphaoaaGreatDoor.ww
open Go.Proofs.YtcmeincdmphaoaaGreatDoor.DS
namespace wr
theorem lim_c {α : Type} {a b : Nat} {i : Decidable (a + b ≤ lim)} (h : a + b ≤ 68719476736) (X Y : α) : cond (@decide _ i) X Y = X := by
  have : a + b ≤ lim := by rw [lim_val]; exact h
  rw [decide_eq_true this]; rfl
theorem cT {α : Type} {p : Prop} {i : Decidable p} (h : p) (X Y : α) : cond (@decide p i) X Y = X := by rw [decide_eq_true h]; rfl
theorem cF {α : Type} {p : Prop} {i : Decidable p} (h : ¬p) (X Y : α) : cond (@decide p i) X Y = Y := by rw [decide_eq_false h]; rfl

/-! ### Constants -/
def e1 (c : UInt8) : B := if c = 92 ∨ c = 34 then [92, c] else [c]
def e2 (c : UInt8) : B := if c = 10 then [92, 110] else [c]
def esc (c : UInt8) : B := if c = 34 ∨ c = 92 then [92, c] else if c = 10 then [92, 110] else [c]
theorem e12 (c : UInt8) : (e1 c).flatMap e2 = esc c := by
  unfold e1 esc
  by_cases h : c = 92 ∨ c = 34
  · rw [if_pos h, if_pos (h.symm)]
    rcases h with rfl | rfl <;> rfl
  · rw [if_neg h, if_neg (fun q => h q.symm)]
    by_cases h2 : c = 10
    · subst h2; rfl
    · simp [e2, h2]
theorem esc_len (s : B) : (s.flatMap esc).length ≤ 2 * s.length := by
  induction s with
  | nil => simp
  | cons c r ih =>
    rw [List.flatMap_cons, List.length_append, List.length_cons]
    have : (esc c).length ≤ 2 := by unfold esc; split; simp; split <;> simp
    omega
theorem e1_len (s : B) : (s.flatMap e1).length ≤ 2 * s.length := by
  induction s with
  | nil => simp
  | cons c r ih =>
    rw [List.flatMap_cons, List.length_append, List.length_cons]
    have : (e1 c).length ≤ 2 := by unfold e1; split <;> simp
    omega
theorem repK : ∀ (k : Nat) (s : B), s.count 10 = k → Lib.replaceK [10] [92, 110] k s = s.flatMap e2 := by
  have none : ∀ s : B, (10 : UInt8) ∉ s → s.flatMap e2 = s := by
    intro s
    induction s with
    | nil => intro _; rfl
    | cons c r ih =>
      intro h
      rw [List.flatMap_cons, ih fun hr => h (List.mem_cons_of_mem _ hr)]
      have : c ≠ 10 := fun e => h (by rw [e]; exact List.mem_cons_self)
      simp [e2, this]
  intro k
  induction k with
  | zero => intro s h; rw [none s (List.count_eq_zero.1 h)]; rfl
  | succ k ih =>
    intro s h
    rcases idx_cases 10 s with ⟨_, h2⟩ | ⟨pre, post, h1, h2, h3⟩
    · rw [List.count_eq_zero.2 h2] at h; cases h
    · have hi : Lib.index s [10] = (pre.length : Nat) := by rw [Lib.index_one, h3]
      rw [Lib.replaceK_hit _ _ _ _ pre.length hi]
      have hc : post.count 10 = k := by rw [h1] at h; simp [List.count_eq_zero.2 h2] at h; exact h
      have hd : s.drop (pre.length + ([10] : B).length) = post := by rw [h1]; simp [List.drop_append]
      have ht : s.take pre.length = pre := by rw [h1]; simp
      rw [hd, ht, ih post hc, h1, List.flatMap_append, none pre h2, List.flatMap_cons]
      simp [e2]
theorem repAll (s : B) : Lib.replaceAll s [10] [92, 110] = s.flatMap e2 := by
  unfold Lib.replaceAll Lib.replace
  rw [if_neg (by decide)]
  have : Lib.replaceNum s [10] (-1) = s.count 10 := by
    unfold Lib.replaceNum
    rw [if_pos (.inl (by omega)), Lib.count_one]
  rw [this]
  exact repK _ s rfl
theorem r18 (s : B) (h : s.length < 4294967281) : RUN E 18 [.str s, .str [10], .str [92, 110]] = some [.str (s.flatMap e2)] := by
  have : RUN E 18 [.str s, .str [10], .str [92, 110]] = cond (decide (s.length < 4294967281) && (decide (1 ≤ ([10] : B).length) && decide (([92, 110] : B).length ≤ 1024))) (some [.str (Lib.replaceAll s [10] [92, 110])]) none := (RUN_eq _ _ _).trans (by kernel_rfl)
  rw [this, dec_t h, repAll]; rfl
theorem r38 (s : B) (c : UInt8) : RUN E 38 [.str s, .int (c.toNat : Int)] = some [.int (Lib.indexByte s c)] := by
  have : RUN E 38 [.str s, .int (c.toNat : Int)] = some [.int (Lib.indexByte s (Nat.toUInt8 (Int.toNat (c.toNat : Int))))] := (RUN_eq _ _ _).trans (by kernel_rfl)
  rw [this]; simp
theorem two (c : UInt8) : decide (0 ≤ Lib.indexByte [92, 34] c) = decide (c = 92 ∨ c = 34) := by
  by_cases h : c = 92
  · subst h; rfl
  · by_cases h2 : c = 34
    · subst h2; rfl
    · rw [dec_f (p := c = 92 ∨ c = 34) (by simp [h, h2])]
      have b1 : ((92 : UInt8) == c) = false := by rw [← Bool.not_eq_true, beq_iff_eq]; exact fun e => h e.symm
      have b2 : ((34 : UInt8) == c) = false := by rw [← Bool.not_eq_true, beq_iff_eq]; exact fun e => h2 e.symm
      apply dec_f
      simp [Lib.indexByte, b1, b2]
theorem r19 (s : B) (h : s.length ≤ 1048576) : RUN E 19 [.str s, .str [92, 34]] = some [.str (s.flatMap e1)] := by
  have key : ∀ n i : Nat, i + n = s.length → ∀ out : B, out.length ≤ 2 * i → L19a s [92, 34] out i = some [.str (out ++ (s.drop i).flatMap e1)] := by
    intro n
    induction n with
    | zero => intro i hi out _; rw [round19a, dec_f (by omega), List.drop_eq_nil_of_le (by omega)]; simp
    | succ n ih =>
      intro i hi out ho
      have hil : i < s.length := by omega
      rw [round19a, dec_t (by omega), inb_nat hil, Int.toNat_natCast, nxt (by omega), r38, cutOk_both (by omega) (by omega), cut_both, sub_one 0 hil, drop_cons 0 hil]
      generalize s.getD i 0 = c at *
      simp only [cond_true, opt_s, List.getD_cons_zero, tI]
      rw [two, List.flatMap_cons]
      have hs1 : ([c] : B).length = 1 := rfl
      have hs2 : ([92] : B).length = 1 := rfl
      by_cases hc : c = 92 ∨ c = 34
      · rw [dec_t hc, cond_true, lim_c (by omega), lim_c (by simp only [List.length_append]; omega), ih (i + 1) (by omega) _ (by simp only [List.length_append]; omega)]
        simp [e1, hc]
      · rw [dec_f hc, cond_false, lim_c (by omega), ih (i + 1) (by omega) _ (by simp only [List.length_append]; omega)]
        simp [e1, hc]
  rw [enter19]
  have := key s.length 0 (by omega) [] (by simp)
  simpa using this
theorem r33 (v : D) (h : (D.toStr (D.cell v 3)).length ≤ 1048576) (h0 : D.toInt (D.cell v 0) ≠ 0) (h1 : D.toInt (D.cell v 0) ≠ 1) (h2 : D.toInt (D.cell v 0) ≠ 2) : RUN E 33 [v] = some [.str (34 :: (D.toStr (D.cell v 3)).flatMap esc ++ [34])] := by
  have key : ∀ n i : Nat, i + n = (D.toStr (D.cell v 3)).length → ∀ out : B, out.length ≤ 2 * i + 1 → L33a i (bytesD out) v = some [.str (out ++ ((D.toStr (D.cell v 3)).drop i).flatMap esc ++ [34])] := by
    intro n
    induction n with
    | zero =>
      intro i hi out ho
      have hb : bytesD out ++ [D.int 34] = bytesD (out ++ [34]) := by rw [bytesD_append]; rfl
      rw [round33a, dec_f (by omega), cond_false, List.drop_eq_nil_of_le (by omega), fit_t (by rw [bytesD_len]; show _ + 1 ≤ _; omega), hb, dBytes_bytesD]
      simp
    | succ n ih =>
      intro i hi out ho
      have hil : i < (D.toStr (D.cell v 3)).length := by omega
      rw [round33a, dec_t (by omega), inb_nat hil, Int.toNat_natCast, nxt (by omega), drop_cons 0 hil, List.flatMap_cons]
      generalize (D.toStr (D.cell v 3)).getD i 0 = c at *
      have f2 : ∀ a b : D, fitL (bytesD out).length (List.length [a, b]) = true := fun a b => fit_t (by rw [bytesD_len]; show _ + 2 ≤ _; omega)
      have f1 : ∀ a : D, fitL (bytesD out).length (List.length [a]) = true := fun a => fit_t (by rw [bytesD_len]; show _ + 1 ≤ _; omega)
      simp only [f1, f2, cond_true]
      have e2' : bytesD out ++ [D.int 92, D.int (c.toNat : Int)] = bytesD (out ++ [92, c]) := by rw [bytesD_append]; rfl
      have e3' : bytesD out ++ [D.int 92, D.int 110] = bytesD (out ++ [92, 110]) := by rw [bytesD_append]; rfl
      have e4' : bytesD out ++ [D.int (c.toNat : Int)] = bytesD (out ++ [c]) := by rw [bytesD_append]; rfl
      rw [e2', e3', e4', ih (i + 1) (by omega) _ (by simp only [List.length_append, List.length_cons, List.length_nil]; omega), ih (i + 1) (by omega) _ (by simp only [List.length_append, List.length_cons, List.length_nil]; omega), ih (i + 1) (by omega) _ (by simp only [List.length_append, List.length_cons, List.length_nil]; omega)]
      have q : ∀ n : Nat, n < 256 → ((c.toNat : Int) = (n : Int) ↔ c = UInt8.ofNat n) := fun n hn => by
        constructor
        · intro h; have : c.toNat = n := by omega
          rw [← this]; simp
        · intro h; rw [h]; simp; omega
      unfold esc
      by_cases c1 : c = 34
      · rw [dec_t (p := (c.toNat : Int) = 34) ((q 34 (by omega)).2 c1)]; simp [c1]
      · rw [dec_f (p := (c.toNat : Int) = 34) (fun h => c1 ((q 34 (by omega)).1 h))]
        by_cases c2 : c = 92
        · rw [dec_t (p := (c.toNat : Int) = 92) ((q 92 (by omega)).2 c2)]; simp [c2]
        · rw [dec_f (p := (c.toNat : Int) = 92) (fun h => c2 ((q 92 (by omega)).1 h))]
          by_cases c3 : c = 10
          · rw [dec_t (p := (c.toNat : Int) = 10) ((q 10 (by omega)).2 c3)]; simp [c3]
          · rw [dec_f (p := (c.toNat : Int) = 10) (fun h => c3 ((q 10 (by omega)).1 h))]; simp [c1, c2, c3]
  rw [enter33, dec_f h0, dec_f h1, dec_f h2]
  have := key (D.toStr (D.cell v 3)).length 0 (by omega) [34] (by simp)
  rw [List.drop_zero] at this
  exact this
theorem r17 (n : Int) : RUN E 17 [.int n] = some [.str (Lib.itoa n)] := (RUN_eq _ _ _).trans (by kernel_rfl)
theorem r16 (b : Bool) : RUN E 16 [.bool b] = some [.str (cond b [116, 114, 117, 101] [102, 97, 108, 115, 101])] := by
  rw [enter16, enter35]; cases b <;> rfl

/-! ### Nodes -/
def lv (k : Int) : Int := bif decide (k = 9) then 1 else bif decide (k = 8) then 2 else bif decide (k = 7) then 3 else bif decide (k = 10) then 4 else 5
theorem r32 (k : Int) : RUN E 32 [.int k] = some [.int (lv k)] := by
  rw [enter32]; unfold lv
  cases decide (k = 9) <;> cases decide (k = 8) <;> cases decide (k = 7) <;> cases decide (k = 10) <;> rfl
def tg (k : Int) : Int := bif decide (k = 9) then 1 else bif decide (k = 8) then 2 else bif decide (k = 7) then 3 else bif decide (k = 10) then 4 else bif decide (k = 4) then 5 else bif decide (k = 5) then 5 else 6
theorem r39 (k : Int) : RUN E 39 [.int k] = some [.int (tg k)] := by
  rw [enter39]; unfold tg
  cases decide (k = 9) <;> cases decide (k = 8) <;> cases decide (k = 7) <;> cases decide (k = 10) <;> cases decide (k = 4) <;> cases decide (k = 5) <;> rfl
theorem lv_tg (k : Int) (n : Int) (hn : n ≤ 5) : decide (tg k < n) = decide (lv k < n) := by
  unfold tg lv
  cases decide (k = 9)
  · cases decide (k = 8)
    · cases decide (k = 7)
      · cases decide (k = 10)
        · cases decide (k = 4)
          · cases decide (k = 5)
            · simp only [cond_false]; rw [dec_f (p := (6 : Int) < n) (by omega), dec_f (p := (5 : Int) < n) (by omega)]
            · rfl
          · rfl
        · rfl
      · rfl
    · rfl
  · rfl
theorem lv_pos (k : Int) : 1 ≤ lv k := by
  unfold lv
  cases decide (k = 9) <;> cases decide (k = 8) <;> cases decide (k = 7) <;> cases decide (k = 10) <;> decide
/-- A node is printed alike. -/
def Pr (x : D) (t : B) : Prop := RUN E 7 [x] = some [.str t] ∧ RUN E 13 [x, .int 1] = some [.str t] ∧ t.length + 8 ≤ 64 * dmass x
theorem br {x : D} {t : B} (h : Pr x t) (hm : dmass x ≤ 1048576) (least : Int) (hl : least ≤ 5) : ∃ u : B, RUN E 20 [x, .int least] = some [.str u] ∧ RUN E 13 [x, .int least] = some [.str u] ∧ u.length + 6 ≤ 64 * dmass x := by
  obtain ⟨h1, h2, h3⟩ := h
  have l1 : List.length ([40] : B) = 1 := rfl
  have l2 : List.length ([41] : B) = 1 := rfl
  by_cases hc : lv (kd x) < least
  · refine ⟨[40] ++ t ++ [41], ?_, ?_, by simp only [List.length_append, l1, l2]; omega⟩
    · rw [enter20, r39]
      simp only [opt_s, List.getD_cons_zero, tI]
      rw [lv_tg _ _ hl, dec_t hc, h1]
      simp only [cond_true, opt_s, List.getD_cons_zero, tS]
      rw [lim_c (by omega), lim_c (by simp only [List.length_append]; omega)]
    · rw [enter13, r32]
      simp only [opt_s, List.getD_cons_zero, tI]
      rw [dec_t hc, h2]
      simp only [cond_true, opt_s, List.getD_cons_zero, tS]
      rw [lim_c (by omega), lim_c (by simp only [List.length_append]; omega)]
  · refine ⟨t, ?_, ?_, by omega⟩
    · rw [enter20, r39]
      simp only [opt_s, List.getD_cons_zero, tI]
      rw [lv_tg _ _ hl, dec_f hc, h1]; rfl
    · rw [← h2, enter13 x least, enter13 x 1, r32]
      simp only [opt_s, List.getD_cons_zero, tI]
      rw [dec_f hc, dec_f (p := lv (kd x) < 1) (by have := lv_pos (kd x); omega)]
      simp only [cond_false]
theorem mem0 {x : D} (h : 0 < (ar x).length) : (ar x).getD 0 .no ∈ ar x := by rw [getD_eq _ _ _ h]; exact List.getElem_mem _
theorem mem1 {x : D} (h : 1 < (ar x).length) : (ar x).getD 1 .no ∈ ar x := by rw [getD_eq _ _ _ h]; exact List.getElem_mem _
theorem two_mass {x : D} (h : (ar x).length = 2) : dmass ((ar x).getD 0 .no) + dmass ((ar x).getD 1 .no) + 1 ≤ dmass (D.cell x 8) := by
  unfold ar at *
  cases hc : D.cell x 8 with
  | list l =>
    rw [hc] at h
    replace h : l.length = 2 := h
    match l, h with
    | [a, b], _ => simp [dmass, dmass.dmAll, D.toList] <;> omega
  | _ => rw [hc] at h; cases h
theorem p1 {x : D} (hm : dmass x ≤ 1048576) (hk : kd x = 1) (hc : cf (vl x) = false) : ∃ t, Pr x t := by
  have hk' : D.toInt (D.cell x 0) = 1 := hk
  have m4 := mass4 x
  have kp : 1 ≤ dmass (D.cell x 0) := kd_pos (by omega)
  have n1 : (D.toStr (D.cell x 1)).length ≤ dmass (D.cell x 1) := toStr_le _
  have n5 : (D.toStr (D.cell x 5)).length ≤ dmass (D.cell x 5) := toStr_le _
  have v0 : D.cell (vl x) 0 = D.cell x 2 := vl_cell x 0 (by omega)
  have v1 : D.cell (vl x) 1 = D.cell x 3 := vl_cell x 1 (by omega)
  have v2 : D.cell (vl x) 2 = D.cell x 4 := vl_cell x 2 (by omega)
  have v3 : D.cell (vl x) 3 = D.cell x 5 := vl_cell x 3 (by omega)
  have g13 : ∀ t : B, RUN E 33 [vl x] = some [.str t] → RUN E 13 [x, .int 1] = some [.str t] := fun t ht => by
    rw [enter13, hk', r32, opt_s, List.getD_cons_zero, tI, cF (p := lv 1 < 1) (by decide), cT (p := (1 : Int) = 1) rfl]
    show opt (RUN E 33 [vl x]) _ = _
    rw [ht]; rfl
  have hq : D.toInt (D.cell x 2) = 0 ∨ D.toInt (D.cell x 2) = 1 ∨ (D.toInt (D.cell x 2) = 2 ∧ -999999999999999 ≤ D.toInt (D.cell x 4) ∧ D.toInt (D.cell x 4) ≤ 999999999999999) ∨ D.toInt (D.cell x 2) = 3 := by
    unfold cf at hc
    rw [v0, v2] at hc
    by_cases c0 : D.toInt (D.cell x 2) = 0
    · exact .inl c0
    · by_cases c1 : D.toInt (D.cell x 2) = 1
      · exact .inr (.inl c1)
      · by_cases c2 : D.toInt (D.cell x 2) = 2
        · refine .inr (.inr (.inl ⟨c2, ?_⟩))
          rw [cF c0, cF c1, cT c2] at hc
          simp only [Bool.not_eq_false', Bool.and_eq_true, decide_eq_true_eq] at hc
          omega
        · by_cases c3 : D.toInt (D.cell x 2) = 3
          · exact .inr (.inr (.inr c3))
          · rw [cF c0, cF c1, cF c2, cF c3] at hc; cases hc
  rcases hq with q | q | ⟨q, r⟩ | q
  · refine ⟨[110, 105, 108], ?_, g13 _ ?_, by show 3 + 8 ≤ _; omega⟩
    · rw [enter7, hk', cT (p := (1 : Int) = 1) rfl, q, cF (p := (0 : Int) = 1) (by decide), cF (p := (0 : Int) = 2) (by decide), cF (p := (0 : Int) = 3) (by decide)]
    · rw [enter33, v0, q, cT (p := (0 : Int) = 0) rfl]
  · refine ⟨cond (D.toBool (D.cell x 3)) [116, 114, 117, 101] [102, 97, 108, 115, 101], ?_, g13 _ ?_, by cases D.toBool (D.cell x 3) <;> (simp; omega)⟩
    · rw [enter7, hk', cT (p := (1 : Int) = 1) rfl, q, cT (p := (1 : Int) = 1) rfl, r16]; rfl
    · rw [enter33, v0, v1, q, cF (p := (1 : Int) = 0) (by decide), cT (p := (1 : Int) = 1) rfl]; cases D.toBool (D.cell x 3) <;> rfl
  · refine ⟨Lib.itoa (D.toInt (D.cell x 4)), ?_, g13 _ ?_, by have := itoa_len (n := D.toInt (D.cell x 4)) (by omega) (by omega); omega⟩
    · rw [enter7, hk', cT (p := (1 : Int) = 1) rfl, q, cF (p := (2 : Int) = 1) (by decide), cT (p := (2 : Int) = 2) rfl, r17]; rfl
    · rw [enter33, v0, v2, q, cF (p := (2 : Int) = 0) (by decide), cF (p := (2 : Int) = 1) (by decide), cT (p := (2 : Int) = 2) rfl, r17]; rfl
  · have el := esc_len (D.toStr (D.cell x 5))
    have el1 := e1_len (D.toStr (D.cell x 5))
    have ee : ((D.toStr (D.cell x 5)).flatMap e1).flatMap e2 = (D.toStr (D.cell x 5)).flatMap esc := by
      rw [List.flatMap_assoc]; simp only [e12]
    have l34 : List.length ([34] : B) = 1 := rfl
    have hm5 : 1 ≤ dmass (D.cell x 5) ∨ (D.toStr (D.cell x 5)).length = 0 := by omega
    refine ⟨34 :: (D.toStr (D.cell x 5)).flatMap esc ++ [34], ?_, g13 _ ?_, by simp only [List.length_append, List.length_cons, List.length_nil]; omega⟩
    · rw [enter7, hk', cT (p := (1 : Int) = 1) rfl, q, cF (p := (3 : Int) = 1) (by decide), cF (p := (3 : Int) = 2) (by decide), cT (p := (3 : Int) = 3) rfl, r19 _ (by omega)]
      simp only [opt_s, List.getD_cons_zero, tS]
      rw [r18 _ (by omega), ee]
      simp only [opt_s, List.getD_cons_zero, tS]
      rw [lim_c (by omega), lim_c (by simp only [List.length_append]; omega)]
      rfl
    · have := r33 (vl x) (by rw [v3]; omega) (by rw [v0, q]; decide) (by rw [v0, q]; decide) (by rw [v0, q]; decide)
      rw [v3] at this
      exact this
theorem p2 {x : D} (hm : dmass x ≤ 1048576) (hk : kd x = 2) : ∃ t, Pr x t := by
  have hk' : D.toInt (D.cell x 0) = 2 := hk
  have m4 := mass4 x
  have kp : 1 ≤ dmass (D.cell x 0) := kd_pos (by omega)
  have n1 : (D.toStr (D.cell x 1)).length ≤ dmass (D.cell x 1) := toStr_le _
  refine ⟨[46], ?_, ?_, by show 1 + 8 ≤ _; omega⟩
  · rw [enter7, hk', cF (p := (2 : Int) = 1) (by decide), cT (p := (2 : Int) = 2) rfl]
  · rw [enter13, hk', r32, opt_s, List.getD_cons_zero, tI, cF (p := lv 2 < 1) (by decide), cF (p := (2 : Int) = 1) (by decide), cT (p := (2 : Int) = 2) rfl]
theorem p3 {x : D} (hm : dmass x ≤ 1048576) (hk : kd x = 3) : ∃ t, Pr x t := by
  have hk' : D.toInt (D.cell x 0) = 3 := hk
  have m4 := mass4 x
  have kp : 1 ≤ dmass (D.cell x 0) := kd_pos (by omega)
  have n1 : (D.toStr (D.cell x 1)).length ≤ dmass (D.cell x 1) := toStr_le _
  have l1 : List.length ([36] : B) = 1 := rfl
  refine ⟨[36] ++ D.toStr (D.cell x 1), ?_, ?_, by simp only [List.length_append]; omega⟩
  · rw [enter7, hk', cF (p := (3 : Int) = 1) (by decide), cF (p := (3 : Int) = 2) (by decide), cT (p := (3 : Int) = 3) rfl, lim_c (by omega)]
  · rw [enter13, hk', r32, opt_s, List.getD_cons_zero, tI, cF (p := lv 3 < 1) (by decide), cF (p := (3 : Int) = 1) (by decide), cF (p := (3 : Int) = 2) (by decide), cT (p := (3 : Int) = 3) rfl, lim_c (by omega)]
theorem p4 {x : D} (hm : dmass x ≤ 1048576) (hk : kd x = 4) (hl : (ar x).length = 1) (ih : ∀ a ∈ ar x, ∃ t, Pr a t) : ∃ t, Pr x t := by
  have hk' : D.toInt (D.cell x 0) = 4 := hk
  have m4 := mass4 x
  have kp : 1 ≤ dmass (D.cell x 0) := kd_pos (by omega)
  have n1 : (D.toStr (D.cell x 1)).length ≤ dmass (D.cell x 1) := toStr_le _
  have hin : inb 0 (ar x).length = true := inb_nat (i := 0) (by omega)
  have hin' : inb 0 (D.toList (D.cell x 8)).length = true := hin
  have l1 : List.length ([46] : B) = 1 := rfl
  have hm0 := ar_mass (mem0 (x := x) (by omega))
  obtain ⟨t, ht⟩ := ih _ (mem0 (x := x) (by omega))
  obtain ⟨u, u1, u2, u3⟩ := br ht (by omega) 5 (by omega)
  by_cases hd : D.toInt (D.cell (List.getD (D.toList (D.cell x 8)) 0 D.no) 0) = 2
  · refine ⟨[46] ++ D.toStr (D.cell x 1), ?_, ?_, by simp only [List.length_append]; omega⟩
    · rw [enter7, hk', cF (p := (4 : Int) = 1) (by decide), cF (p := (4 : Int) = 2) (by decide), cF (p := (4 : Int) = 3) (by decide), cT (p := (4 : Int) = 4) rfl, hin', cond_true, cT hd, lim_c (by omega)]
    · rw [enter13, hk', r32, opt_s, List.getD_cons_zero, tI, cF (p := lv 4 < 1) (by decide), cF (p := (4 : Int) = 1) (by decide), cF (p := (4 : Int) = 2) (by decide), cF (p := (4 : Int) = 3) (by decide), cT (p := (4 : Int) = 4) rfl, hin', cond_true, cT hd, lim_c (by omega)]
  · refine ⟨u ++ [46] ++ D.toStr (D.cell x 1), ?_, ?_, by simp only [List.length_append]; omega⟩
    · rw [enter7, hk', cF (p := (4 : Int) = 1) (by decide), cF (p := (4 : Int) = 2) (by decide), cF (p := (4 : Int) = 3) (by decide), cT (p := (4 : Int) = 4) rfl, hin', cond_true, cF hd, cond_true, u1]
      simp only [opt_s, List.getD_cons_zero, tS]
      rw [lim_c (by omega), lim_c (by simp only [List.length_append]; omega)]
    · rw [enter13, hk', r32, opt_s, List.getD_cons_zero, tI, cF (p := lv 4 < 1) (by decide), cF (p := (4 : Int) = 1) (by decide), cF (p := (4 : Int) = 2) (by decide), cF (p := (4 : Int) = 3) (by decide), cT (p := (4 : Int) = 4) rfl, hin', cond_true, cF hd, cond_true, u2]
      simp only [opt_s, List.getD_cons_zero, tS]
      rw [lim_c (by omega), lim_c (by simp only [List.length_append]; omega)]
theorem p5 {x : D} (hm : dmass x ≤ 1048576) (hk : kd x = 5) (hl : (ar x).length = 2) (ih : ∀ a ∈ ar x, ∃ t, Pr a t) : ∃ t, Pr x t := by
  have hk' : D.toInt (D.cell x 0) = 5 := hk
  have m4 := mass4 x
  have kp : 1 ≤ dmass (D.cell x 0) := kd_pos (by omega)
  have n1 : (D.toStr (D.cell x 1)).length ≤ dmass (D.cell x 1) := toStr_le _
  have hin0 : inb 0 (D.toList (D.cell x 8)).length = true := inb_nat (i := 0) (by show 0 < (ar x).length; omega)
  have hin1 : inb 1 (D.toList (D.cell x 8)).length = true := inb_nat (i := 1) (by show 1 < (ar x).length; omega)
  have l1 : List.length ([91] : B) = 1 := rfl
  have l2 : List.length ([93] : B) = 1 := rfl
  have hm2 := two_mass hl
  obtain ⟨t, ht⟩ := ih _ (mem0 (x := x) (by omega))
  obtain ⟨s, hs⟩ := ih _ (mem1 (x := x) (by omega))
  obtain ⟨u, u1, u2, u3⟩ := br ht (by omega) 5 (by omega)
  obtain ⟨s1, s2, s3⟩ := hs
  refine ⟨u ++ [91] ++ s ++ [93], ?_, ?_, by simp only [List.length_append]; omega⟩
  · rw [enter7, hk', cF (p := (5 : Int) = 1) (by decide), cF (p := (5 : Int) = 2) (by decide), cF (p := (5 : Int) = 3) (by decide), cF (p := (5 : Int) = 4) (by decide), cT (p := (5 : Int) = 5) rfl, hin0, cond_true, u1]
    simp only [opt_s, List.getD_cons_zero, tS]
    rw [lim_c (by omega), hin1, cond_true, s1]
    simp only [opt_s, List.getD_cons_zero, tS]
    rw [lim_c (by simp only [List.length_append]; omega), lim_c (by simp only [List.length_append]; omega)]
  · rw [enter13, hk', r32, opt_s, List.getD_cons_zero, tI, cF (p := lv 5 < 1) (by decide), cF (p := (5 : Int) = 1) (by decide), cF (p := (5 : Int) = 2) (by decide), cF (p := (5 : Int) = 3) (by decide), cF (p := (5 : Int) = 4) (by decide), cT (p := (5 : Int) = 5) rfl, hin0, cond_true, u2]
    simp only [opt_s, List.getD_cons_zero, tS]
    rw [lim_c (by omega), hin1, cond_true, s2]
    simp only [opt_s, List.getD_cons_zero, tS]
    rw [lim_c (by simp only [List.length_append]; omega), lim_c (by simp only [List.length_append]; omega)]
theorem p7 {x : D} (hm : dmass x ≤ 1048576) (hk : kd x = 7) (hl : (ar x).length = 1) (ih : ∀ a ∈ ar x, ∃ t, Pr a t) : ∃ t, Pr x t := by
  have hk' : D.toInt (D.cell x 0) = 7 := hk
  have m4 := mass4 x
  have kp : 1 ≤ dmass (D.cell x 0) := kd_pos (by omega)
  have n1 : (D.toStr (D.cell x 1)).length ≤ dmass (D.cell x 1) := toStr_le _
  have hin : inb 0 (D.toList (D.cell x 8)).length = true := inb_nat (i := 0) (by show 0 < (ar x).length; omega)
  have l1 : List.length ([110, 111, 116, 32] : B) = 4 := rfl
  have hm0 := ar_mass (mem0 (x := x) (by omega))
  obtain ⟨t, ht⟩ := ih _ (mem0 (x := x) (by omega))
  obtain ⟨u, u1, u2, u3⟩ := br ht (by omega) 3 (by omega)
  refine ⟨[110, 111, 116, 32] ++ u, ?_, ?_, by simp only [List.length_append]; omega⟩
  · rw [enter7, hk', cF (p := (7 : Int) = 1) (by decide), cF (p := (7 : Int) = 2) (by decide), cF (p := (7 : Int) = 3) (by decide), cF (p := (7 : Int) = 4) (by decide), cF (p := (7 : Int) = 5) (by decide), cF (p := (7 : Int) = 6) (by decide), cT (p := (7 : Int) = 7) rfl, hin, cond_true, u1]
    simp only [opt_s, List.getD_cons_zero, tS]
    rw [lim_c (by omega)]
  · rw [enter13, hk', r32, opt_s, List.getD_cons_zero, tI, cF (p := lv 7 < 1) (by decide), cF (p := (7 : Int) = 1) (by decide), cF (p := (7 : Int) = 2) (by decide), cF (p := (7 : Int) = 3) (by decide), cF (p := (7 : Int) = 4) (by decide), cF (p := (7 : Int) = 5) (by decide), cF (p := (7 : Int) = 6) (by decide), cT (p := (7 : Int) = 7) rfl, hin, cond_true, u2]
    simp only [opt_s, List.getD_cons_zero, tS]
    rw [lim_c (by omega)]
theorem p8 {x : D} (hm : dmass x ≤ 1048576) (hk : kd x = 8) (hl : (ar x).length = 2) (ih : ∀ a ∈ ar x, ∃ t, Pr a t) : ∃ t, Pr x t := by
  have hk' : D.toInt (D.cell x 0) = 8 := hk
  have m4 := mass4 x
  have kp : 1 ≤ dmass (D.cell x 0) := kd_pos (by omega)
  have n1 : (D.toStr (D.cell x 1)).length ≤ dmass (D.cell x 1) := toStr_le _
  have hin0 : inb 0 (D.toList (D.cell x 8)).length = true := inb_nat (i := 0) (by show 0 < (ar x).length; omega)
  have hin1 : inb 1 (D.toList (D.cell x 8)).length = true := inb_nat (i := 1) (by show 1 < (ar x).length; omega)
  have l1 : List.length ([32, 97, 110, 100, 32] : B) = 5 := rfl
  have hm2 := two_mass hl
  obtain ⟨t, ht⟩ := ih _ (mem0 (x := x) (by omega))
  obtain ⟨s, hs⟩ := ih _ (mem1 (x := x) (by omega))
  obtain ⟨u, u1, u2, u3⟩ := br ht (by omega) 2 (by omega)
  obtain ⟨q, q1, q2, q3⟩ := br hs (by omega) 3 (by omega)
  refine ⟨u ++ [32, 97, 110, 100, 32] ++ q, ?_, ?_, by simp only [List.length_append]; omega⟩
  · rw [enter7, hk', cF (p := (8 : Int) = 1) (by decide), cF (p := (8 : Int) = 2) (by decide), cF (p := (8 : Int) = 3) (by decide), cF (p := (8 : Int) = 4) (by decide), cF (p := (8 : Int) = 5) (by decide), cF (p := (8 : Int) = 6) (by decide), cF (p := (8 : Int) = 7) (by decide), cT (p := (8 : Int) = 8) rfl, hin0, cond_true, u1]
    simp only [opt_s, List.getD_cons_zero, tS]
    rw [lim_c (by omega), hin1, cond_true, q1]
    simp only [opt_s, List.getD_cons_zero, tS]
    rw [lim_c (by simp only [List.length_append]; omega)]
  · rw [enter13, hk', r32, opt_s, List.getD_cons_zero, tI, cF (p := lv 8 < 1) (by decide), cF (p := (8 : Int) = 1) (by decide), cF (p := (8 : Int) = 2) (by decide), cF (p := (8 : Int) = 3) (by decide), cF (p := (8 : Int) = 4) (by decide), cF (p := (8 : Int) = 5) (by decide), cF (p := (8 : Int) = 6) (by decide), cF (p := (8 : Int) = 7) (by decide), cT (p := (8 : Int) = 8) rfl, hin0, cond_true, u2]
    simp only [opt_s, List.getD_cons_zero, tS]
    rw [lim_c (by omega), hin1, cond_true, q2]
    simp only [opt_s, List.getD_cons_zero, tS]
    rw [lim_c (by simp only [List.length_append]; omega)]
theorem p9 {x : D} (hm : dmass x ≤ 1048576) (hk : kd x = 9) (hl : (ar x).length = 2) (ih : ∀ a ∈ ar x, ∃ t, Pr a t) : ∃ t, Pr x t := by
  have hk' : D.toInt (D.cell x 0) = 9 := hk
  have m4 := mass4 x
  have kp : 1 ≤ dmass (D.cell x 0) := kd_pos (by omega)
  have n1 : (D.toStr (D.cell x 1)).length ≤ dmass (D.cell x 1) := toStr_le _
  have hin0 : inb 0 (D.toList (D.cell x 8)).length = true := inb_nat (i := 0) (by show 0 < (ar x).length; omega)
  have hin1 : inb 1 (D.toList (D.cell x 8)).length = true := inb_nat (i := 1) (by show 1 < (ar x).length; omega)
  have l1 : List.length ([32, 111, 114, 32] : B) = 4 := rfl
  have hm2 := two_mass hl
  obtain ⟨t, ht⟩ := ih _ (mem0 (x := x) (by omega))
  obtain ⟨s, hs⟩ := ih _ (mem1 (x := x) (by omega))
  obtain ⟨u, u1, u2, u3⟩ := br ht (by omega) 1 (by omega)
  obtain ⟨q, q1, q2, q3⟩ := br hs (by omega) 2 (by omega)
  refine ⟨u ++ [32, 111, 114, 32] ++ q, ?_, ?_, by simp only [List.length_append]; omega⟩
  · rw [enter7, hk', cF (p := (9 : Int) = 1) (by decide), cF (p := (9 : Int) = 2) (by decide), cF (p := (9 : Int) = 3) (by decide), cF (p := (9 : Int) = 4) (by decide), cF (p := (9 : Int) = 5) (by decide), cF (p := (9 : Int) = 6) (by decide), cF (p := (9 : Int) = 7) (by decide), cF (p := (9 : Int) = 8) (by decide), cT (p := (9 : Int) = 9) rfl, hin0, cond_true, u1]
    simp only [opt_s, List.getD_cons_zero, tS]
    rw [lim_c (by omega), hin1, cond_true, q1]
    simp only [opt_s, List.getD_cons_zero, tS]
    rw [lim_c (by simp only [List.length_append]; omega)]
  · rw [enter13, hk', r32, opt_s, List.getD_cons_zero, tI, cF (p := lv 9 < 1) (by decide), cF (p := (9 : Int) = 1) (by decide), cF (p := (9 : Int) = 2) (by decide), cF (p := (9 : Int) = 3) (by decide), cF (p := (9 : Int) = 4) (by decide), cF (p := (9 : Int) = 5) (by decide), cF (p := (9 : Int) = 6) (by decide), cF (p := (9 : Int) = 7) (by decide), cF (p := (9 : Int) = 8) (by decide), cT (p := (9 : Int) = 9) rfl, hin0, cond_true, u2]
    simp only [opt_s, List.getD_cons_zero, tS]
    rw [lim_c (by omega), hin1, cond_true, q2]
    simp only [opt_s, List.getD_cons_zero, tS]
    rw [lim_c (by simp only [List.length_append]; omega)]
theorem p10 {x : D} (hm : dmass x ≤ 1048576) (hk : kd x = 10) (hl : (ar x).length = 2) (ih : ∀ a ∈ ar x, ∃ t, Pr a t) : ∃ t, Pr x t := by
  have hk' : D.toInt (D.cell x 0) = 10 := hk
  have m4 := mass4 x
  have kp : 1 ≤ dmass (D.cell x 0) := kd_pos (by omega)
  have n1 : (D.toStr (D.cell x 1)).length ≤ dmass (D.cell x 1) := toStr_le _
  have hin0 : inb 0 (D.toList (D.cell x 8)).length = true := inb_nat (i := 0) (by show 0 < (ar x).length; omega)
  have hin1 : inb 1 (D.toList (D.cell x 8)).length = true := inb_nat (i := 1) (by show 1 < (ar x).length; omega)
  have l1 : List.length ([32] : B) = 1 := rfl
  have hm2 := two_mass hl
  obtain ⟨t, ht⟩ := ih _ (mem0 (x := x) (by omega))
  obtain ⟨s, hs⟩ := ih _ (mem1 (x := x) (by omega))
  obtain ⟨u, u1, u2, u3⟩ := br ht (by omega) 5 (by omega)
  obtain ⟨q, q1, q2, q3⟩ := br hs (by omega) 5 (by omega)
  refine ⟨u ++ [32] ++ D.toStr (D.cell x 1) ++ [32] ++ q, ?_, ?_, by simp only [List.length_append]; omega⟩
  · rw [enter7, hk', cF (p := (10 : Int) = 1) (by decide), cF (p := (10 : Int) = 2) (by decide), cF (p := (10 : Int) = 3) (by decide), cF (p := (10 : Int) = 4) (by decide), cF (p := (10 : Int) = 5) (by decide), cF (p := (10 : Int) = 6) (by decide), cF (p := (10 : Int) = 7) (by decide), cF (p := (10 : Int) = 8) (by decide), cF (p := (10 : Int) = 9) (by decide), hin0, cond_true, u1]
    simp only [opt_s, List.getD_cons_zero, tS]
    rw [lim_c (by omega), lim_c (by simp only [List.length_append]; omega), lim_c (by simp only [List.length_append]; omega), hin1, cond_true, q1]
    simp only [opt_s, List.getD_cons_zero, tS]
    rw [lim_c (by simp only [List.length_append]; omega)]
  · rw [enter13, hk', r32, opt_s, List.getD_cons_zero, tI, cF (p := lv 10 < 1) (by decide), cF (p := (10 : Int) = 1) (by decide), cF (p := (10 : Int) = 2) (by decide), cF (p := (10 : Int) = 3) (by decide), cF (p := (10 : Int) = 4) (by decide), cF (p := (10 : Int) = 5) (by decide), cF (p := (10 : Int) = 6) (by decide), cF (p := (10 : Int) = 7) (by decide), cF (p := (10 : Int) = 8) (by decide), cF (p := (10 : Int) = 9) (by decide), hin0, cond_true, u2]
    simp only [opt_s, List.getD_cons_zero, tS]
    rw [lim_c (by omega), lim_c (by simp only [List.length_append]; omega), lim_c (by simp only [List.length_append]; omega), hin1, cond_true, q2]
    simp only [opt_s, List.getD_cons_zero, tS]
    rw [lim_c (by simp only [List.length_append]; omega)]
/-- Arguments, with commas between. -/
def coms : List B → B
  | [] => []
  | [a] => a
  | a :: r => a ++ [44, 32] ++ coms r
theorem join_coms : ∀ l : List B, Lib.join l [44, 32] = coms l := by
  intro l
  induction l with
  | nil => rfl
  | cons a r ih =>
    cases r with
    | nil => simp [Lib.join, coms]
    | cons b s => rw [show coms (a :: b :: s) = a ++ [44, 32] ++ coms (b :: s) from rfl, ← ih]; simp [Lib.join, List.intercalate]
theorem r21 (l : List B) (h1 : l.length ≤ 140737488355328) (h2 : (coms l).length ≤ 140737488355328) : RUN E 21 [.list (l.map .str), .str [44, 32]] = some [.str (coms l)] := by
  have hm : (l.map D.str).map D.toStr = l := by
    rw [List.map_map]
    have : (D.toStr ∘ D.str) = id := by funext x; rfl
    rw [this, List.map_id]
  have : RUN E 21 [.list (l.map .str), .str [44, 32]] = cond (decide ((l.map D.str).length ≤ 140737488355328) && decide ((Lib.join ((l.map D.str).map D.toStr) [44, 32]).length ≤ 140737488355328)) (some [.str (Lib.join ((l.map D.str).map D.toStr) [44, 32])]) none := (RUN_eq _ _ _).trans (by kernel_rfl)
  rw [this, hm, join_coms, List.length_map, dec_t h1, dec_t h2]; rfl
theorem p6 {x : D} (hm : dmass x ≤ 1048576) (hk : kd x = 6) (hl : 1 ≤ (ar x).length) (hl3 : (ar x).length ≤ 3) (ih : ∀ a ∈ ar x, ∃ t, Pr a t) : ∃ t, Pr x t := by
  have hk' : D.toInt (D.cell x 0) = 6 := hk
  have m4 := mass4 x
  have kp : 1 ≤ dmass (D.cell x 0) := kd_pos (by omega)
  have n1 : (D.toStr (D.cell x 1)).length ≤ dmass (D.cell x 1) := toStr_le _
  have l40 : List.length ([40] : B) = 1 := rfl
  have l41 : List.length ([41] : B) = 1 := rfl
  have l44 : List.length ([44, 32] : B) = 2 := rfl
  -- the texts of the arguments
  obtain ⟨T, hT, hTl⟩ : ∃ T : List B, T.length = (ar x).length ∧ ∀ i, i < (ar x).length → Pr ((ar x).getD i .no) (T.getD i []) := by
    have : ∀ l : List D, (∀ a ∈ l, ∃ t, Pr a t) → ∃ T : List B, T.length = l.length ∧ ∀ i, i < l.length → Pr (l.getD i .no) (T.getD i []) := by
      intro l
      induction l with
      | nil => intro _; exact ⟨[], rfl, fun i h => absurd h (Nat.not_lt_zero _)⟩
      | cons a r ihl =>
        intro h
        obtain ⟨t, ht⟩ := h a List.mem_cons_self
        obtain ⟨T, h1, h2⟩ := ihl fun b hb => h b (List.mem_cons_of_mem _ hb)
        refine ⟨t :: T, by simp [h1], fun i hi => ?_⟩
        cases i with
        | zero => exact ht
        | succ i => exact h2 i (by simpa using hi)
    exact this _ ih
  have hsum : ∀ n i : Nat, i + n = (ar x).length → (coms (T.drop i)).length + 4 * n ≤ 64 * dmass.dmAll ((ar x).drop i) := by
    intro n
    induction n with
    | zero => intro i hi; rw [List.drop_eq_nil_of_le (by omega)]; simp [coms]
    | succ n ihn =>
      intro i hi
      have hi1 : i < (ar x).length := by omega
      have := ihn (i + 1) (by omega)
      have hp := (hTl i hi1).2.2
      rw [drop_cons .no hi1, drop_cons [] (by omega : i < T.length)]
      simp only [dmass.dmAll]
      cases hd : T.drop (i + 1) with
      | nil => rw [hd] at this; simp only [coms, List.length_nil] at *; omega
      | cons b r => rw [hd] at this; simp only [coms, List.length_append] at *; omega
  have hml : dmass.dmAll (ar x) + 1 ≤ dmass (D.cell x 8) := by
    unfold ar at *
    cases hc : D.cell x 8 with
    | list l => exact Nat.le_refl _
    | _ => rw [hc] at hl; exact absurd hl (by simp [D.toList])
  have hall := hsum (ar x).length 0 (by omega)
  rw [List.drop_zero, List.drop_zero] at hall
  have nx : ∀ i : Nat, i ≤ 3 → IntKind.wrap .i64 ((i : Int) + 1) = ((i + 1 : Nat) : Int) := fun i hi => nxt (by omega)
  have tl : ∀ i, i < (ar x).length → (T.getD i []).length ≤ 67108864 := fun i hi => by
    have h3 := (hTl i hi).2.2
    have := ar_mass (x := x) (a := (ar x).getD i .no) (by rw [getD_eq _ _ _ hi]; exact List.getElem_mem _)
    omega
  -- the program
  have prog : ∀ n i : Nat, i + n = (ar x).length → 1 ≤ i → ∀ out : B, out.length + n * 67108900 ≤ 1000000000 → L13a out (ar x) ((ar x).length : Int) i = some [.str ((T.drop i).foldl (fun o t => o ++ [44, 32] ++ t) out ++ [41])] := by
    intro n
    induction n with
    | zero => intro i hi h1 out ho; rw [round13a, dec_f (by omega), List.drop_eq_nil_of_le (by omega), cond_false, lim_c (by omega)]; rfl
    | succ n ihn =>
      intro i hi h1 out ho
      have hi1 : i < (ar x).length := by omega
      obtain ⟨a1, a2, a3⟩ := hTl i hi1
      have ht := tl i hi1
      rw [round13a, dec_t (by omega), inb_nat hi1, cond_true, cond_true, cF (p := (i : Int) = 0) (by omega), lim_c (by omega), Int.toNat_natCast, a2]
      simp only [opt_s, List.getD_cons_zero, tS]
      rw [lim_c (by simp only [List.length_append]; omega), nx i (by omega), drop_cons [] (by omega : i < T.length), List.foldl_cons]
      exact ihn (i + 1) (by omega) (by omega) _ (by simp only [List.length_append]; omega)
  have cfold : ∀ (l : List B) (a q : B), l.foldl (fun o t => o ++ [44, 32] ++ t) (q ++ a) = q ++ coms (a :: l) := by
    intro l
    induction l with
    | nil => intro a q; rfl
    | cons b r ihl =>
      intro a q
      rw [List.foldl_cons, ihl b (q ++ a ++ [44, 32])]
      show _ = q ++ (a ++ [44, 32] ++ coms (b :: r))
      simp only [List.append_assoc]
  have t0 := tl 0 (by omega)
  obtain ⟨z1, z2, z3⟩ := hTl 0 (by omega)
  have hT0 : T = T.getD 0 [] :: T.drop 1 := by
    have := drop_cons [] (by omega : 0 < T.length)
    rwa [List.drop_zero] at this
  -- the reference
  have rf : ∀ n i : Nat, i + n = (ar x).length → L7a (ar x) ((ar x).length : Int) i ((T.take i).map .str) x = some [.str (D.toStr (D.cell x 1) ++ [40] ++ coms T ++ [41])] := by
    intro n
    induction n with
    | zero =>
      intro i hi
      have htk : T.take i = T := List.take_of_length_le (by omega)
      rw [round7a, dec_f (by omega), cond_false, lim_c (by omega), htk, r21 T (by omega) (by omega)]
      simp only [opt_s, List.getD_cons_zero, tS]
      rw [lim_c (by simp only [List.length_append]; omega), lim_c (by simp only [List.length_append]; omega)]
    | succ n ihn =>
      intro i hi
      have hi1 : i < (ar x).length := by omega
      obtain ⟨a1, a2, a3⟩ := hTl i hi1
      rw [round7a, dec_t (by omega), inb_nat hi1, cond_true, cond_true, Int.toNat_natCast, a1]
      simp only [opt_s, List.getD_cons_zero, tS]
      rw [fit_t (by rw [List.length_map, List.length_take]; show _ + 1 ≤ _; omega), cond_true, nx i (by omega)]
      have := ihn (i + 1) (by omega)
      rw [take_snoc [] (by omega : i < T.length), List.map_append] at this
      exact this
  refine ⟨D.toStr (D.cell x 1) ++ [40] ++ coms T ++ [41], ?_, ?_, by simp only [List.length_append]; omega⟩
  · rw [enter7, hk', cF (p := (6 : Int) = 1) (by decide), cF (p := (6 : Int) = 2) (by decide), cF (p := (6 : Int) = 3) (by decide), cF (p := (6 : Int) = 4) (by decide), cF (p := (6 : Int) = 5) (by decide), cT (p := (6 : Int) = 6) rfl]
    have := rf (ar x).length 0 (by omega)
    exact this
  · rw [enter13, hk', r32, opt_s, List.getD_cons_zero, tI, cF (p := lv 6 < 1) (by decide), cF (p := (6 : Int) = 1) (by decide), cF (p := (6 : Int) = 2) (by decide), cF (p := (6 : Int) = 3) (by decide), cF (p := (6 : Int) = 4) (by decide), cF (p := (6 : Int) = 5) (by decide), cT (p := (6 : Int) = 6) rfl]
    show L13a (D.toStr (D.cell x 1)) (ar x) ((ar x).length : Int) ((0 : Nat) : Int) = _
    rw [round13a, dec_t (by omega), inb_nat (by omega), cond_true, cond_true, cT (p := ((0 : Nat) : Int) = 0) rfl, lim_c (by omega), Int.toNat_natCast, z2]
    simp only [opt_s, List.getD_cons_zero, tS]
    rw [lim_c (by simp only [List.length_append]; omega), nx 0 (by omega)]
    have := prog ((ar x).length - 1) 1 (by omega) (by omega) (D.toStr (D.cell x 1) ++ [40] ++ T.getD 0 []) (by simp only [List.length_append]; omega)
    rw [cfold, ← hT0] at this
    exact this
theorem prints {x : D} (h : Good x) : dmass x ≤ 1048576 → ∃ t, Pr x t := by
  induction h with
  | mk x hs ha ih =>
    intro hm
    have m4 := mass4 x
    have ih' : ∀ a ∈ ar x, ∃ t, Pr a t := fun a h => ih a h (by have := ar_mass h; omega)
    rcases hs with ⟨h, _, hc⟩ | ⟨h, _⟩ | ⟨h, _⟩ | ⟨h, l⟩ | ⟨h, l⟩ | ⟨h, l, l3⟩ | ⟨h, l⟩ | ⟨h, l⟩ | ⟨h, l⟩ | ⟨h, l⟩
    · exact p1 hm h hc
    · exact p2 hm h
    · exact p3 hm h
    · exact p4 hm h l ih'
    · exact p5 hm h l ih'
    · exact p6 hm h l l3 ih'
    · exact p7 hm h l ih'
    · exact p8 hm h l ih'
    · exact p9 hm h l ih'
    · exact p10 hm h l ih'
theorem law (x : D) (hm : dmass x ≤ 1048576) : RUN E 3 [x] = some [.bool true] := by
  obtain ⟨e, f1, f2, f3⟩ := faults (dmass x) x (Nat.le_refl _) hm
  rw [enter3, enter5, enter6, f1, f2]
  simp only [opt_s, List.getD_cons_zero, tI]
  by_cases he : e = 0
  · obtain ⟨d, d1, d2⟩ := depths (f3 he)
    rw [dec_t he, d1, d2]
    simp only [opt_s, List.getD_cons_zero, tI, cond_false]
    by_cases hd : 12 < d
    · rw [cT hd, cT hd]; rfl
    · obtain ⟨t, t1, t2, _⟩ := prints (f3 he) hm
      rw [cF hd, cF hd, t2]
      show opt (RUN E 7 [x]) _ = _
      rw [t1]
      show some [D.bool (bif decide (t = t) then true else false)] = _
      rw [dec_t (p := t = t) rfl]; rfl
  · rw [dec_f he]
    show cond (bif decide (e = 0) then false else true) (some [D.bool (bif true then decide (e = e) else false)]) _ = _
    rw [dec_f he, dec_t (p := e = e) rfl]; rfl

end wr
namespace wrx
theorem tab {W : World} (hs : W.ShapedOpen Tryz.prog) (hL : laidMetH Tryz.prog Rows.tmplWritesUptoRow.laid W) : Lib.TabIs Tryz.prog W "internal/strconv.uint64pow10" .u64 Lib.pow10Tab ∧ ∃ m, W.cell? ⟨1, 0, none⟩ = some (.int .i64 m) := by
  rw [MakeChecks.laidMetH_plain _ _ _ (by kernel_rfl)] at hL
  have h1 : laidMet Tryz.prog (("internal/strconv.uint64pow10", Lib.tabData .u64 Lib.pow10Tab) :: [("unicode/utf8.acceptRanges", Rows.laid_unicode_utf8_acceptRanges), ("unicode/utf8.first", Rows.laid_unicode_utf8_first)]) W := laidMet.tail (laidMet.tail hL)
  exact ⟨Lib.tabIs_of_head (g := 0) (t := 97) (e := 87) (n := 20) (by kernel_rfl) (by kernel_rfl) (by kernel_rfl) (by kernel_rfl) (by kernel_rfl) (by kernel_rfl) h1, Tryz.laysM146.s1_3 W hs⟩
theorem lawR {M : Mem} {v : Value} {t : TypeId} {x : D} (_ : Rep E.tt M (.agg t) v x) (hb : dmass.dmAll [x] ≤ 1048576) : RUN E 3 [x] = some [.bool true] :=
  wr.law x (by simp only [dmass.dmAll] at hb; omega)
end wrx
end Go.Proofs.YtcmeincdmphaoaaGreatDoor.ww
