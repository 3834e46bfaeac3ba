/- Constants: texts and numbers; what both parsers give. -/
import Derived.Test.YtcmeincdmphaoaaGreatDoorDxExB
import Derived.Test.YtcmeincdmphaoaaGreatDoorF8
import Derived.Lib.Atoi
set_option linter.unusedVariables false
set_option linter.unusedSimpArgs false
namespace Go.Proofs.YtcmeincdmphaoaaGreatDoor.ex
open Go.Proofs.YtcmeincdmphaoaaGreatDoor.DS
namespace exx
abbrev B := List UInt8

/-! ### Loops -/
theorem any_loopS {L : Int → R} {s : List UInt8} {p : UInt8 → Bool} (hend : L (s.length : Nat) = some [.bool false]) (hL : ∀ i : Nat, i < s.length → L i = cond (p (s.getD i 0)) (some [.bool true]) (L ((i + 1 : Nat) : Int))) : L 0 = some [.bool (s.any p)] := by
  have key : ∀ n i : Nat, i + n = s.length → L i = some [.bool ((s.drop i).any p)] := by
    intro n
    induction n with
    | zero =>
      intro i hi
      have : i = s.length := by omega
      subst this
      rw [hend, List.drop_length]; rfl
    | succ n ih =>
      intro i hi
      have hil : i < s.length := by omega
      rw [hL i hil, ih (i + 1) (by omega), drop_cons 0 hil]
      simp only [List.any_cons]
      cases p (s.getD i 0) <;> rfl
  have := key s.length 0 (by omega)
  rwa [List.drop_zero] at this
theorem all_loopK {L : Int → R} {s : List UInt8} {p : UInt8 → Bool} {K : R} (hend : L (s.length : Nat) = K) (hL : ∀ i : Nat, i < s.length → L i = cond (p (s.getD i 0)) (L ((i + 1 : Nat) : Int)) (some [.bool false])) : L 0 = cond (s.all p) K (some [.bool false]) := by
  have key : ∀ n i : Nat, i + n = s.length → L i = cond ((s.drop i).all p) K (some [.bool false]) := by
    intro n
    induction n with
    | zero =>
      intro i hi
      have : i = s.length := by omega
      subst this
      rw [hend, List.drop_length]; rfl
    | succ n ih =>
      intro i hi
      have hil : i < s.length := by omega
      rw [hL i hil, ih (i + 1) (by omega), drop_cons 0 hil]
      simp only [List.all_cons]
      cases p (s.getD i 0) <;> rfl
  have := key s.length 0 (by omega)
  rwa [List.drop_zero] at this

/-! ### Cutting at a byte -/
theorem r63 (s : B) (c : UInt8) : RUN E 63 [.str s, .str [c]] = some [.int (Lib.indexByte s c)] := (RUN_eq _ _ _).trans (by kernel_rfl)
theorem r62 (s : B) (c : UInt8) : RUN E 62 [.str s, .str [c]] = some [.int (Lib.countByte s c : Int)] := (RUN_eq _ _ _).trans (by kernel_rfl)
theorem r73 (s : B) (h : s.length ≤ 1048576) (c : UInt8) : RUN E 73 [.str s, .str [c]] = some [.list ((splitC c s).map .str)] := by
  have hc : s.count c ≤ s.length := List.count_le_length
  have n1 : IntKind.wrap IntKind.i64 ((s.count c : Int) + 1) = ((s.count c + 1 : Nat) : Int) := nxt (by omega)
  have n2 : IntKind.wrap IntKind.i64 ((s.length : Int) + 1) = ((s.length + 1 : Nat) : Int) := nxt (by omega)
  have mm : mmInt false ((s.count c + 1 : Nat) : Int) ((s.length + 1 : Nat) : Int) = ((s.count c + 1 : Nat) : Int) := by
    unfold mmInt; rw [dec_f (p := ((s.length + 1 : Nat) : Int) < ((s.count c + 1 : Nat) : Int)) (by omega)]; rfl
  have n3 : IntKind.wrap IntKind.i64 (((s.count c + 1 : Nat) : Int) - 1) = ((0 + s.count c : Nat) : Int) := by rw [wrap_id (by omega) (by omega)]; omega
  have lp := split_loop (L := fun s n i a => L100b s [c] 0 n i a) (X := fun s => RUN E 63 [.str s, .str [c]]) (c := c) (fun s _ => r63 s c) (fun s n i a => round100b s [c] 0 n i a) s.length s (Nat.le_refl _) (by omega) 0 (List.replicate (s.count c + 1) (.str [])) (by omega) (by simp)
  have e50 : RUN E 100 [.str s, .str [c], .int 0, .int (-1)] = some [.list ((splitC c s).map .str)] := by
    rw [enter100, dec_f (by omega), dec_f (by simp), dec_t (by omega), r62]
    simp only [cond_true, cond_false, opt_s, List.getD_cons_zero, tI, Lib.countByte, n1]
    rw [round100a, n2, mm, n3, dec_t (by omega), dec_t (by omega), dec_t (by rw [lim_val]; omega), Int.toNat_natCast]
    simpa using lp
  rw [enter73, e50]; rfl

/-! ### Names -/
def sm (x : Int) : Bool := bif decide (97 ≤ x) then decide (x ≤ 122) else false
def wd (x : Int) : Bool := sm x || (bif decide (48 ≤ x) then decide (x ≤ 57) else false) || decide (x = 95)
theorem r87 (x : Int) : RUN E 87 [.int x] = some [.bool (sm x)] := enter87 x
theorem r88 (x : Int) : RUN E 88 [.int x] = some [.bool (wd x)] := by
  rw [enter88, r87]
  simp only [opt_s, List.getD_cons_zero, tB, enter110]
  unfold wd
  cases sm x <;> cases (bif decide (48 ≤ x) then decide (x ≤ 57) else false) <;> cases decide (x = 95) <;> rfl
theorem r72 (x : Int) : RUN E 72 [.int x] = some [.bool (wd x)] := by
  rw [enter72]
  simp only [enter99]
  unfold wd sm
  cases (bif decide (97 ≤ x) then decide (x ≤ 122) else false) <;> cases (bif decide (48 ≤ x) then decide (x ≤ 57) else false) <;> cases decide (x = 95) <;> rfl
def kw : List B := [[105, 102], [101, 97, 99, 104], [119, 105, 116, 104], [108, 101, 116], [99, 97, 108, 108], [101, 108, 115, 101], [101, 110, 100], [105, 110], [97, 110, 100], [111, 114], [110, 111, 116], [116, 114, 117, 101], [102, 97, 108, 115, 101], [110, 105, 108]]
def kwAll (s : B) : Bool := kw.all fun k => !decide (s = k)
def nm (s : B) : Bool := !(decide (s = []) || decide (20 < (s.length : Int)) || !sm ((s.getD 0 0).toNat : Int)) && s.all (fun c => wd (c.toNat : Int)) && kwAll s
theorem kw_split : splitC 32 ([105, 102, 32, 101, 97, 99, 104, 32, 119, 105, 116, 104, 32, 108, 101, 116, 32, 99, 97, 108, 108, 32, 101, 108, 115, 101, 32, 101, 110, 100, 32, 105, 110, 32, 97, 110, 100, 32, 111, 114, 32, 110, 111, 116, 32, 116, 114, 117, 101, 32, 102, 97, 108, 115, 101, 32, 110, 105, 108] : B) = kw := by decide +kernel
theorem hd0 (s : B) : (bif inb 0 s.length then true else bif bif bif decide (s = ([] : B)) then true else decide (20 < (↑s.length : Int)) then false else true then false else true) = true := by
  cases s with
  | nil => rfl
  | cons b r => rw [show inb 0 (b :: r).length = true from inb_nat (i := 0) (by simp)]; rfl
theorem r74 (s : B) (h : s.length ≤ 1048576) : RUN E 74 [.str s] = some [.bool (nm s)] := by
  have lp : L74a s 0 = cond (s.all fun c => wd (c.toNat : Int)) (some [.bool (kwAll s)]) (some [.bool false]) := by
    refine all_loopK (L := fun i => L74a s i) ?_ fun i hi => ?_
    · show L74a s _ = _
      rw [round74a, dec_f (by omega)]
      unfold kwAll kw
      by_cases h0 : s = ([105, 102] : B)
      · rw [show decide (s = ([105, 102] : B)) = true from dec_t h0]; simp [h0]
      rw [show decide (s = ([105, 102] : B)) = false from dec_f h0]
      by_cases h1 : s = ([101, 97, 99, 104] : B)
      · rw [show decide (s = ([101, 97, 99, 104] : B)) = true from dec_t h1]; simp [h1]
      rw [show decide (s = ([101, 97, 99, 104] : B)) = false from dec_f h1]
      by_cases h2 : s = ([119, 105, 116, 104] : B)
      · rw [show decide (s = ([119, 105, 116, 104] : B)) = true from dec_t h2]; simp [h2]
      rw [show decide (s = ([119, 105, 116, 104] : B)) = false from dec_f h2]
      by_cases h3 : s = ([108, 101, 116] : B)
      · rw [show decide (s = ([108, 101, 116] : B)) = true from dec_t h3]; simp [h3]
      rw [show decide (s = ([108, 101, 116] : B)) = false from dec_f h3]
      by_cases h4 : s = ([99, 97, 108, 108] : B)
      · rw [show decide (s = ([99, 97, 108, 108] : B)) = true from dec_t h4]; simp [h4]
      rw [show decide (s = ([99, 97, 108, 108] : B)) = false from dec_f h4]
      by_cases h5 : s = ([101, 108, 115, 101] : B)
      · rw [show decide (s = ([101, 108, 115, 101] : B)) = true from dec_t h5]; simp [h5]
      rw [show decide (s = ([101, 108, 115, 101] : B)) = false from dec_f h5]
      by_cases h6 : s = ([101, 110, 100] : B)
      · rw [show decide (s = ([101, 110, 100] : B)) = true from dec_t h6]; simp [h6]
      rw [show decide (s = ([101, 110, 100] : B)) = false from dec_f h6]
      by_cases h7 : s = ([105, 110] : B)
      · rw [show decide (s = ([105, 110] : B)) = true from dec_t h7]; simp [h7]
      rw [show decide (s = ([105, 110] : B)) = false from dec_f h7]
      by_cases h8 : s = ([97, 110, 100] : B)
      · rw [show decide (s = ([97, 110, 100] : B)) = true from dec_t h8]; simp [h8]
      rw [show decide (s = ([97, 110, 100] : B)) = false from dec_f h8]
      by_cases h9 : s = ([111, 114] : B)
      · rw [show decide (s = ([111, 114] : B)) = true from dec_t h9]; simp [h9]
      rw [show decide (s = ([111, 114] : B)) = false from dec_f h9]
      by_cases h10 : s = ([110, 111, 116] : B)
      · rw [show decide (s = ([110, 111, 116] : B)) = true from dec_t h10]; simp [h10]
      rw [show decide (s = ([110, 111, 116] : B)) = false from dec_f h10]
      by_cases h11 : s = ([116, 114, 117, 101] : B)
      · rw [show decide (s = ([116, 114, 117, 101] : B)) = true from dec_t h11]; simp [h11]
      rw [show decide (s = ([116, 114, 117, 101] : B)) = false from dec_f h11]
      by_cases h12 : s = ([102, 97, 108, 115, 101] : B)
      · rw [show decide (s = ([102, 97, 108, 115, 101] : B)) = true from dec_t h12]; simp [h12]
      rw [show decide (s = ([102, 97, 108, 115, 101] : B)) = false from dec_f h12]
      by_cases h13 : s = ([110, 105, 108] : B)
      · rw [show decide (s = ([110, 105, 108] : B)) = true from dec_t h13]; simp [h13]
      rw [show decide (s = ([110, 105, 108] : B)) = false from dec_f h13]
      simp [h0, h1, h2, h3, h4, h5, h6, h7, h8, h9, h10, h11, h12, h13]
    · show L74a s i = _
      rw [round74a, dec_t (by omega), inb_nat hi, Int.toNat_natCast, nxt (by omega), r88]
      simp only [cond_true, opt_s, List.getD_cons_zero, tB]
      cases wd ((s.getD i 0).toNat : Int) <;> rfl
  rw [enter74, hd0, lp, r87]
  unfold nm
  cases decide (s = ([] : B)) <;> cases decide (20 < (s.length : Int)) <;> cases sm ((s.getD 0 0).toNat : Int) <;> cases (s.all fun c => wd (c.toNat : Int)) <;> simp [opt, D.toBool]
theorem len0 (s : B) : decide ((s.length : Int) < 1) = decide (s = ([] : B)) := by
  cases s with
  | nil => rfl
  | cons b r => rw [dec_f (p := (((b :: r).length : Nat) : Int) < 1) (by simp; omega), dec_f (by simp)]
theorem r58 (s : B) (h : s.length ≤ 1048576) : RUN E 58 [.str s] = some [.bool (nm s)] := by
  have lk : L58b s (kw.map .str) ((kw.map D.str).length : Int) 0 = some [.bool (kwAll s)] := by
    have := all_loop (L := fun i => L58b s (kw.map .str) ((kw.map D.str).length : Int) i) (xs := kw.map .str) (p := fun d => !decide (s = D.toStr d)) (by show L58b s _ _ _ = _; rw [round58b, dec_f (by omega)]; rfl) fun i hi => by
      show L58b s _ _ i = _
      rw [round58b, dec_t (by omega), inb_nat hi, Int.toNat_natCast, nxt (by have : (kw.map D.str).length = 14 := rfl; omega)]
      cases decide (s = D.toStr ((kw.map D.str).getD i .no)) <;> rfl
    refine this.trans ?_
    unfold kwAll
    rw [List.all_map]; rfl
  have lp : L58a s 0 = cond (s.all fun c => wd (c.toNat : Int)) (some [.bool (kwAll s)]) (some [.bool false]) := by
    refine all_loopK (L := fun i => L58a s i) ?_ fun i hi => ?_
    · show L58a s _ = _
      rw [round58a, dec_f (by omega), r73 _ (by decide) 32, kw_split]
      exact lk
    · show L58a s i = _
      rw [round58a, dec_t (by omega), inb_nat hi, Int.toNat_natCast, nxt (by omega), r72]
      simp only [cond_true, opt_s, List.getD_cons_zero, tB]
      cases wd ((s.getD i 0).toNat : Int) <;> rfl
  have hsm : sm ((s.getD 0 0).toNat : Int) = !(bif decide (((s.getD 0 0).toNat : Int) < 97) then true else decide (122 < ((s.getD 0 0).toNat : Int))) := by
    unfold sm
    by_cases h1 : ((s.getD 0 0).toNat : Int) < 97
    · rw [dec_t h1, dec_f (p := (97 : Int) ≤ _) (by omega)]; rfl
    · rw [dec_f h1, dec_t (p := (97 : Int) ≤ _) (by omega)]
      by_cases h2 : (122 : Int) < ((s.getD 0 0).toNat : Int)
      · rw [dec_t h2, dec_f (by omega)]; rfl
      · rw [dec_f h2, dec_t (by omega)]; rfl
  rw [enter58, lp, len0]
  unfold nm
  rw [hsm]
  cases s with
  | nil => rfl
  | cons b r =>
    have hin : inb 0 (b :: r).length = true := inb_nat (i := 0) (by simp)
    rw [hin, dec_f (p := (b :: r) = []) (by simp)]
    generalize ((b :: r).all fun c => wd (c.toNat : Int)) = q1
    generalize decide ((((b :: r).getD 0 0).toNat : Int) < 97) = q2
    generalize decide ((122 : Int) < (((b :: r).getD 0 0).toNat : Int)) = q3
    generalize decide ((20 : Int) < ((b :: r).length : Int)) = q4
    generalize kwAll (b :: r) = q5
    cases q1 <;> cases q2 <;> cases q3 <;> cases q4 <;> cases q5 <;> rfl

/-! ### Bytes -/
def bad (c : UInt8) : Bool := decide ((c.toNat : Int) < 32) && !decide ((c.toNat : Int) = 9) && !decide ((c.toNat : Int) = 10)
theorem r22 (s : B) (h : s.length ≤ 1048576) : RUN E 22 [.str s] = some [.bool (s.any bad)] := by
  rw [enter22]
  refine any_loopS (L := fun i => L22a s i) (by show L22a s _ = _; rw [round22a, dec_f (by omega)]; rfl) fun i hi => ?_
  show L22a s i = _
  rw [round22a, dec_t (by omega), inb_nat hi, Int.toNat_natCast, nxt (by omega)]
  unfold bad
  cases decide (((s.getD i 0).toNat : Int) < 32) <;> cases decide (((s.getD i 0).toNat : Int) = 9) <;> cases decide (((s.getD i 0).toNat : Int) = 10) <;> rfl
theorem r26 (s : B) (h : s.length ≤ 1048576) : RUN E 26 [.str s] = some [.int (bif decide (20000 < (s.length : Int)) then 4 else bif s.any bad then 9 else 0)] := by
  have key : ∀ n i : Nat, i + n = s.length → L26a s (i : Int) = some [.int (bif (s.drop i).any bad then 9 else 0)] := by
    intro n
    induction n with
    | zero =>
      intro i hi
      rw [round26a, dec_f (by omega), List.drop_eq_nil_of_le (by omega)]; rfl
    | succ n ih =>
      intro i hi
      have hil : i < s.length := by omega
      rw [round26a, dec_t (by omega), inb_nat hil, Int.toNat_natCast, nxt (by omega), ih (i + 1) (by omega), drop_cons 0 hil, List.any_cons]
      unfold bad
      cases decide (((s.getD i 0).toNat : Int) < 32) <;> cases decide (((s.getD i 0).toNat : Int) = 9) <;> cases decide (((s.getD i 0).toNat : Int) = 10) <;> rfl
  rw [enter26]
  cases decide (20000 < (s.length : Int)) with
  | true => rfl
  | false => have := key s.length 0 (by omega); rw [List.drop_zero] at this; exact this
def T50 : List B := [[108, 101, 110, 49], [117, 112, 112, 101, 114, 49], [108, 111, 119, 101, 114, 49], [116, 114, 105, 109, 49], [115, 108, 117, 103, 49], [112, 108, 97, 105, 110, 49], [100, 101, 102, 97, 117, 108, 116, 50], [106, 111, 105, 110, 50], [115, 112, 108, 105, 116, 50], [114, 101, 112, 108, 97, 99, 101, 51], [102, 105, 114, 115, 116, 50], [108, 97, 115, 116, 50], [114, 101, 118, 101, 114, 115, 101, 49], [115, 111, 114, 116, 50], [119, 104, 101, 114, 101, 51], [104, 97, 115, 50], [107, 101, 121, 115, 49], [97, 100, 100, 50], [115, 117, 98, 50], [109, 117, 108, 50], [100, 105, 118, 50], [109, 111, 100, 50], [115, 116, 114, 105, 110, 103, 49], [121, 101, 97, 114, 49], [109, 111, 110, 116, 104, 49], [100, 97, 121, 49], [102, 97, 99, 116, 49], [108, 105, 115, 116, 50]]
theorem t50_split : splitC 32 ([108, 101, 110, 49, 32, 117, 112, 112, 101, 114, 49, 32, 108, 111, 119, 101, 114, 49, 32, 116, 114, 105, 109, 49, 32, 115, 108, 117, 103, 49, 32, 112, 108, 97, 105, 110, 49, 32, 100, 101, 102, 97, 117, 108, 116, 50, 32, 106, 111, 105, 110, 50, 32, 115, 112, 108, 105, 116, 50, 32, 114, 101, 112, 108, 97, 99, 101, 51, 32, 102, 105, 114, 115, 116, 50, 32, 108, 97, 115, 116, 50, 32, 114, 101, 118, 101, 114, 115, 101, 49, 32, 115, 111, 114, 116, 50, 32, 119, 104, 101, 114, 101, 51, 32, 104, 97, 115, 50, 32, 107, 101, 121, 115, 49, 32, 97, 100, 100, 50, 32, 115, 117, 98, 50, 32, 109, 117, 108, 50, 32, 100, 105, 118, 50, 32, 109, 111, 100, 50, 32, 115, 116, 114, 105, 110, 103, 49, 32, 121, 101, 97, 114, 49, 32, 109, 111, 110, 116, 104, 49, 32, 100, 97, 121, 49, 32, 102, 97, 99, 116, 49, 32, 108, 105, 115, 116, 50] : B) = T50 := by decide +kernel
def fnd (s : B) : List (B × Int) → Int
  | [] => 0
  | (k, n) :: r => if s = k then n else fnd s r
def K46 : List (B × Int) := T50.map fun t => (t.take (t.length - 1), ((t.getD (t.length - 1) 0).toNat : Int) - 48)
theorem r50 (s : B) : RUN E 50 [.str s] = some [.int (fnd s K46)] := by
  have key : ∀ n i : Nat, i + n = T50.length → L50a s (T50.map .str) (T50.length : Int) i = some [.int (fnd s (K46.drop i))] := by
    intro n
    induction n with
    | zero =>
      intro i hi
      have hk : K46.drop i = [] := List.drop_eq_nil_of_le (by have : K46.length = T50.length := List.length_map _; omega)
      rw [round50a, dec_f (by omega), hk]; rfl
    | succ n ih =>
      intro i hi
      have hil : i < T50.length := by omega
      have h28 : T50.length = 28 := rfl
      have hkl : i < K46.length := by have : K46.length = T50.length := List.length_map _; omega
      rw [round50a, dec_t (by omega), inb_nat (by rw [List.length_map]; omega), nxt (by omega), ih (i + 1) (by omega), List.drop_eq_getElem_cons hkl, Int.toNat_natCast]
      have hg : (T50.map D.str).getD i .no = .str T50[i] := by simp [List.getD_eq_getElem?_getD, hil]; rfl
      have hk : K46[i] = (T50[i].take (T50[i].length - 1), ((T50[i].getD (T50[i].length - 1) 0).toNat : Int) - 48) := by simp [K46]; exact ⟨rfl, rfl⟩
      have hlen : ∀ t ∈ T50, 1 ≤ t.length ∧ t.length ≤ 100 ∧ 48 ≤ (t.getD (t.length - 1) 0).toNat ∧ (t.getD (t.length - 1) 0).toNat ≤ 57 := by decide +kernel
      obtain ⟨l1, l2, l3, l4⟩ := hlen _ (List.getElem_mem hil)
      rw [hg, hk]
      generalize T50[i] = t at *
      have e1 : IntKind.wrap IntKind.i64 ((t.length : Int) - 1) = ((t.length - 1 : Nat) : Int) := by rw [wrap_id (by omega) (by omega)]; omega
      simp only [tS, e1, cond_true]
      rw [cutOk_hi (by omega), cut_hi, inb_nat (by omega), Int.toNat_natCast, wrap_u8 (by omega) (by omega), wrap_id (by omega) (by omega)]
      simp only [fnd]
      by_cases hs : t.take (t.length - 1) = s
      · rw [dec_t hs, if_pos hs.symm]; rfl
      · rw [dec_f hs, if_neg (fun e => hs e.symm)]; rfl
  rw [enter50]
  have e : RUN E 73 [.str ([108, 101, 110, 49, 32, 117, 112, 112, 101, 114, 49, 32, 108, 111, 119, 101, 114, 49, 32, 116, 114, 105, 109, 49, 32, 115, 108, 117, 103, 49, 32, 112, 108, 97, 105, 110, 49, 32, 100, 101, 102, 97, 117, 108, 116, 50, 32, 106, 111, 105, 110, 50, 32, 115, 112, 108, 105, 116, 50, 32, 114, 101, 112, 108, 97, 99, 101, 51, 32, 102, 105, 114, 115, 116, 50, 32, 108, 97, 115, 116, 50, 32, 114, 101, 118, 101, 114, 115, 101, 49, 32, 115, 111, 114, 116, 50, 32, 119, 104, 101, 114, 101, 51, 32, 104, 97, 115, 50, 32, 107, 101, 121, 115, 49, 32, 97, 100, 100, 50, 32, 115, 117, 98, 50, 32, 109, 117, 108, 50, 32, 100, 105, 118, 50, 32, 109, 111, 100, 50, 32, 115, 116, 114, 105, 110, 103, 49, 32, 121, 101, 97, 114, 49, 32, 109, 111, 110, 116, 104, 49, 32, 100, 97, 121, 49, 32, 102, 97, 99, 116, 49, 32, 108, 105, 115, 116, 50] : B), .str [32]] = some [.list (T50.map .str)] := by rw [r73 _ (by decide +kernel) 32, t50_split]
  refine (congrArg (fun x => opt x _) (show RUN E 73 [_, _] = _ from e)).trans ?_
  simp only [opt_s, List.getD_cons_zero, tL, List.length_map]
  exact key 28 0 rfl
def Kp : List (B × Int) := [([108, 101, 110], 1), ([117, 112, 112, 101, 114], 1), ([108, 111, 119, 101, 114], 1), ([116, 114, 105, 109], 1), ([115, 108, 117, 103], 1), ([112, 108, 97, 105, 110], 1), ([115, 112, 108, 105, 116], 2), ([114, 101, 112, 108, 97, 99, 101], 3), ([102, 105, 114, 115, 116], 2), ([108, 97, 115, 116], 2), ([114, 101, 118, 101, 114, 115, 101], 1), ([115, 111, 114, 116], 2), ([119, 104, 101, 114, 101], 3), ([104, 97, 115], 2), ([106, 111, 105, 110], 2), ([107, 101, 121, 115], 1), ([97, 100, 100], 2), ([115, 117, 98], 2), ([109, 117, 108], 2), ([100, 105, 118], 2), ([109, 111, 100], 2), ([121, 101, 97, 114], 1), ([109, 111, 110, 116, 104], 1), ([100, 97, 121], 1), ([115, 116, 114, 105, 110, 103], 1), ([100, 101, 102, 97, 117, 108, 116], 2), ([108, 105, 115, 116], 2), ([102, 97, 99, 116], 1)]
theorem e70 : ∃ kv : List (D × D), RUN E 70 [] = some [.list (kvD kv)] ∧ kv.map (fun p => (D.toStr p.1, D.toInt (D.cell p.2 0))) = Kp := ⟨_, enter70, by kernel_rfl⟩
theorem fnd_kv (s : B) (Z : D) (hZ : D.toInt (D.cell Z 0) = 0) : ∀ kv : List (D × D), D.toInt (D.cell (Option.getD (findKV .str (.str s) kv) Z) 0) = fnd s (kv.map fun p => (D.toStr p.1, D.toInt (D.cell p.2 0))) := by
  intro kv
  induction kv with
  | nil => exact hZ
  | cons p r ih =>
    obtain ⟨a, v⟩ := p
    have : findKV .str (.str s) ((a, v) :: r) = bif decide (s = D.toStr a) then some v else findKV .str (.str s) r := rfl
    rw [this, List.map_cons]
    simp only [fnd]
    by_cases h : s = D.toStr a
    · rw [show decide (s = D.toStr a) = true from dec_t h, if_pos h]; rfl
    · rw [show decide (s = D.toStr a) = false from dec_f h, if_neg h]; exact ih
theorem fnd_no {s : B} : ∀ {l : List (B × Int)}, (∀ p ∈ l, s ≠ p.1) → fnd s l = 0 := by
  intro l
  induction l with
  | nil => intro _; rfl
  | cons p r ih =>
    obtain ⟨k, n⟩ := p
    intro h
    simp only [fnd]
    rw [if_neg (h _ List.mem_cons_self)]
    exact ih fun q hq => h q (List.mem_cons_of_mem _ hq)
theorem fnd_eq (s : B) : fnd s Kp = fnd s K46 := by
  by_cases h : ∃ p ∈ Kp, s = p.1
  · obtain ⟨p, hp, rfl⟩ := h
    have : ∀ p ∈ Kp, fnd p.1 Kp = fnd p.1 K46 := by decide +kernel
    exact this p hp
  · have h1 : ∀ p ∈ Kp, s ≠ p.1 := fun p hp e => h ⟨p, hp, e⟩
    have h2 : ∀ q ∈ K46, ∃ p ∈ Kp, q.1 = p.1 := by decide +kernel
    rw [fnd_no h1, fnd_no fun q hq e => by
      obtain ⟨p, hp, he⟩ := h2 q hq
      exact h1 p hp (e.trans he)]
theorem r46 (s : B) : RUN E 46 [.str s] = some [.int (fnd s K46)] := by
  obtain ⟨kv, h1, h2⟩ := e70
  rw [enter46, h1]
  simp only [opt_s, List.getD_cons_zero, tL, unkv_kvD]
  rw [fnd_kv s _ rfl, h2, fnd_eq]
end exx
end Go.Proofs.YtcmeincdmphaoaaGreatDoor.ex

namespace Go.Proofs.YtcmeincdmphaoaaGreatDoor.ex
open Go.Proofs.YtcmeincdmphaoaaGreatDoor.DS
namespace exx

/-- The parser, or the scanner: its string, its place, whether it has failed. -/
abbrev PS (s : B) (i : Nat) (b : Bool) : D := .agg [.str s, .int (i : Int), .bool b]
theorem dF {i n : Nat} (h : n ≤ i) : decide ((i : Int) < (n : Int)) = false := dec_f (by omega)
theorem dT {i n : Nat} (h : i < n) : decide ((i : Int) < (n : Int)) = true := dec_t (by omega)
theorem inF {i n : Nat} (h : n ≤ i) : inb (i : Int) n = false := inb_f (.inr (by omega))

/-! ### A run of bytes -/
def runTo (p : UInt8 → Bool) (s : B) (i : Nat) : Nat := i + ((s.drop i).takeWhile p).length
theorem runTo_end (p : UInt8 → Bool) {s : B} {i : Nat} (h : s.length ≤ i) : runTo p s i = i := by unfold runTo; rw [List.drop_eq_nil_of_le h]; rfl
theorem runTo_yes {p : UInt8 → Bool} {s : B} {i : Nat} (h : i < s.length) (hp : p (s.getD i 0) = true) : runTo p s i = runTo p s (i + 1) := by
  unfold runTo; rw [drop_cons 0 h, List.takeWhile_cons, hp]; simp; omega
theorem runTo_no {p : UInt8 → Bool} {s : B} {i : Nat} (h : i < s.length) (hp : p (s.getD i 0) = false) : runTo p s i = i := by
  unfold runTo; rw [drop_cons 0 h, List.takeWhile_cons, hp]; rfl
theorem runTo_ge (p : UInt8 → Bool) (s : B) (i : Nat) : i ≤ runTo p s i := Nat.le_add_right _ _
theorem runTo_le (p : UInt8 → Bool) {s : B} {i : Nat} (h : i ≤ s.length) : runTo p s i ≤ s.length := by
  unfold runTo
  have h1 := (List.takeWhile_sublist p (l := s.drop i)).length_le
  rw [List.length_drop] at h1; omega
/-- Where it ends, there is no such byte. -/
theorem runTo_stop (p : UInt8 → Bool) {s : B} : ∀ n i : Nat, i + n = s.length → runTo p s i < s.length → p (s.getD (runTo p s i) 0) = false := by
  intro n
  induction n with
  | zero => intro i hi h; rw [runTo_end p (by omega)] at h; omega
  | succ n ih =>
    intro i hi h
    cases hp : p (s.getD i 0) with
    | true => rw [runTo_yes (by omega) hp] at h ⊢; exact ih (i + 1) (by omega) h
    | false => rw [runTo_no (by omega) hp]; exact hp
theorem runTo_idem (p : UInt8 → Bool) {s : B} {i : Nat} (h : i ≤ s.length) : runTo p s (runTo p s i) = runTo p s i := by
  rcases Nat.lt_or_ge (runTo p s i) s.length with h1 | h1
  · exact runTo_no h1 (runTo_stop p (s.length - i) i (by omega) h1)
  · exact runTo_end p h1
theorem take_run (p : UInt8 → Bool) (s : B) (i : Nat) : sub s i (runTo p s i) = (s.drop i).takeWhile p := by
  have key : ∀ l : B, l.take (l.takeWhile p).length = l.takeWhile p := by
    intro l
    induction l with
    | nil => rfl
    | cons a l ih =>
      rw [List.takeWhile_cons]
      cases p a with
      | true => simp [ih]
      | false => rfl
  show (s.take (runTo p s i)).drop i = _
  rw [List.drop_take]
  unfold runTo
  rw [show i + ((s.drop i).takeWhile p).length - i = ((s.drop i).takeWhile p).length by omega]
  exact key _

/-! ### Blanks -/
def gp (c : UInt8) : Bool := bif bif decide ((c.toNat : Int) = 32) then true else decide ((c.toNat : Int) = 9) then true else decide ((c.toNat : Int) = 10)
abbrev sk (s : B) (i : Nat) : Nat := runTo gp s i
theorem r45 (c : UInt8) : RUN E 45 [.int (c.toNat : Int)] = some [.bool (gp c)] := enter45 _
theorem r49 (c : UInt8) : RUN E 49 [.int (c.toNat : Int)] = some [.bool (gp c)] := enter49 _
theorem r24 (s : B) (hs : s.length ≤ 1048576) (b : Bool) : ∀ n i : Nat, i + n = s.length → RUN E 24 [PS s i b] = some [PS s (sk s i) b] := by
  have key : ∀ n i : Nat, i + n = s.length → L24a s (i : Int) b = some [PS s (sk s i) b] := by
    intro n
    induction n with
    | zero =>
      intro i hi
      rw [round24a, dF (by omega), inF (by omega), show sk s i = i from runTo_end gp (by omega)]; rfl
    | succ n ih =>
      intro i hi
      have hil : i < s.length := by omega
      rw [round24a, dT hil, inb_nat hil, Int.toNat_natCast, nxt (by omega), ih (i + 1) (by omega)]
      simp only [cond_true]
      rw [r45]
      simp only [opt_s, List.getD_cons_zero, tB]
      cases hp : gp (s.getD i 0) with
      | true => rw [show sk s i = sk s (i + 1) from runTo_yes hil hp]; rfl
      | false => rw [show sk s i = i from runTo_no hil hp]; rfl
  intro n i hi
  rw [enter24]; exact key n i hi
theorem r28 (s : B) (hs : s.length ≤ 1048576) (b : Bool) : ∀ n i : Nat, i + n = s.length → RUN E 28 [PS s i b] = some [PS s (sk s i) b] := by
  have key : ∀ n i : Nat, i + n = s.length → L28a s (i : Int) b = some [PS s (sk s i) b] := by
    intro n
    induction n with
    | zero =>
      intro i hi
      rw [round28a, dF (by omega), inF (by omega), show sk s i = i from runTo_end gp (by omega)]; rfl
    | succ n ih =>
      intro i hi
      have hil : i < s.length := by omega
      rw [round28a, dT hil, inb_nat hil, Int.toNat_natCast, nxt (by omega), ih (i + 1) (by omega)]
      simp only [cond_true]
      rw [r49]
      simp only [opt_s, List.getD_cons_zero, tB]
      cases hp : gp (s.getD i 0) with
      | true => rw [show sk s i = sk s (i + 1) from runTo_yes hil hp]; rfl
      | false => rw [show sk s i = i from runTo_no hil hp]; rfl
  intro n i hi
  rw [enter28]; exact key n i hi
theorem skip24 {s : B} (hs : s.length ≤ 1048576) {i : Nat} (hi : i ≤ s.length) (b : Bool) : RUN E 24 [PS s i b] = some [PS s (sk s i) b] := r24 s hs b (s.length - i) i (by omega)
theorem skip28 {s : B} (hs : s.length ≤ 1048576) {i : Nat} (hi : i ≤ s.length) (b : Bool) : RUN E 28 [PS s i b] = some [PS s (sk s i) b] := r28 s hs b (s.length - i) i (by omega)

/-! ### Words -/
def wc (c : UInt8) : Bool := wd (c.toNat : Int)
/-- The reference's word; the program's. -/
def rw0 (s : B) (i : Nat) : B := (s.drop i).takeWhile wc
def pw0 (s : B) (i : Nat) : B := bif sm ((s.getD i 0).toNat : Int) then rw0 s i else []
theorem r48 {s : B} (hs : s.length ≤ 1048576) {i : Nat} (hi : i ≤ s.length) (b : Bool) : RUN E 48 [PS s i b] = some [.str (rw0 s i), PS s i b] := by
  have key : ∀ n k : Nat, k + n = s.length → i ≤ k → L48a (k : Int) s (i : Int) b = some [.str (sub s i (runTo wc s k)), PS s i b] := by
    intro n
    induction n with
    | zero =>
      intro k hk hik
      rw [round48a, dF (by omega), inF (by omega), runTo_end wc (by omega), cutOk_both hik (by omega), cut_both]; rfl
    | succ n ih =>
      intro k hk hik
      have hil : k < s.length := by omega
      rw [round48a, dT hil, inb_nat hil, Int.toNat_natCast, nxt (by omega), ih (k + 1) (by omega) (by omega), r72]
      simp only [cond_true, opt_s, List.getD_cons_zero, tB]
      cases hp : wd ((s.getD k 0).toNat : Int) with
      | true => rw [runTo_yes (p := wc) hil hp]; rfl
      | false => rw [runTo_no (p := wc) hil hp, cutOk_both hik (by omega), cut_both]; rfl
  rw [enter48, key (s.length - i) i (by omega) (Nat.le_refl _), take_run]; rfl
theorem r69 {s : B} (hs : s.length ≤ 1048576) {i : Nat} (hi : i ≤ s.length) (b : Bool) : RUN E 69 [PS s i b] = some [.str (pw0 s i), PS s i b] := by
  have key : ∀ n k : Nat, k + n = s.length → i ≤ k → L69a (k : Int) s (i : Int) b = some [.str (sub s i (runTo wc s k)), PS s i b] := by
    intro n
    induction n with
    | zero =>
      intro k hk hik
      rw [round69a, dF (by omega), inF (by omega), runTo_end wc (by omega), cutOk_both hik (by omega), cut_both]; rfl
    | succ n ih =>
      intro k hk hik
      have hil : k < s.length := by omega
      rw [round69a, dT hil, inb_nat hil, Int.toNat_natCast, nxt (by omega), ih (k + 1) (by omega) (by omega), r88]
      simp only [cond_true, opt_s, List.getD_cons_zero, tB]
      cases hp : wd ((s.getD k 0).toNat : Int) with
      | true => rw [runTo_yes (p := wc) hil hp]; rfl
      | false => rw [runTo_no (p := wc) hil hp, cutOk_both hik (by omega), cut_both]; rfl
  have h0 : sub s i i = [] := sub_self _ _
  rw [enter69, key (s.length - i) i (by omega) (Nat.le_refl _), take_run, cutOk_both (Nat.le_refl i) hi, cut_both, h0]
  unfold pw0
  rcases Nat.lt_or_ge i s.length with h | h
  · rw [dT h, inb_nat h, Int.toNat_natCast, r87]
    simp only [cond_true, opt_s, List.getD_cons_zero, tB]
    cases sm ((s.getD i 0).toNat : Int) <;> rfl
  · rw [dF h, inF h]
    have : s.getD i 0 = 0 := by rw [List.getD_eq_getElem?_getD, List.getElem?_eq_none (by omega)]; rfl
    rw [this]; rfl
theorem rw0_len {s : B} {i : Nat} (hi : i ≤ s.length) : i + (rw0 s i).length ≤ s.length := runTo_le wc hi
theorem pw0_len {s : B} {i : Nat} (hi : i ≤ s.length) : i + (pw0 s i).length ≤ s.length := by
  unfold pw0
  cases sm ((s.getD i 0).toNat : Int) with
  | true => exact rw0_len hi
  | false => exact hi
theorem rw0_head {s : B} {i : Nat} (h : rw0 s i ≠ []) : (rw0 s i).getD 0 0 = s.getD i 0 ∧ i < s.length := by
  rcases Nat.lt_or_ge i s.length with hi | hi
  · refine ⟨?_, hi⟩
    unfold rw0 at h ⊢
    rw [drop_cons 0 hi, List.takeWhile_cons] at h ⊢
    cases hw : wc (s.getD i 0) with
    | true => rfl
    | false => rw [hw] at h; exact absurd rfl h
  · unfold rw0 at h
    rw [List.drop_eq_nil_of_le hi] at h; exact absurd rfl h
/-- A name is the same to both. -/
theorem nm_words (s : B) (i : Nat) : nm (pw0 s i) = nm (rw0 s i) := by
  unfold pw0
  cases hs : sm ((s.getD i 0).toNat : Int) with
  | true => rfl
  | false =>
    by_cases h : rw0 s i = []
    · rw [h]; rfl
    · have := (rw0_head h).1
      show nm [] = _
      have e : nm (rw0 s i) = false := by unfold nm; rw [this, hs]; simp
      rw [e]; rfl
/-- A word that begins with a small letter is the same to both. -/
theorem word_eq {s : B} {i : Nat} {w : B} (h : sm ((w.getD 0 0).toNat : Int) = true) : (pw0 s i = w) ↔ (rw0 s i = w) := by
  have hne : w ≠ [] := by rintro rfl; cases h
  unfold pw0
  cases hs : sm ((s.getD i 0).toNat : Int) with
  | true => exact Iff.rfl
  | false =>
    refine ⟨fun e => absurd e.symm hne, fun e => ?_⟩
    have := (rw0_head (s := s) (i := i) (by rw [e]; exact hne)).1
    rw [e] at this
    rw [this, hs] at h; cases h
theorem pw0_nm {s : B} {i : Nat} (h : nm (rw0 s i) = true) : pw0 s i = rw0 s i := by
  unfold pw0
  cases hs : sm ((s.getD i 0).toNat : Int) with
  | true => rfl
  | false => 
    have := nm_words s i
    unfold pw0 at this
    rw [hs] at this
    rw [h] at this; cases this

/-! ### Taking -/
theorem r44 {s : B} (hs : s.length ≤ 1048576) {i : Nat} (hi : i ≤ s.length) (b : Bool) (w : B) : RUN E 44 [PS s i b, .str w] = some (bif decide (pw0 s (sk s i) = w) then [.bool true, PS s (sk s i + w.length) b] else [.bool false, PS s (sk s i) b]) := by
  have hk : sk s i ≤ s.length := runTo_le gp hi
  rw [enter44, skip24 hs hi]
  simp only [opt_s, List.getD_cons_zero, D.cell, D.cells, List.getD_cons_succ, tS, tI, tB]
  rw [r69 hs hk]
  simp only [opt_s, List.getD_cons_zero, D.cell, D.cells, List.getD_cons_succ, tS, tI, tB]
  by_cases h : pw0 s (sk s i) = w
  · have hl := pw0_len hk
    rw [h] at hl
    rw [dec_t h, wrap_id (by omega) (by omega)]
    simp
  · rw [dec_f h]; rfl
theorem r155 (s t : B) : RUN E 155 [.str s, .str t] = some [.bool (decide (s.take t.length = t))] := by
  rw [enter155, cut_hi]
  by_cases h : t.length ≤ s.length
  · rw [dec_t (show (t.length : Int) ≤ (s.length : Int) by omega), cutOk_hi h]; rfl
  · have hne : ¬ s.take t.length = t := fun e => by
      have := congrArg List.length e
      rw [List.length_take] at this; omega
    rw [dec_f (show ¬ (t.length : Int) ≤ (s.length : Int) by omega), dec_f hne]
    cases cutOk s.length none (some (t.length : Int)) <;> rfl
def hasAt (s : B) (i : Nat) (t : B) : Bool := decide ((s.drop i).take t.length = t)
theorem r98 {s : B} (hs : s.length ≤ 1048576) {i : Nat} (hi : i ≤ s.length) (b : Bool) (t : B) : RUN E 98 [PS s i b, .str t] = some (bif hasAt s i t then [.bool true, PS s (i + t.length) b] else [.bool false, PS s i b]) := by
  rw [enter98, cutOk_lo hi, cut_lo, enter131, r155]
  simp only [cond_true, opt_s, List.getD_cons_zero, tB]
  show cond (hasAt s i t) _ _ = _
  cases h : hasAt s i t with
  | true =>
    have h2 : (s.drop i).take t.length = t := of_decide_eq_true h
    have := congrArg List.length h2
    rw [List.length_take, List.length_drop] at this
    rw [wrap_id (by omega) (by omega)]
    simp
  | false => rfl
theorem hasAt_one {s : B} {i : Nat} (h : i < s.length) (c : UInt8) : hasAt s i [c] = decide (s.getD i 0 = c) := by
  unfold hasAt
  rw [drop_cons 0 h]
  simp
theorem hasAt_end {s : B} {i : Nat} (h : s.length ≤ i) {t : B} (ht : t ≠ []) : hasAt s i t = false := by
  unfold hasAt
  rw [List.drop_eq_nil_of_le h]
  simpa using ht
theorem hasAt_len {s : B} {i : Nat} {t : B} (hi : i ≤ s.length) (h : hasAt s i t = true) : i + t.length ≤ s.length := by
  have h2 : (s.drop i).take t.length = t := of_decide_eq_true h
  have := congrArg List.length h2
  rw [List.length_take, List.length_drop] at this
  omega
/-- The byte at the place, or 0. -/
theorem r137 (s : B) (i : Nat) (b : Bool) : RUN E 137 [PS s i b] = some [.int ((s.getD i 0).toNat : Int), PS s i b] := by
  rw [enter137]
  rcases Nat.lt_or_ge i s.length with h | h
  · rw [dT h, inb_nat h, Int.toNat_natCast]; rfl
  · have : s.getD i 0 = 0 := by rw [List.getD_eq_getElem?_getD, List.getElem?_eq_none (by omega)]; rfl
    rw [dF h, this]; rfl
theorem r138 (s : B) (i : Nat) (b : Bool) : RUN E 138 [PS s i b] = some [exprZ, PS s i true] := enter138 _ _ _
theorem r130 (s : B) (i : Nat) (b : Bool) : RUN E 130 [PS s i b] = some [exprZ, PS s s.length true] := enter130 _ _ _
end exx
end Go.Proofs.YtcmeincdmphaoaaGreatDoor.ex

namespace Go.Proofs.YtcmeincdmphaoaaGreatDoor.ex
open Go.Proofs.YtcmeincdmphaoaaGreatDoor.DS
namespace exx

/-- An expression that a parser has made. -/
inductive Gd : D → Prop
  | mk (k : Int) (n : B) (v2 : Int) (v3 : Bool) (v4 : Int) (v5 : B) (xs : List D) (h : ∀ a ∈ xs, Gd a) (hl : xs.length ≤ 1048576) (hf : k = 6 → xs ≠ []) : Gd (.agg [.int k, .str n, .int v2, .bool v3, .int v4, .str v5, .list [], .list [], .list xs])
/-- The reference stands at a '.' that no name follows. -/
def stuck (s : B) (j : Nat) : Prop := j < s.length ∧ s.getD j 0 = 46 ∧ sm ((s.getD (j + 1) 0).toNat : Int) = false
/-- The reference has failed, or stands where nothing goes on. -/
def Dead (s : B) (j : Nat) (b : Bool) : Prop := (b = true ∧ j = s.length) ∨ (b = false ∧ stuck s j)
/-- Both succeed, with the same; or both fail, the reference maybe later. -/
def Out (s : B) (i : Nat) (p q : R) : Prop :=
  (∃ x i', p = some [x, PS s i' false] ∧ q = some [x, PS s i' false] ∧ i ≤ i' ∧ i' ≤ s.length ∧ Gd x) ∨
  (∃ x i' y j b, p = some [x, PS s i' true] ∧ i' ≤ s.length ∧ q = some [y, PS s j b] ∧ Dead s j b)
theorem Out.mono {s : B} {i j : Nat} {p q : R} (h : Out s j p q) (hij : i ≤ j) : Out s i p q := by
  rcases h with ⟨x, i', h1, h2, h3, h4, h5⟩ | h
  · exact .inl ⟨x, i', h1, h2, by omega, h4, h5⟩
  · exact .inr h
theorem Out.fail {s : B} {i i' : Nat} {p q : R} {x y : D} (hp : p = some [x, PS s i' true]) (hq : q = some [y, PS s s.length true]) (h : i' ≤ s.length) : Out s i p q := .inr ⟨x, i', y, s.length, true, hp, h, hq, .inl ⟨rfl, rfl⟩⟩
theorem gd_const (v2 : Int) (v3 : Bool) (v4 : Int) (v5 : B) : Gd (.agg [.int 1, .str [], .int v2, .bool v3, .int v4, .str v5, .list [], .list [], .list []]) := .mk 1 [] v2 v3 v4 v5 [] (fun a h => by cases h) (by decide) (fun h => by cases h)

theorem byte_int (c : UInt8) (n : Nat) (h : n < 256) : decide ((c.toNat : Int) = (n : Int)) = decide (c = n.toUInt8) := by
  have : ((c.toNat : Int) = (n : Int)) ↔ c = n.toUInt8 := by
    constructor
    · intro e
      have e2 : c.toNat = n := by omega
      rw [← e2]; simp
    · intro e
      subst e
      have : n.toUInt8.toNat = n := by simp; omega
      omega
  by_cases hc : c = n.toUInt8
  · rw [dec_t (this.2 hc), dec_t hc]
  · rw [dec_f (fun e => hc (this.1 e)), dec_f hc]

/-! ### Texts -/
theorem text_loop (s : B) (hs : s.length ≤ 1048576) : ∀ m k : Nat, s.length - k < m → k ≤ s.length → ∀ out : B, out.length ≤ k →
    Out s k (L156a (bytesD out) s (k : Int) false 0 [] 0 false 0 [] []) (L152a out s (k : Int) false 0 [] 0 false 0 [] []) := by
  intro m
  induction m with
  | zero => intro k h; omega
  | succ m ih =>
    intro k hm hk out ho
    rw [round156a, round152a]
    rcases Nat.lt_or_ge k s.length with hkl | hkl
    rotate_left
    · rw [dF hkl]
      simp only [cond_false]
      rw [r138, r130]
      exact .fail rfl rfl hk
    rw [dT hkl, inb_nat hkl, Int.toNat_natCast, nxt (by omega)]
    simp only [cond_true]
    cases h34 : decide (((s.getD k 0).toNat : Int) = 34) with
    | true =>
      simp only [cond_true]
      rw [enter165, enter163]
      refine .inl ⟨_, k + 1, rfl, ?_, by omega, by omega, gd_const _ _ _ _⟩
      rw [dBytes_bytesD]; rfl
    | false =>
    cases h10 : decide (((s.getD k 0).toNat : Int) = 10) with
    | true =>
      simp only [cond_true, cond_false]
      rw [r138, r130]
      exact .fail rfl rfl hk
    | false =>
    cases h92 : decide (((s.getD k 0).toNat : Int) = 92) with
    | false =>
      simp only [cond_false]
      rw [fit_t (by rw [bytesD_len]; simp only [List.length_singleton]; omega), cutOk_both (by omega) (by omega), cut_both, sub_one 0 hkl, lim_t (by simp only [List.length_singleton]; omega)]
      simp only [cond_true]
      have := ih (k + 1) (by omega) (by omega) (out ++ [s.getD k 0]) (by simp; omega)
      rw [bytesD_append] at this
      exact this.mono (by omega)
    | true =>
      simp only [cond_true, cond_false]
      rw [r137]
      simp only [opt_s, List.getD_cons_zero, List.getD_cons_succ, D.cell, D.cells, tS, tI, tB]
      rw [r137]
      simp only [opt_s, List.getD_cons_zero, List.getD_cons_succ, D.cell, D.cells, tS, tI, tB]
      rcases Nat.lt_or_ge (k + 1) s.length with hk1 | hk1
      rotate_left
      · have h0 : s.getD (k + 1) 0 = 0 := by rw [List.getD_eq_getElem?_getD, List.getElem?_eq_none (by omega)]; rfl
        rw [h0, dec_t (show (s.length : Int) ≤ ((k + 1 : Nat) : Int) by omega), r138, r130]
        exact .fail rfl rfl (show k + 1 ≤ s.length by omega)
      rw [dec_f (show ¬ (s.length : Int) ≤ ((k + 1 : Nat) : Int) by omega), inb_nat hk1, Int.toNat_natCast, nxt (by omega), fit_t (by rw [bytesD_len]; simp only [List.length_singleton]; omega), fit_t (by rw [bytesD_len]; simp only [List.length_singleton]; omega), cutOk_both (by omega) (by omega), cut_both, sub_one 0 hk1, lim_t (by simp only [List.length_singleton]; omega), lim_t (by simp only [List.length_singleton]; omega)]
      simp only [cond_true, cond_false]
      have i1 := ih (k + 1 + 1) (by omega) (by omega) (out ++ [s.getD (k + 1) 0]) (by simp; omega)
      have i2 := ih (k + 1 + 1) (by omega) (by omega) (out ++ [10]) (by simp; omega)
      rw [bytesD_append] at i1 i2
      cases decide (((s.getD (k + 1) 0).toNat : Int) = 34) with
      | true => exact i1.mono (by omega)
      | false =>
        cases decide (((s.getD (k + 1) 0).toNat : Int) = 92) with
        | true => exact i1.mono (by omega)
        | false =>
          cases decide (((s.getD (k + 1) 0).toNat : Int) = 110) with
          | true => exact i2.mono (by omega)
          | false =>
            simp only [cond_false]
            rw [r138, r130]
            exact .fail rfl rfl (show k + 1 ≤ s.length by omega)
theorem texts {s : B} (hs : s.length ≤ 1048576) {i : Nat} (hi : i < s.length) : Out s i (RUN E 156 [PS s i false]) (RUN E 152 [PS s i false]) := by
  rw [enter156, enter152, nxt (by omega)]
  exact (text_loop s hs (s.length + 1) (i + 1) (by omega) (by omega) [] (Nat.zero_le _)).mono (by omega)

/-! ### Numbers -/
theorem num_dec : ∀ (l : B), l.all isDig = true → ∀ acc : Nat, Lib.decFrom acc l = some ((l.foldl (fun n c => 10 * n + ((c.toNat : Int) - 48)) (acc : Int)).toNat) ∧ 0 ≤ l.foldl (fun n c => 10 * n + ((c.toNat : Int) - 48)) (acc : Int) := by
  intro l
  induction l with
  | nil => intro _ acc; exact ⟨by simp [Lib.decFrom], by simp⟩
  | cons c l ih =>
    intro h acc
    simp only [List.all_cons, Bool.and_eq_true] at h
    have hc := h.1
    unfold isDig at hc
    simp only [Bool.and_eq_true, decide_eq_true_eq] at hc
    have e : 10 * (acc : Int) + ((c.toNat : Int) - 48) = ((acc * 10 + (c.toNat - 48) : Nat) : Int) := by omega
    have hd : Lib.digitVal c = some (c.toNat - 48) := by
      unfold Lib.digitVal
      simp [hc.1, hc.2]
    have := ih h.2 (acc * 10 + (c.toNat - 48))
    simp only [List.foldl_cons, e]
    refine ⟨?_, this.2⟩
    rw [← this.1, Lib.decFrom, hd]
theorem isDig_int (c : UInt8) : (bif decide (48 ≤ (c.toNat : Int)) then decide ((c.toNat : Int) ≤ 57) else false) = isDig c := by
  unfold isDig
  by_cases h : 48 ≤ c.toNat
  · rw [dec_t h, dec_t (show 48 ≤ (c.toNat : Int) by omega)]
    by_cases h2 : c.toNat ≤ 57
    · rw [dec_t h2, dec_t (show (c.toNat : Int) ≤ 57 by omega)]; rfl
    · rw [dec_f h2, dec_f (show ¬ (c.toNat : Int) ≤ 57 by omega)]; rfl
  · rw [dec_f h, dec_f (show ¬ 48 ≤ (c.toNat : Int) by omega)]; rfl
theorem r99 (c : UInt8) : RUN E 99 [.int (c.toNat : Int)] = some [.bool (isDig c)] := by rw [enter99, isDig_int]
theorem r110 (c : UInt8) : RUN E 110 [.int (c.toNat : Int)] = some [.bool (isDig c)] := by rw [enter110, isDig_int]
theorem digs_all (l : B) : (digs l).all isDig = true := by
  unfold digs
  induction l with
  | nil => rfl
  | cons c l ih =>
    rw [List.takeWhile_cons]
    cases h : isDig c with
    | true => simp [h]
    | false => rfl
theorem numVal_dec {l : B} (h : l.all isDig = true) (hne : l ≠ []) : Lib.decNat l = some (numVal l).toNat ∧ 0 ≤ numVal l := by
  obtain ⟨h1, h2⟩ := num_dec l h 0
  refine ⟨?_, h2⟩
  unfold Lib.decNat
  have : l.isEmpty = false := by cases l with | nil => exact absurd rfl hne | cons _ _ => rfl
  rw [this]
  exact h1
theorem numVal_le : ∀ (l : B), l.all isDig = true → ∀ acc : Int, 0 ≤ acc → l.foldl (fun n c => 10 * n + ((c.toNat : Int) - 48)) acc < (acc + 1) * 10 ^ l.length := by
  intro l
  induction l with
  | nil => intro _ acc h; simp; omega
  | cons c l ih =>
    intro h acc ha
    simp only [List.all_cons, Bool.and_eq_true] at h
    have hc := h.1
    unfold isDig at hc
    simp only [Bool.and_eq_true, decide_eq_true_eq] at hc
    have := ih h.2 (10 * acc + ((c.toNat : Int) - 48)) (by omega)
    simp only [List.foldl_cons, List.length_cons]
    refine Int.lt_of_lt_of_le this ?_
    rw [Int.pow_succ, Int.mul_comm (10 ^ l.length) 10, ← Int.mul_assoc]
    exact Int.mul_le_mul_of_nonneg_right (by omega) (Int.le_of_lt (Int.pow_pos (by decide)))
theorem atoi_num {l : B} (h : l.all isDig = true) (hne : l ≠ []) (neg : Bool) : Lib.atoi ((bif neg then [45] else []) ++ l) = some (bif neg then - numVal l else numVal l) := by
  obtain ⟨h1, h2⟩ := numVal_dec h hne
  cases neg with
  | true =>
    have e : Lib.atoi (45 :: l) = (Lib.decNat l).map fun (m : Nat) => -(m : Int) := by simp [Lib.atoi]
    show Lib.atoi (45 :: l) = _
    rw [e, h1]
    simp only [Option.map_some, cond_true]
    rw [Int.toNat_of_nonneg h2]
  | false =>
    cases l with
    | nil => exact absurd rfl hne
    | cons c r =>
      simp only [List.all_cons, Bool.and_eq_true] at h
      have hc := h.1
      unfold isDig at hc
      simp only [Bool.and_eq_true, decide_eq_true_eq] at hc
      have n45 : (c == 45) = false := by
        cases hb : c == 45 with
        | false => rfl
        | true => have := eq_of_beq hb; subst this; revert hc; decide
      have n43 : (c == 43) = false := by
        cases hb : c == 43 with
        | false => rfl
        | true => have := eq_of_beq hb; subst this; revert hc; decide
      have e : Lib.atoi (c :: r) = (Lib.decNat (c :: r)).map fun (m : Nat) => (m : Int) := by simp [Lib.atoi, n45, n43]
      show Lib.atoi (c :: r) = _
      rw [e, h1]
      simp only [Option.map_some, cond_false]
      rw [Int.toNat_of_nonneg h2]
theorem r157 (s : B) (i : Int) (b : Bool) : RUN E 157 [.agg [.str s, .int i, .bool b]] = xNumber [.agg [.str s, .int i, .bool b]] := (RUN_eq _ _ _).trans (by kernel_rfl)
theorem r164 (s : B) : RUN E 164 [.str s] = xAtoi [.str s] := (RUN_eq _ _ _).trans (by kernel_rfl)
theorem num_loop {s : B} (hs : s.length ≤ 1048576) (i f : Nat) (hif : i ≤ f) : ∀ n k : Nat, k + n = s.length → f ≤ k →
    L153b (k : Int) (f : Int) s (i : Int) false 0 [] 0 false 0 [] [] = L153b ((runTo isDig s k : Nat) : Int) (f : Int) s (i : Int) false 0 [] 0 false 0 [] [] := by
  intro n
  induction n with
  | zero => intro k hk hf; rw [runTo_end isDig (by omega)]
  | succ n ih =>
    intro k hk hf
    have hil : k < s.length := by omega
    cases hp : isDig (s.getD k 0) with
    | true =>
      rw [runTo_yes hil hp, ← ih (k + 1) (by omega) (by omega), round153b, dT hil, inb_nat hil, Int.toNat_natCast, nxt (by omega), r99, hp]
      rfl
    | false => rw [runTo_no hil hp]
theorem nums {s : B} (hs : s.length ≤ 1048576) {i : Nat} (hi : i < s.length) : Out s i (RUN E 157 [PS s i false]) (RUN E 153 [PS s i false]) := by
  have hneg : decide (((s.getD i 0).toNat : Int) = 45) = negAt s i := by
    unfold negAt
    by_cases h : (s.getD i 0).toNat = 45
    · rw [dec_t h, dec_t (show ((s.getD i 0).toNat : Int) = 45 by omega)]
    · rw [dec_f h, dec_f (show ¬ ((s.getD i 0).toNat : Int) = 45 by omega)]
  have hfi : i ≤ firstAt s i ∧ firstAt s i ≤ s.length := by unfold firstAt; cases negAt s i <;> simp <;> omega
  have hkl := runTo_le isDig hfi.2
  have hkf := runTo_ge isDig s (firstAt s i)
  have hcut : sub s (firstAt s i) (runTo isDig s (firstAt s i)) = digs (s.drop (firstAt s i)) := take_run isDig s _
  have hsub : sub s i (runTo isDig s (firstAt s i)) = (bif negAt s i then [45] else []) ++ digs (s.drop (firstAt s i)) := by
    unfold firstAt at hcut hkf hkl ⊢
    cases hn : negAt s i with
    | false => rw [hn] at hcut; exact hcut
    | true =>
      rw [hn] at hcut hkf
      simp only [cond_true] at hcut hkf ⊢
      have h45 : s.getD i 0 = 45 := by
        unfold negAt at hn
        have := of_decide_eq_true hn
        exact UInt8.toNat_inj.1 this
      rw [← hcut]
      show (s.take _).drop i = [45] ++ (s.take _).drop (i + 1)
      have hlt : i < (s.take (runTo isDig s (i + 1))).length := by rw [List.length_take]; omega
      rw [drop_cons 0 hlt]
      have : (s.take (runTo isDig s (i + 1))).getD i 0 = 45 := by
        rw [← h45, List.getD_eq_getElem?_getD, List.getD_eq_getElem?_getD, List.getElem?_take_of_lt (by omega)]
      rw [this]; rfl
  have hall := digs_all (s.drop (firstAt s i))
  have e153 : RUN E 153 [PS s i false] = L153b ((runTo isDig s (firstAt s i) : Nat) : Int) ((firstAt s i : Nat) : Int) s (i : Int) false 0 [] 0 false 0 [] [] := by
    rw [enter153, inb_nat hi, Int.toNat_natCast, hneg, nxt (by omega), round153a, round153a]
    rw [← num_loop hs i (firstAt s i) hfi.1 (s.length - firstAt s i) (firstAt s i) (by omega) (Nat.le_refl _)]
    unfold firstAt
    cases negAt s i <;> rfl
  rw [e153, r157]
  have hend : (bif decide (((runTo isDig s (firstAt s i) : Nat) : Int) < (s.length : Int)) then isDig (s.getD (runTo isDig s (firstAt s i)) 0) else false) = false := by
    rcases Nat.lt_or_ge (runTo isDig s (firstAt s i)) s.length with h | h
    · rw [dT h, runTo_stop isDig (s.length - firstAt s i) (firstAt s i) (by omega) h]; rfl
    · rw [dF h]; rfl
  have hx : xNumber [.agg [.str s, .int (i : Int), .bool false]] = cond (badNum (negAt s i) (digs (s.drop (firstAt s i))))
      (some [exprZ, PS s (runTo isDig s (firstAt s i)) true])
      (some [exprN (bif negAt s i then - numVal (digs (s.drop (firstAt s i))) else numVal (digs (s.drop (firstAt s i)))), PS s (runTo isDig s (firstAt s i)) false]) := by
    show cond (decide (0 ≤ (i : Int)) && (decide ((i : Int) ≤ (s.length : Int)) && decide (s.length ≤ 1073741824))) _ none = _
    rw [dec_t (show 0 ≤ (i : Int) by omega), dec_t (show (i : Int) ≤ (s.length : Int) by omega), dec_t (show s.length ≤ 1073741824 by omega)]
    rfl
  rw [hx, round153b]
  generalize hk : runTo isDig s (firstAt s i) = k at *
  generalize hl : digs (s.drop (firstAt s i)) = l at *
  rw [cutOk_both hkf hkl, cutOk_both (show i ≤ k by omega) hkl, cut_both, cut_both, hcut, hsub, Int.toNat_natCast]
  have step : ∀ K : R, cond (bif inb (k : Int) s.length then true else bif bif decide ((k : Int) < (s.length : Int)) then true else false then false else true)
      (opt (cond (bif decide ((k : Int) < (s.length : Int)) then true else false) (RUN E 99 [.int ((s.getD k 0).toNat : Int)]) (some [])) fun ρ1 =>
        cond (bif decide ((k : Int) < (s.length : Int)) then D.toBool (List.getD ρ1 0 D.no) else false) (L153b (IntKind.wrap IntKind.i64 ((k : Int) + 1)) ((firstAt s i : Nat) : Int) s (i : Int) false 0 [] 0 false 0 [] []) K) none = K := by
    intro K
    rcases Nat.lt_or_ge k s.length with h | h
    · rw [dT h] at hend
      rw [dT h, inb_nat h, r99]
      simp only [cond_true, opt_s, List.getD_cons_zero, tB] at hend ⊢
      rw [hend]; rfl
    · rw [dF h, inF h]; rfl
  refine Eq.subst (motive := fun q => Out s i _ q) (step _).symm ?_
  have hfn : decide ((i : Int) < ((firstAt s i : Nat) : Int)) = negAt s i := by
    unfold firstAt
    cases negAt s i with
    | true => exact dec_t (by simp; omega)
    | false => exact dec_f (by simp)
  rw [hfn]
  simp only [cond_true]
  unfold badNum
  by_cases h0 : l = []
  · subst h0
    rw [r130]
    exact .fail rfl rfl hkl
  have hlen : 0 < l.length := List.length_pos_iff.2 h0
  rw [dec_f h0, show inb 0 l.length = true from inb_nat (i := 0) hlen, dec_f (show ¬ (l.length : Int) < 1 by omega)]
  by_cases h15 : 15 < l.length
  · rw [dec_t h15, dec_t (show 15 < (l.length : Int) by omega), r130]
    exact .fail rfl rfl hkl
  rw [dec_f h15, dec_f (show ¬ 15 < (l.length : Int) by omega)]
  have hcase : (bif (bif decide (((l.getD 0 0).toNat : Int) = 48) then decide (1 < (l.length : Int)) else false) then true else bif decide (l = [48]) then negAt s i else false) = (decide (l.headD 0 = 48) && (decide (1 < l.length) || negAt s i)) := by
    cases l with
    | nil => exact absurd rfl h0
    | cons c r =>
      by_cases hc : c = 48
      · subst hc
        cases r with
        | nil => cases negAt s i <;> rfl
        | cons d r =>
          rw [dec_t (show 1 < ((48 :: d :: r : B).length : Int) by simp only [List.length_cons]; omega), dec_t (show 1 < (48 :: d :: r : B).length by simp only [List.length_cons]; omega)]
          rfl
      · have e1 : ¬ (((c :: r : B).getD 0 0).toNat : Int) = 48 := fun e => hc (UInt8.toNat_inj.1 (by show c.toNat = 48; have e2 : (c.toNat : Int) = 48 := e; omega))
        have e2 : ¬ (c :: r : B) = [48] := fun e => hc (by injection e)
        have e3 : ¬ (c :: r : B).headD 0 = 48 := hc
        rw [dec_f e1, dec_f e2, dec_f e3]; rfl
  simp only [Bool.false_or, cond_false, cond_true]
  rw [hcase]
  cases hb : (decide (l.headD 0 = 48) && (decide (1 < l.length) || negAt s i)) with
  | true =>
    rw [r130]
    exact .fail rfl rfl hkl
  | false =>
    have hlt := numVal_le l hall 0 (Int.le_refl _)
    have hge := (numVal_dec hall h0).2
    have hp : ((0 : Int) + 1) * 10 ^ l.length ≤ 1000000000000000 := by
      rw [Int.zero_add, Int.one_mul]
      have : (10 : Int) ^ l.length ≤ 10 ^ 15 := by
        have : (10 : Nat) ^ l.length ≤ 10 ^ 15 := Nat.pow_le_pow_right (by decide) (by omega)
        exact_mod_cast this
      exact this
    have hn : numVal l < 1000000000000000 := Int.lt_of_lt_of_le hlt hp
    have hat := atoi_num hall h0 (negAt s i)
    have hpl : ((bif negAt s i then [45] else []) ++ l : B).length ≤ 18 := by
      rw [List.length_append]
      cases negAt s i <;> simp <;> omega
    have hx : xAtoi [.str ((bif negAt s i then [45] else []) ++ l)] = some [.int (bif negAt s i then - numVal l else numVal l), .no] := by
      show cond (decide _) (match Lib.atoi ((bif negAt s i then [45] else []) ++ l) with | some n => _ | none => none) none = _
      rw [dec_t hpl, hat]
      simp only [cond_true]
      have r1 : -9223372036854775808 ≤ (bif negAt s i then - numVal l else numVal l) := by cases negAt s i <;> simp <;> omega
      have r2 : (bif negAt s i then - numVal l else numVal l) ≤ 9223372036854775807 := by cases negAt s i <;> simp <;> omega
      rw [dec_t r1, dec_t r2]; rfl
    rw [r164, hx]
    simp only [cond_false, opt_s, List.getD_cons_zero, tI]
    rw [enter163]
    exact .inl ⟨_, k, rfl, rfl, by omega, hkl, gd_const _ _ _ _⟩
end exx
end Go.Proofs.YtcmeincdmphaoaaGreatDoor.ex
