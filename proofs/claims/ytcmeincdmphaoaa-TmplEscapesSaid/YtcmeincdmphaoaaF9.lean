/- The data-level semantics: plain data, an interpreter of the program over them, and its soundness; part 9. -/
import Derived.Shelf.Strings.IndexAnyAll
import Derived.Shelf.Small.Utf8
import Derived.Shelf.Strings.Cut
import Derived.Laws.Runes
import Derived.Test.YtcmeincdmphaoaaF8
import Derived.Lib.SlTrimSet
import Derived.Lib.Repeat
import Derived.Sort.OwnSorted
import Derived.Shelf.Sort.Plain
import Derived.Shelf.Slices.In.SortNone2
import Derived.Lib.Replace
import Derived.Lib.SplitLaws
import Derived.Lib.Fields
import Derived.Lib.Atoi
import Derived.Lib.AtoiErrMem
set_option linter.unusedVariables false
set_option linter.unusedSimpArgs false
namespace Go.Proofs
open Go.Shelf Go.RowKit Go.Lib
variable {P : Program} {ρ : Ren}

set_option maxHeartbeats 4000000 in
set_option maxRecDepth 1000000 in
/-- strings.IndexRune at a rune that is no ASCII one, in ASCII bytes: -1. -/
theorem Any.strings_IndexRune_wide (L : Lays.n152 P ρ) (s : ByteArray) (r : Int) (w : World) (h1 : 128 ≤ r) (hs : s.size < 4294967281) (hascii : ∀ (j : Nat) b, s.data.toList[j]? = some b → b.toNat < 128) :
    Calls P (ρ.f 152) #[.string s, .int .i32 r] w fun e w' => e = .returned (.int .i64 (-1)) ∧ Below w.heap.size w w' := by
  have HA : Aside (∀ (j : Nat) b, s.data.toList[j]? = some b → b.toNat < 128) := hascii
  clear hascii
  have hlt : ¬ r < 128 := by omega
  have h0 : (0 : Int) ≤ r := by omega
  have mixed := L.mixed
  have t3 := L.t3; have a3 := L.a3; have z3 := L.z3; have v3 := L.v3
  have t4 := L.t4; have a4 := L.a4; have z4 := L.z4; have v4 := L.v4
  have t5 := L.t5; have a5 := L.a5; have z5 := L.z5; have v5 := L.v5
  have t9 := L.t9; have a9 := L.a9; have z9 := L.z9; have v9 := L.v9
  have t21 := L.t21; have a21 := L.a21; have z21 := L.z21; have v21 := L.v21
  have e119 : ∀ args w, (callFunc (ρ.f 119) args).run P w = .ok (.enter (ρ.f 119) args) w := enters_of L.f119 (by kernel_rfl) rfl
  have e137 : ∀ args w, (callFunc (ρ.f 137) args).run P w = .ok (.enter (ρ.f 137) args) w := enters_of L.f137 (by kernel_rfl) rfl
  by_cases he : r = 65533
  · subst he
    go_enter L.f152, Body.n152_ntmps ρ
    go_wp2
    go_loopg [5, 6] s.size (fun g _ _ wx => ∃ i : Nat, i + g = s.size ∧ wx = w.iter s i)
    case atStart => exact ⟨0, by omega, rfl⟩
    case round =>
      obtain ⟨i, hig, rfl⟩ := hrel
      cases gk with
      | zero =>
        obtain rfl : i = s.size := by omega
        have hnx := run_next_end (P := P) w s s.size
        go_wp2
        go_ret
        exact ⟨rfl, (Below.refl _ _).alloc (Nat.le_refl _) _⟩
      | succ g =>
        have hi : i < s.size := by omega
        obtain ⟨x, hx⟩ : ∃ x : UInt8, s[i]'hi = x := ⟨_, rfl⟩
        have hxl : s.data.toList[i]? = some x := by rw [← hx]; exact Lib.data_getElem? s i hi
        have hx128 : x.toNat < 128 := HA.out i x hxl
        have hnx := fun ty => run_next_ascii (P := P) w s i ty hi (by rw [hx]; exact hx128)
        rw [hx] at hnx
        have hne : ¬ ((x.toNat : Int) = 65533) := by omega
        go_wp2
        go_roundg g
        case measure => omega
        case rel => exact ⟨i + 1, by omega, rfl⟩
  · cases hv : Lib.validRune r with
    | false =>
      go_enter L.f152, Body.n152_ntmps ρ
      go_wp2_with (go_at_fn (ρ.f 119); refine (Any.utf8_ValidRune { L with } _ _).mono ?_; rintro e w' ⟨rfl, hw⟩; rw [hw, hv])
      go_ret
      exact ⟨rfl, Below.refl _ _⟩
    | true =>
      have hval : Utf8.valid r = true := by rw [validRune_eq]; exact hv
      obtain ⟨f1, f2, f3⟩ := encode_facts r hval h1
      obtain ⟨rs, hrs⟩ : ∃ rs, Utf8.encode r = rs := ⟨_, rfl⟩
      rw [hrs] at f1 f2 f3
      obtain ⟨c, hc⟩ : ∃ c : UInt8, rs[rs.size - 1]'(by omega) = c := ⟨_, rfl⟩
      have hc128 : 128 ≤ c.toNat := by rw [← hc]; exact f3 _
      clear f3
      have hcv : ∀ w, (convert (ρ.t 21) (ρ.t 9) (.int .i32 r)).run P w = .ok (.string rs) w := fun w => by rw [run_convert_int_string w _ _ _ _ (by rw [t21]; rfl) t9, hrs]
      go_enter L.f152, Body.n152_ntmps ρ
      go_wp2_with (go_at_fn (ρ.f 119); refine (Any.utf8_ValidRune { L with } _ _).mono ?_; rintro e w' ⟨rfl, hw⟩; rw [hw, hv])
      subst hw
      obtain ⟨l, hl⟩ : ∃ l : Nat, rs.size = l + 1 := ⟨rs.size - 1, by omega⟩
      have hl' : (rs.size : Int) - 1 = (l : Int) := by omega
      have hc' : ∀ h : l < rs.size, rs[l]'h = c := fun h => by rw [← hc]; congr 1; omega
      clear hc
      go_step3
      go_wp2
      go_loopg [9] 1 (fun g vi wx => vi = .int .i64 (l : Int) ∧ wx = w')
      case atStart => exact ⟨rfl, rfl⟩
      case round =>
        obtain ⟨rfl, rfl⟩ := hrel
        try simp only [hl']
        by_cases hin : l < s.size
        · obtain ⟨x, hx⟩ : ∃ x : UInt8, s[l]'hin = x := ⟨_, rfl⟩
          have hx128 : x.toNat < 128 := HA.out l x (by rw [← hx]; exact Lib.data_getElem? s l hin)
          have hne : ¬ ((x.toNat : Int) = (c.toNat : Int)) := by omega
          have hcl := hc' (by omega)
          have hidx : Lib.indexByte (List.take (s.size - (l + 1)) (List.drop (l + 1) s.data.toList)) c = -1 := by
            have hno : ∀ L : List UInt8, (∀ b ∈ L, b.toNat < 128) → Lib.indexByte L c = -1 := by
              intro L
              induction L with
              | nil => intro _; rfl
              | cons b L ih =>
                intro hL
                have hb := hL b List.mem_cons_self
                have hne2 : (b == c) = false := by
                  cases hbc : b == c with
                  | false => rfl
                  | true => have := eq_of_beq hbc; subst this; omega
                rw [Lib.indexByte, ih fun x hx => hL x (List.mem_cons_of_mem _ hx), hne2]
                rfl
            refine hno _ fun b hb => ?_
            obtain ⟨j, hj⟩ := List.getElem?_of_mem (List.mem_of_mem_drop (List.mem_of_mem_take hb))
            exact HA.out j b hj
          have hw1 : IntKind.i64.wrap ((l : Int) + 1) = (l : Int) + 1 := wrap_small _ (by omega) (by omega)
          have b1 : (0 : Int) ≤ (l : Int) + 1 := by omega
          have b3 : ¬ ((l : Int) + 1 < 0) := by omega
          have b4 : ¬ ((s.size : Int) < (l : Int) + 1) := by omega
          have b2 : (l : Int) + 1 ≤ (s.size : Int) := by omega
          go_wp2
          go_step3
          go_wp2
          go_region_o
          go_wp2
          go_region_with_o (
            go_at_fn (ρ.f 137)
            refine (Any.strings_IndexByte { L with } _ _ _).mono ?_
            rintro e w2 ⟨rfl, rfl⟩)
          go_wp2
          rw [Exit.noGoto_ret]
          simp only [Exit.inBlock, Exit.then]
          rw [Exit.noGoto_ret]
          go_ret
          exact ⟨rfl, (Below.refl _ _).drew.drew⟩
        · go_wp2
          rw [Exit.noGoto_ret]
          go_ret
          exact ⟨rfl, Below.refl _ _⟩

theorem get_bang (s : ByteArray) {j : Nat} (h : j < s.size) : s.get! j = s[j]'h := by
  simp [ByteArray.get!, getElem!_pos, h]
  rfl
/-- What is read of a byte that begins no ASCII rune. -/
theorem decode_wide (s : ByteArray) (i : Nat) (hi : i < s.size) (ha : 128 ≤ (s[i]'hi).toNat) : ∃ r k : Nat, Utf8.decode s i = (r, k) ∧ 128 ≤ r ∧ 1 ≤ k ∧ i + k ≤ s.size ∧ ∀ j, j < k → ∀ h : i + j < s.size, 128 ≤ (s[i + j]'h).toNat := by
  have hone : ∀ j, j < 1 → ∀ h : i + j < s.size, 128 ≤ (s[i + j]'h).toNat := by
    intro j hj h
    obtain rfl : j = 0 := by omega
    exact ha
  have h0 : (s.get! (i + 0)).toNat = (s[i]'hi).toNat := by rw [Nat.add_zero, get_bang s hi]
  have hct : ∀ k, (decide (i + k < s.size) && (s.get! (i + k)).toNat / 64 == 2) = true → ∃ h : i + k < s.size, 128 ≤ (s[i + k]'h).toNat := by
    intro k hk
    simp only [Bool.and_eq_true, decide_eq_true_eq, beq_iff_eq] at hk
    obtain ⟨h1, h2⟩ := hk
    rw [get_bang s h1] at h2
    exact ⟨h1, by omega⟩
  have herr : ∃ r k : Nat, (Utf8.runeError, 1) = (r, k) ∧ 128 ≤ r ∧ 1 ≤ k ∧ i + k ≤ s.size ∧ ∀ j, j < k → ∀ h : i + j < s.size, 128 ≤ (s[i + j]'h).toNat := ⟨_, _, rfl, by decide, Nat.le_refl _, by omega, hone⟩
  unfold Utf8.decode
  simp only [h0]
  rw [if_neg (by omega)]
  split
  · rename_i hc
    obtain ⟨c1, d1⟩ := hct 1 (Bool.and_eq_true _ _ ▸ hc).2
    split
    · rename_i hv
      refine ⟨_, _, rfl, hv, by omega, by omega, fun j hj h => ?_⟩
      rcases (by omega : j = 0 ∨ j = 1) with rfl | rfl
      · exact ha
      · exact d1
    · exact herr
  · split
    · rename_i hc
      simp only [Bool.and_eq_true] at hc
      obtain ⟨c1, d1⟩ := hct 1 (by simp only [Bool.and_eq_true]; exact hc.1.2)
      obtain ⟨c2, d2⟩ := hct 2 (by simp only [Bool.and_eq_true]; exact hc.2)
      split
      · rename_i hv
        refine ⟨_, _, rfl, ?_, by omega, by omega, fun j hj h => ?_⟩
        · simp only [Bool.and_eq_true, decide_eq_true_eq, ge_iff_le] at hv
          omega
        · rcases (by omega : j = 0 ∨ j = 1 ∨ j = 2) with rfl | rfl | rfl
          · exact ha
          · exact d1
          · exact d2
      · exact herr
    · split
      · rename_i hc
        simp only [Bool.and_eq_true] at hc
        obtain ⟨c1, d1⟩ := hct 1 (by simp only [Bool.and_eq_true]; exact hc.1.1.2)
        obtain ⟨c2, d2⟩ := hct 2 (by simp only [Bool.and_eq_true]; exact hc.1.2)
        obtain ⟨c3, d3⟩ := hct 3 (by simp only [Bool.and_eq_true]; exact hc.2)
        split
        · rename_i hv
          refine ⟨_, _, rfl, ?_, by omega, by omega, fun j hj h => ?_⟩
          · simp only [Bool.and_eq_true, decide_eq_true_eq, ge_iff_le] at hv
            omega
          · rcases (by omega : j = 0 ∨ j = 1 ∨ j = 2 ∨ j = 3) with rfl | rfl | rfl | rfl
            · exact ha
            · exact d1
            · exact d2
            · exact d3
        · exact herr
      · exact herr

theorem run_next_at (w : World) (b : Nat) (s : ByteArray) (pos : Nat) (ty : TypeId) (hb : w.heap[b]? = some (.stringIter s pos)) (h : pos < s.size) :
    (Instr.next (.pointer (some ⟨b, 0, none⟩)) true ty).run P w = .ok (.tuple #[.bool true, .int .i64 pos, .int .i32 (Utf8.decode s pos).1]) { w with heap := w.heap.setIfInBounds b (.stringIter s (pos + (Utf8.decode s pos).2)) } := by
  simp only [Instr.next, getObj, setObj, Sem.run_bind, Sem.run, hb, Result.andThen, h, if_true]
  simp [goInt, Sem.run, hb]
theorem run_next_at_end (w : World) (b : Nat) (s : ByteArray) (pos : Nat) (ty : TypeId) (hb : w.heap[b]? = some (.stringIter s pos)) (h : ¬ pos < s.size) :
    (Instr.next (.pointer (some ⟨b, 0, none⟩)) true ty).run P w = .ok (.tuple #[.bool false]) w := by
  simp [Instr.next, getObj, Sem.run, hb, h]
theorem below_put {B b : Nat} {a w : World} (h : Below B a w) (hb : B ≤ b) (o : Obj) : Below B a { w with heap := w.heap.setIfInBounds b o } :=
  ⟨h.os, h.tape, h.output, by show _ ≤ (w.heap.setIfInBounds b o).size; rw [Array.size_setIfInBounds]; exact h.size, fun k hk => by
    show (w.heap.setIfInBounds b o)[k]? = _
    rw [Array.getElem?_setIfInBounds_ne (by omega)]; exact h.block k hk⟩

set_option maxHeartbeats 8000000 in
set_option maxRecDepth 1000000 in
/-- strings.IndexAny at short strings of whatever bytes; chars: two or more ASCII bytes. -/
theorem Any.strings_IndexAny_short_all (L : Lays.n153 P ρ) (s chars : ByteArray) (w : World) (h2 : 2 ≤ chars.size) (h8 : s.size ≤ 8) (hcs : chars.size < 4294967281) (hchars : ∀ (j : Nat) b, chars.data.toList[j]? = some b → b.toNat < 128) :
    Calls P (ρ.f 153) #[.string s, .string chars] w fun e w' => e = .returned (.int .i64 (Lib.indexAny s.data.toList chars.data.toList)) ∧ Below w.heap.size w w' := by
  have HA : Aside (∀ (j : Nat) b, chars.data.toList[j]? = some b → b.toNat < 128) := hchars
  clear hchars
  have hemp : chars.toList.isEmpty = false := by
    rw [Lib.toList_data]
    cases h : chars.data.toList with
    | nil => have := Lib.size_eq chars; rw [h, List.length_nil] at this; omega
    | cons _ _ => rfl
  have hn1 : ((chars.size : Int) == 1) = false := beq_eq_false_iff_ne.2 (by omega)
  have h8z : decide ((8 : Int) < (s.size : Int)) = false := decide_eq_false (by omega)
  have t3 := L.t3; have a3 := L.a3; have z3 := L.z3; have v3 := L.v3
  have t4 := L.t4; have a4 := L.a4; have z4 := L.z4; have v4 := L.v4
  have t5 := L.t5; have a5 := L.a5; have z5 := L.z5; have v5 := L.v5
  have t9 := L.t9; have a9 := L.a9; have z9 := L.z9; have v9 := L.v9
  have t21 := L.t21; have a21 := L.a21; have z21 := L.z21; have v21 := L.v21
  have e152 : ∀ args w, (callFunc (ρ.f 152) args).run P w = .ok (.enter (ρ.f 152) args) w := enters_of L.f152 (by kernel_rfl) rfl
  have e226 : ∀ args w, (callFunc (ρ.f 226) args).run P w = .ok (.enter (ρ.f 226) args) w := enters_of L.f226 (by kernel_rfl) rfl
  go_enter L.f153, Body.n153_ntmps ρ
  go_wp2_with (go_at_fn (ρ.f 226); refine (Any.strings_shouldUseASCIISet { L with } _ _).mono ?_; rintro e w' ⟨rfl, hw⟩; rw [hw, h8z])
  go_loopg [9, 10] s.size (fun g _ _ wx => ∃ i : Nat, i + g = s.size ∧ (Below w.heap.size w wx ∧ wx.heap[w.heap.size]? = some (.stringIter s i)) ∧ Lib.NoAny s.data.toList chars.data.toList i)
  case atStart => exact ⟨0, by omega, ⟨(Below.refl _ _).alloc (Nat.le_refl _) _, World.iter_heap w s 0⟩, Lib.NoAny.zero _ _⟩
  case round =>
    obtain ⟨i, hig, hW, hno⟩ := hrel
    have HW : Aside (Below w.heap.size w wr ∧ wr.heap[w.heap.size]? = some (.stringIter s i)) := hW
    clear hW
    have HN : Aside (Lib.NoAny s.data.toList chars.data.toList i) := hno
    clear hno
    cases gk with
    | zero =>
      obtain rfl : i = s.size := by omega
      have hnx := fun ty => run_next_at_end (P := P) wr w.heap.size s s.size ty HW.out.2 (Nat.lt_irrefl _)
      go_wp2
      go_ret
      exact ⟨by rw [Lib.indexAny_none (by rw [← Lib.size_eq]; exact HN.out)]; rfl, HW.out.1⟩
    | succ g =>
      have hi : i < s.size := by omega
      obtain ⟨x, hx⟩ : ∃ x : UInt8, s[i]'hi = x := ⟨_, rfl⟩
      have hxl : s.data.toList[i]? = some x := by rw [← hx]; exact Lib.data_getElem? s i hi
      have hput : ∀ k, Below w.heap.size w { wr with heap := wr.heap.setIfInBounds w.heap.size (.stringIter s k) } ∧ ({ wr with heap := wr.heap.setIfInBounds w.heap.size (.stringIter s k) } : World).heap[w.heap.size]? = some (.stringIter s k) := fun k => by
        refine ⟨below_put HW.out.1 (Nat.le_refl _) _, ?_⟩
        have hlt := (Array.getElem?_eq_some_iff.1 HW.out.2).1
        show (wr.heap.setIfInBounds w.heap.size (.stringIter s k))[w.heap.size]? = _
        rw [Array.getElem?_setIfInBounds_self, if_pos hlt]
      by_cases hx128 : x.toNat < 128
      · obtain ⟨w1, hnx, hW1⟩ : ∃ w1, (∀ ty, (Instr.next (.pointer (some ⟨w.heap.size, 0, none⟩)) true ty).run P wr = .ok (.tuple #[.bool true, .int .i64 i, .int .i32 x.toNat]) w1) ∧ Aside (Below w.heap.size w w1 ∧ w1.heap[w.heap.size]? = some (.stringIter s (i + 1))) := by
          refine ⟨_, fun ty => ?_, hput (i + 1)⟩
          rw [run_next_at wr w.heap.size s i ty HW.out.2 hi, decode_ascii s i hi (by rw [hx]; exact hx128), hx]
        have Hx : Aside (s.data.toList[i]? = some x) := hxl
        clear hxl hx hput HW
        have hcon := Lib.contains_iff_indexByte chars.data.toList x
        have hback : ((x.toNat : Int)).toNat.toUInt8 = x := by simp
        cases hin : chars.data.toList.contains x
        · rw [hin] at hcon
          have hlt : ¬ ((0 : Int) ≤ Lib.indexByte chars.data.toList x) := of_decide_eq_false hcon.symm
          clear hcon
          go_wp2_with (go_at_fn (ρ.f 152); refine (Any.strings_IndexRune_ascii { L with } _ _ _ (by omega) (by omega)).mono ?_; rintro e w' ⟨rfl, hw⟩; rw [hw, hback])
          go_roundg g
          case measure => omega
          case rel => exact ⟨i + 1, by omega, hW1, HN.out.succ Hx.out hin⟩
        · rw [hin] at hcon
          have hge : (0 : Int) ≤ Lib.indexByte chars.data.toList x := of_decide_eq_true hcon.symm
          clear hcon
          go_wp2_with (go_at_fn (ρ.f 152); refine (Any.strings_IndexRune_ascii { L with } _ _ _ (by omega) (by omega)).mono ?_; rintro e w' ⟨rfl, hw⟩; rw [hw, hback])
          go_ret
          exact ⟨by rw [Lib.indexAny_hit HN.out Hx.out hin]; rfl, hW1.out.1⟩
      · obtain ⟨r, k, hd, hr, hk1, hk2, hk3⟩ := decode_wide s i hi (by rw [hx]; omega)
        obtain ⟨w1, hnx, hW1⟩ : ∃ w1, (∀ ty, (Instr.next (.pointer (some ⟨w.heap.size, 0, none⟩)) true ty).run P wr = .ok (.tuple #[.bool true, .int .i64 i, .int .i32 r]) w1) ∧ Aside (Below w.heap.size w w1 ∧ w1.heap[w.heap.size]? = some (.stringIter s (i + k))) := by
          refine ⟨_, fun ty => ?_, hput (i + k)⟩
          rw [run_next_at wr w.heap.size s i ty HW.out.2 hi, hd]
        have HK : Aside (∀ j, j < k → ∀ h : i + j < s.size, 128 ≤ (s[i + j]'h).toNat) := hk3
        clear hxl hx hput HW hk3 hd
        go_wp2_with (go_at_fn (ρ.f 152); refine (Any.strings_IndexRune_wide { L with } _ _ _ (by omega) hcs HA.out).mono ?_; rintro e w' ⟨rfl, hw⟩)
        go_roundg (g + 1 - k)
        case measure => omega
        case rel =>
          have hlt := (Array.getElem?_eq_some_iff.1 hW1.out.2).1
          refine ⟨i + k, by omega, ⟨hW1.out.1.trans (hw.mono hW1.out.1.size), (hw.block _ hlt).trans hW1.out.2⟩, fun j b hj hb => ?_⟩
          by_cases hji : j < i
          · exact HN.out j b hji hb
          · have hjs : j < s.size := by omega
            have hbe : s[j]'hjs = b := Option.some.inj ((Lib.data_getElem? s j hjs).symm.trans hb)
            have h128 : 128 ≤ b.toNat := by
              have := HK.out (j - i) (by omega) (by omega)
              simp only [show i + (j - i) = j by omega] at this
              rw [← hbe]; exact this
            cases hcb : chars.data.toList.contains b with
            | false => rfl
            | true =>
              obtain ⟨q, hq⟩ := List.getElem?_of_mem (List.contains_iff_mem.1 hcb)
              have := HA.out q b hq
              omega

end Go.Proofs
namespace Go.Proofs.Ytcmeincdmphaoaa.DS
section
variable {P : Program} {E : Env}
end
end Go.Proofs.Ytcmeincdmphaoaa.DS

namespace Go.Proofs.Ytcmeincdmphaoaa.DS
section
variable {P : Program} {E : Env}
end
end Go.Proofs.Ytcmeincdmphaoaa.DS

namespace Go.Proofs.Ytcmeincdmphaoaa.DS
section
variable {P : Program} {E : Env}
end
end Go.Proofs.Ytcmeincdmphaoaa.DS

namespace Go.Proofs.Ytcmeincdmphaoaa.DS
open Go.Shelf Go.RowKit Go.Proofs Go.Sort

section
variable {P : Program} {E : Env}
end
end Go.Proofs.Ytcmeincdmphaoaa.DS

namespace Go.Proofs.Ytcmeincdmphaoaa.DS
section
variable {P : Program} {E : Env}
end
end Go.Proofs.Ytcmeincdmphaoaa.DS

namespace Go.Proofs.Ytcmeincdmphaoaa.DS
section
variable {P : Program} {E : Env}
end
end Go.Proofs.Ytcmeincdmphaoaa.DS

namespace Go.Proofs.Ytcmeincdmphaoaa.DS
section
variable {P : Program} {E : Env}
end
end Go.Proofs.Ytcmeincdmphaoaa.DS
