/- The law. -/
import Derived.Test.YtlmfiknfkgdbpaaGreatDoorDxPrR
import Derived.MakeChecks
import Derived.Lib.LaidTab
set_option linter.unusedVariables false
set_option linter.unusedSimpArgs false
namespace Go.Proofs.YtlmfiknfkgdbpaaGreatDoor.pr
open Go.Proofs.YtlmfiknfkgdbpaaGreatDoor.DS
namespace prt
open check chk

theorem doc7 {ls : List (List UInt8)} (hu : (unl ls).length ≤ 1000000000) (hl : ls.length ≤ 8388608) : ∀ n i : Nat, i + n = ls.length → ∀ o : List UInt8, o.length ≤ 20000 →
    L7a o (ls.map .str) ((ls.map D.str).length : Int) i = if 20000 < (o ++ unl (ls.drop i)).length then some [.str [], .bool false] else some [.str (o ++ unl (ls.drop i)), .bool true] := by
  intro n
  induction n with
  | zero =>
    intro i hi o ho
    have : i = ls.length := by omega
    subst this
    rw [round7a, dec_f (by rw [List.length_map]; omega), List.drop_length, unl_nil, List.append_nil, if_neg (by omega)]; rfl
  | succ n ih =>
    intro i hi o ho
    have hil : i < ls.length := by omega
    have hx : ls[i].length + 1 ≤ (unl ls).length := mem_unl (List.getElem_mem hil)
    rw [round7a, dec_t (p := (i : Int) < ((ls.map D.str).length : Int)) (by rw [List.length_map]; omega), inb_nat (by rw [List.length_map]; exact hil), Int.toNat_natCast, getD_map_str hil, nxt (by omega), lim_t (n := ls[i].length) (m := ([10] : List UInt8).length) (by simp; omega), lim_t (n := o.length) (m := (ls[i] ++ ([10] : List UInt8)).length) (by simp; omega), List.drop_eq_getElem_cons hil, unl_cons]
    simp only [cond_true]
    have hsplit : o ++ (ls[i] ++ 10 :: unl (ls.drop (i + 1))) = (o ++ (ls[i] ++ [10])) ++ unl (ls.drop (i + 1)) := by simp
    by_cases hb : 20000 < (o ++ (ls[i] ++ [10])).length
    · rw [dec_t (p := (20000 : Int) < ((o ++ (ls[i] ++ ([10] : List UInt8))).length : Int)) (by omega), hsplit, if_pos (by rw [List.length_append]; omega)]
      rfl
    · rw [dec_f (p := (20000 : Int) < ((o ++ (ls[i] ++ ([10] : List UInt8))).length : Int)) (by omega), hsplit]
      simp only [cond_false]
      exact ih (i + 1) (by omega) _ (by omega)

theorem law {l : List D} (hN : AllN l) (hb : dmass.dmAll l ≤ 1048576) : RUN E 3 [.list l] = some [.bool true] := by
  obtain ⟨e, k1, k2, k3⟩ := check.check hN hb
  rw [enter3, enter4, k1, k2]
  simp only [opt_s, List.getD_cons_zero, List.getD_cons_succ, tI]
  by_cases he : e = 0
  · have hv := k3 he
    obtain ⟨b, m1, m2⟩ := blocks l hN hb 0 hv
    subst he
    rw [m1, enter6, k1]
    simp only [opt_s, List.getD_cons_zero, tI, decide_true, cond_true, cond_false, tB]
    rw [m2]
    cases b with
    | false => rfl
    | true =>
      have hd : RUN E 12 [.list l, .int 0, .int 0] = some [.bool false] := by
        obtain ⟨n, m, q1, _⟩ := nodes l hN hb
        obtain ⟨r, d1, d2⟩ := deep l hN hb 0 0
        have k1' := k1
        rw [enter5] at k1'
        first
          | rw [q1] at k1'
          | skip
        rw [d1] at k1' ⊢
        cases r with
        | false => rfl
        | true =>
          exfalso
          simp only [opt_s, List.getD_cons_zero, tI, tB, cond_true] at k1'
          revert k1'
          generalize decide ((4000 : Int) < _) = z
          intro k1'
          cases z <;> cases k1'
      obtain ⟨ls, h1, h2, h3, h4, h5⟩ := (all l hN hb 0 12 (by omega) hv m2 hd).1 (.inl rfl)
      have hbg := big (c := 12) (m := dmass.dmAll l) (by omega) hb
      have e7 : RUN E 7 [.list l] = if 20000 < (unl ls).length then some [.str [], .bool false] else some [.str (unl ls), .bool true] := by
        rw [enter7, h1]
        have := doc7 (ls := ls) (by omega) (by omega) ls.length 0 (by omega) [] (by simp)
        rw [List.drop_zero, List.nil_append] at this
        exact this
      rw [h2, e7]
      by_cases hbig : 20000 < (unl ls).length
      · rw [if_pos hbig]
        simp only [opt_s, List.getD_cons_zero, List.getD_cons_succ, tS, tB, cond_true, cond_false]
        rw [dec_t (p := (20000 : Int) < ((unl ls).length : Int)) (by omega)]
        rfl
      · rw [if_neg hbig]
        simp only [opt_s, List.getD_cons_zero, List.getD_cons_succ, tS, tB, cond_true, cond_false]
        rw [dec_f (p := (20000 : Int) < ((unl ls).length : Int)) (by omega)]
        simp [opt_s, tS, tI]
  · rw [dec_f he]
    simp [opt_s, tI, tS]
theorem lawR {M : Mem} {v : Value} {l : List D} (h : Rep E.tt M (.slice 37) v (.list l)) (hb : dmass.dmAll [.list l] ≤ 1048576) : RUN E 3 [.list l] = some [.bool true] := by
  simp only [mass_list, mass_nil] at hb
  exact law (l := l) ((nd_rep (show Rep tt M (.slice 37) v (.list l) from h)).2 rfl) (by omega)
theorem tab {W : World} (hL : laidMetH Tryz.prog Rows.markPrintsUptoRow.laid W) : Lib.TabIs Tryz.prog W "internal/strconv.uint64pow10" .u64 Lib.pow10Tab := by
  rw [MakeChecks.laidMetH_plain _ _ _ (by kernel_rfl)] at hL
  have h1 : laidMet Tryz.prog (("internal/strconv.uint64pow10", Lib.tabData .u64 Lib.pow10Tab) :: [("unicode/utf8.acceptRanges", Rows.laid_unicode_utf8_acceptRanges), ("unicode/utf8.first", Rows.laid_unicode_utf8_first)]) W := laidMet.tail (laidMet.tail hL)
  exact Lib.tabIs_of_head (g := 3) (t := 132) (e := 96) (n := 20) (by kernel_rfl) (by kernel_rfl) (by kernel_rfl) (by kernel_rfl) (by kernel_rfl) (by kernel_rfl) h1
end prt
end Go.Proofs.YtlmfiknfkgdbpaaGreatDoor.pr
