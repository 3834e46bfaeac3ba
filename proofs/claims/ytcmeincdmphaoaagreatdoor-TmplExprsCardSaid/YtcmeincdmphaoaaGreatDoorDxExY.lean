/- (*parser).number: what its walk shows, as the framework wants it. -/
import Derived.Test.YtcmeincdmphaoaaGreatDoorDxExX
import Derived.Test.YtcmeincdmphaoaaGreatDoorDxExL
set_option linter.unusedVariables false
set_option linter.unusedSimpArgs false
namespace Go.Proofs.YtcmeincdmphaoaaGreatDoor.ex
open Go.Proofs.YtcmeincdmphaoaaGreatDoor.DS Go.RowKit Go.Lib
set_option linter.unusedVariables false
theorem run_le {s : ByteArray} {F k : Nat} (hF : F ≤ s.size) (hk : k = rT.runTo isDig s.data.toList F) : k ≤ s.size := by
  rw [hk]; unfold rT.runTo
  have h1 : ((s.data.toList.drop F).takeWhile isDig).length ≤ (s.data.toList.drop F).length := (List.takeWhile_sublist _).length_le
  have h2 : s.data.toList.length = s.size := Array.length_toList
  rw [List.length_drop, h2] at h1
  exact Nat.le_trans (Nat.add_le_add_left h1 F) (by omega)
theorem digs_extract {s : ByteArray} {F k : Nat} (hF : F ≤ s.size) (hk : k = rT.runTo isDig s.data.toList F) : (s.extract F k).data.toList = digs (s.data.toList.drop F) := by
  have key : ∀ l : List UInt8, l.take (l.takeWhile isDig).length = l.takeWhile isDig := by
    intro l
    induction l with
    | nil => rfl
    | cons a l ih =>
      rw [List.takeWhile_cons]
      cases isDig a with
      | true => simp [ih]
      | false => rfl
  rw [ByteArray.data_extract, Array.toList_extract, List.extract_eq_take_drop, hk]
  unfold rT.runTo digs
  rw [show F + ((s.data.toList.drop F).takeWhile isDig).length - F = ((s.data.toList.drop F).takeWhile isDig).length by omega]
  exact key _
theorem digs_all {l : List UInt8} {j : Nat} {x : UInt8} (h : (digs l)[j]? = some x) : isDig x = true := by
  have hm := List.mem_of_getElem? h
  unfold digs at hm
  clear h
  induction l with
  | nil => cases hm
  | cons a l ih =>
    rw [List.takeWhile_cons] at hm
    cases ha : isDig a with
    | true =>
      rw [ha] at hm
      rcases List.mem_cons.1 hm with rfl | hm
      · exact ha
      · exact ih hm
    | false => rw [ha] at hm; cases hm
def tt28 : TI := ⟨.agg 28, [.int .i64, .str, .int .i64, .bool, .int .i64, .str, .slice 25, .slice 9, .slice 28], [(0, 3), (1, 9), (2, 25), (8, 26)], 136⟩
theorem lk28 : lk 28 E.tt = some tt28 := by kernel_rfl
theorem rep_expr {M : Mem} {k v2 v4 : Int} {v3 : Bool} (h1 : Lit.wf (.int .i64 k) = true) (h2 : Lit.wf (.int .i64 v2) = true) (h4 : Lit.wf (.int .i64 v4) = true) :
    Rep E.tt M (.agg 28) (.agg (exprA k v2 v3 v4 .empty)) (.agg [.int k, .str [], .int v2, .bool v3, .int v4, .str [], .list [], .list [], .list []]) := by
  have hs : Rep E.tt M .str (.string .empty) (.str []) := .str .empty (by decide)
  refine .agg 28 tt28 _ _ lk28 rfl rfl rfl ?_
  intro i hi h2' h3'
  match i, hi with
  | 0, _ => exact .int .i64 k h1
  | 1, _ => exact hs
  | 2, _ => exact .int .i64 v2 h2
  | 3, _ => exact .bool v3
  | 4, _ => exact .int .i64 v4 h4
  | 5, _ => exact hs
  | 6, _ => exact .nil _ none 0 (by decide)
  | 7, _ => exact .nil _ none 0 (by decide)
  | 8, _ => exact .nil _ none 0 (by decide)
theorem sig157_lk : lk 157 E.sigs = some ⟨[.box 48 ck3], [.val (.agg 28)], false⟩ := by kernel_rfl
theorem headZ (neg : Bool) {l : List UInt8} (h : badNum neg l = false) : l.length ≤ 15 := by
  unfold badNum at h
  simp only [Bool.or_eq_false_iff, decide_eq_false_iff_not] at h
  omega
theorem extNumber {W0 : World} : ExtOK Tryz.prog E W0 157 xNumber := by
  intro sg ds r hsg hr w M vs X hS hX ha
  rw [sig157_lk] at hsg; injection hsg with hsg; subst hsg
  unfold xNumber at hr
  split at hr
  · rename_i s i bd
    obtain ⟨hc, hr⟩ := cond_some.1 hr
    obtain ⟨ι, b, ti, cs, rfl, hι, ht, h3, hheap, hsz, q0, q1, q2, H⟩ := box3_args ha
    obtain ⟨c0, c1, c2, rfl⟩ : ∃ c0 c1 c2, cs = #[c0, c1, c2] := by
      match cs, hsz with
      | ⟨[c0, c1, c2]⟩, _ => exact ⟨c0, c1, c2, rfl⟩
    have r0 := q0 c0 rfl
    have r1 := q1 c1 rfl
    have r2 := q2 c2 rfl
    obtain ⟨s', rfl, e0, hs0⟩ := r0.inv_str
    obtain ⟨rfl, e1⟩ := r1.inv_int
    obtain ⟨rfl, e2⟩ := r2.inv_bool
    have hss : s'.data.toList = s := by
      have : D.str s = D.str s'.data.toList := e0
      injection this with this; exact this.symm
    simp only [Bool.and_eq_true, decide_eq_true_eq] at hc
    obtain ⟨hi0, hi1, hi2⟩ := hc
    have hlen : s'.size = s.length := by rw [← hss, Array.length_toList]; rfl
    obtain ⟨n, hn⟩ : ∃ n : Nat, i = (n : Int) := ⟨i.toNat, by omega⟩
    subst hn
    have hL : ∀ F, F ≤ s'.size → ∀ (k j : Nat) (x : UInt8), rT.runTo isDig s'.data.toList F = k → (s'.extract F k).data.toList[j]? = some x → isDig x = true := by
      intro F hF k j x hk hx
      rw [digs_extract hF hk.symm] at hx
      exact digs_all hx
    have hval : ∀ (l : List UInt8), (∀ (j : Nat) (x : UInt8), l[j]? = some x → isDig x = true) → l.length ≤ 15 → 0 ≤ numVal l ∧ numVal l < 1000000000000000 := by
      intro l hl h15
      have := numVal_15 hl h15 l.length (Nat.le_refl _)
      rwa [List.take_length] at this
    have hwf : ∀ m : Int, -1000000000000000 < m → m < 1000000000000000 → Lit.wf (.int .i64 m) = true := by
      intro m h1 h2
      simp only [Lit.wf, IntKind.min, IntKind.max, IntKind.signed, IntKind.bits, Bool.and_eq_true, decide_eq_true_eq, if_true]
      omega
    have hn : ((n : Int)).toNat = n := Int.toNat_natCast n
    rw [hn] at hr
    have hstr : Rep E.tt M .str (.string s') (.str s) := by rw [← hss]; exact .str s' hs0
    cases hng : negAt s n with
    | true =>
      have hneg : (s'.data.toList.getD n 0).toNat = 45 := by rw [hss]; unfold negAt at hng; exact of_decide_eq_true hng
      have hF : firstAt s n = n + 1 := by unfold firstAt; rw [hng]; rfl
      have hn1 : n + 1 ≤ s'.size := by
        rcases Nat.lt_or_ge n s'.size with h | h
        · exact h
        · rw [List.getD_eq_getElem?_getD, List.getElem?_eq_none (by rw [Array.length_toList]; exact h)] at hneg
          cases hneg
      rw [hng, hF] at hr
      refine calls_enter (c := (Tryz.f157.body).getD .skip) Tryz.func157 (by kernel_rfl) (by kernel_rfl) ((w157n hheap (by omega) (by omega) hneg (hL _ hn1)).mono fun e w' he => ?_)
      obtain ⟨k, _, _, hk, hg, hE⟩ := he
      have hkl := run_le hn1 hk
      rw [digs_extract hn1 hk, hss] at hE
      have hkk : k = n + 1 + (digs (s.drop (n + 1))).length := by rw [hk, hss]; rfl
      rcases hE with ⟨hbad, rfl, hb⟩ | ⟨hbad, rfl, hb⟩
      · rw [hbad] at hr
        replace hr : some [exprZ, .agg [.str s, .int ((n + 1 + (digs (s.drop (n + 1))).length : Nat) : Int), .bool true]] = some r := hr
        injection hr with hr; subst hr
        rw [← hkk]
        exact ⟨_, rfl, box3_ret hι ht h3 H hg hb hstr (.int .i64 _ (hwf _ (by omega) (by omega))) (.bool true) (rep_expr (by decide) (by decide) (by decide)) rfl⟩
      · rw [hbad] at hr
        obtain ⟨m0, m1⟩ := hval _ (fun j x hx => digs_all hx) (headZ _ hbad)
        replace hr : some [exprN (- numVal (digs (s.drop (n + 1)))), .agg [.str s, .int ((n + 1 + (digs (s.drop (n + 1))).length : Nat) : Int), .bool _]] = some r := hr
        injection hr with hr; subst hr
        rw [← hkk]
        exact ⟨_, rfl, box3_ret hι ht h3 H hg hb hstr (.int .i64 _ (hwf _ (by omega) (by omega))) (.bool _) (rep_expr (by decide) (by decide) (hwf _ (by omega) (by omega))) rfl⟩
    | false =>
      have hneg : ¬ (s'.data.toList.getD n 0).toNat = 45 := by rw [hss]; unfold negAt at hng; exact of_decide_eq_false hng
      have hF : firstAt s n = n := by unfold firstAt; rw [hng]; rfl
      have hn1 : n ≤ s'.size := by omega
      rw [hng, hF] at hr
      refine calls_enter (c := (Tryz.f157.body).getD .skip) Tryz.func157 (by kernel_rfl) (by kernel_rfl) ((w157p hheap (by omega) (by omega) hneg (hL _ hn1)).mono fun e w' he => ?_)
      obtain ⟨k, _, _, hk, hg, hE⟩ := he
      have hkl := run_le hn1 hk
      rw [digs_extract hn1 hk, hss] at hE
      have hkk : k = n + (digs (s.drop n)).length := by rw [hk, hss]; rfl
      rcases hE with ⟨hbad, rfl, hb⟩ | ⟨hbad, rfl, hb⟩
      · rw [hbad] at hr
        replace hr : some [exprZ, .agg [.str s, .int ((n + (digs (s.drop (n))).length : Nat) : Int), .bool true]] = some r := hr
        injection hr with hr; subst hr
        rw [← hkk]
        exact ⟨_, rfl, box3_ret hι ht h3 H hg hb hstr (.int .i64 _ (hwf _ (by omega) (by omega))) (.bool true) (rep_expr (by decide) (by decide) (by decide)) rfl⟩
      · rw [hbad] at hr
        obtain ⟨m0, m1⟩ := hval _ (fun j x hx => digs_all hx) (headZ _ hbad)
        replace hr : some [exprN ( numVal (digs (s.drop (n)))), .agg [.str s, .int ((n + (digs (s.drop (n))).length : Nat) : Int), .bool _]] = some r := hr
        injection hr with hr; subst hr
        rw [← hkk]
        exact ⟨_, rfl, box3_ret hι ht h3 H hg hb hstr (.int .i64 _ (hwf _ (by omega) (by omega))) (.bool _) (rep_expr (by decide) (by decide) (hwf _ (by omega) (by omega))) rfl⟩
  · cases hr
end Go.Proofs.YtcmeincdmphaoaaGreatDoor.ex
