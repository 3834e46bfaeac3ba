/- Reading an index: the law. -/
import Derived.Test.YtefclcihphpejaaDoorDxRdH
import Derived.Lib.LaidTab
import Derived.MakeChecks
set_option linter.unusedVariables false
set_option linter.unusedSimpArgs false
namespace Go.Proofs.YtefclcihphpejaaDoor.rd
open Go.Proofs.YtefclcihphpejaaDoor.DS
namespace rdx
open paths (r19 r28 r30 r39)

/-! ### Lines -/
def unl (ls : List (List UInt8)) : List UInt8 := ls.flatMap (· ++ [10])
theorem unl_nil : unl [] = [] := rfl
theorem unl_cons (x : List UInt8) (r : List (List UInt8)) : unl (x :: r) = x ++ 10 :: unl r := by simp [unl]
theorem unl_len (x : List UInt8) (r : List (List UInt8)) : (unl (x :: r)).length = x.length + 1 + (unl r).length := by rw [unl_cons]; simp; omega
theorem len_unl (ls : List (List UInt8)) : ls.length ≤ (unl ls).length := by
  induction ls with
  | nil => simp
  | cons x r ih => rw [unl_len]; simp; omega
theorem unl_split (u : List UInt8) : unl (splitC 10 u) = u ++ [10] := by
  have key : ∀ n (u : List UInt8), u.length ≤ n → unl (splitC 10 u) = u ++ [10] := by
    intro n
    induction n with
    | zero =>
      intro u hu
      have : u = [] := List.length_eq_zero_iff.1 (by omega)
      subst this; rfl
    | succ n ih =>
      intro u hu
      rcases idx_cases 10 u with ⟨_, h⟩ | ⟨pre, post, rfl, h, _⟩
      · rw [splitC_none h, unl_cons, unl_nil]
      · rw [splitC_one _ h, unl_cons, ih post (by simp at hu; omega)]; simp
  exact key u.length u (Nat.le_refl _)
theorem split_no (u : List UInt8) : ∀ x ∈ splitC 10 u, (10 : UInt8) ∉ x := by
  have key : ∀ n (u : List UInt8), u.length ≤ n → ∀ x ∈ splitC 10 u, (10 : UInt8) ∉ x := by
    intro n
    induction n with
    | zero =>
      intro u hu x hx
      have : u = [] := List.length_eq_zero_iff.1 (by omega)
      subst this
      rw [splitC_none (by simp)] at hx
      rw [List.mem_singleton.1 hx]; simp
    | succ n ih =>
      intro u hu x hx
      rcases idx_cases 10 u with ⟨_, h⟩ | ⟨pre, post, rfl, h, _⟩
      · rw [splitC_none h] at hx
        rw [List.mem_singleton.1 hx]; exact h
      · rw [splitC_one _ h] at hx
        rcases List.mem_cons.1 hx with rfl | hx
        · exact h
        · exact ih post (by simp at hu; omega) x hx
  exact key u.length u (Nat.le_refl _)
theorem suf_form {s : List UInt8} (h : hasSuf s [10] = true) : ∃ u, s = u ++ [10] := by
  unfold hasSuf at h
  obtain ⟨h1, h⟩ := Bool.and_eq_true_iff.1 h
  refine ⟨s.take (s.length - 1), ?_⟩
  have h := of_decide_eq_true h
  calc s = s.take (s.length - 1) ++ s.drop (s.length - 1) := (List.take_append_drop _ _).symm
    _ = _ := by rw [show s.drop (s.length - 1) = [10] from h]

/-! ### What is the same as itself -/
theorem same38 (l : List D) (h : l.length ≤ 1048576) : RUN E 38 [.list l, .list l] = some [.bool true] := by
  have lp : ∀ k i : Nat, i + k = l.length → L38a l l (l.length : Int) i = some [.bool true] := by
    intro k
    induction k with
    | zero => intro i hi; rw [round38a, dec_f (by omega)]; rfl
    | succ k ih =>
      intro i hi
      rw [round38a, dec_t (by omega), inb_nat (by omega), dec_t rfl, nxt (by omega)]
      exact ih (i + 1) (by omega)
  rw [enter38, dec_t rfl]
  exact lp _ 0 (Nat.zero_add _)
theorem same37 (l : List D) (h : l.length ≤ 1048576) : RUN E 37 [.list l, .list l] = some [.bool true] := by
  have q : ∀ d : D, eqD .str d d = true := fun d => by simp [eqD]
  have lp : ∀ k i : Nat, i + k = l.length → L37a l l (l.length : Int) i = some [.bool true] := by
    intro k
    induction k with
    | zero => intro i hi; rw [round37a, dec_f (by omega)]; rfl
    | succ k ih =>
      intro i hi
      rw [round37a, dec_t (by omega), inb_nat (by omega), q, q, q, nxt (by omega)]
      exact ih (i + 1) (by omega)
  rw [enter37, dec_t rfl]
  exact lp _ 0 (Nat.zero_add _)
theorem same12 (A S T : List D) (hA : A.length ≤ 1048576) (hS : S.length ≤ 1048576) (hT : T.length ≤ 1048576) (hf : ∀ t ∈ T, (D.toList (D.cell t 1)).length ≤ 1048576 ∧ (D.toList (D.cell t 2)).length ≤ 1048576) :
    RUN E 12 [X3 A S T, X3 A S T] = some [.bool true] := by
  have lp : ∀ k i : Nat, i + k = T.length → L12a T (T.length : Int) i (X3 A S T) = some [.bool true] := by
    intro k
    induction k with
    | zero => intro i hi; rw [round12a, dec_f (by omega)]; rfl
    | succ k ih =>
      intro i hi
      have e : T.getD i .no = T[i] := by simp [List.getD_eq_getElem?_getD, show i < T.length by omega]
      obtain ⟨f1, f2⟩ := hf T[i] (List.getElem_mem _)
      rw [round12a, dec_t (by omega), inb_nat (by omega), show D.toList (D.cell (X3 A S T) 2) = T from rfl, inb_nat (by omega), Int.toNat_natCast, e, dec_t rfl]
      simp only [cond_true, cond_false]
      rw [same38 _ f1, same38 _ f2]
      simp only [opt_s, List.getD_cons_zero, D.toBool, cond_true, cond_false]
      rw [nxt (by omega)]
      exact ih (i + 1) (by omega)
  rw [enter12, show D.toList (D.cell (X3 A S T) 0) = A from rfl, show D.toList (D.cell (X3 A S T) 1) = S from rfl, show D.toList (D.cell (X3 A S T) 2) = T from rfl, same37 A hA, opt_s]
  simp only [List.getD_cons_zero, D.toBool, cond_true, cond_false]
  rw [same38 S hS, opt_s]
  simp only [List.getD_cons_zero, D.toBool, cond_true, cond_false, decide_true]
  exact lp _ 0 (Nat.zero_add _)

/-- A result that is the same as itself. -/
def Good (r : R) : Prop := ∃ (x : D) (e : Int), r = some [x, .int e] ∧ RUN E 12 [x, x] = some [.bool true]
theorem good_nil (e : Int) : Good (some [.agg [.list [], .list [], .list []], .int e]) :=
  ⟨_, e, rfl, same12 [] [] [] (by simp) (by simp) (by simp) (by simp)⟩
theorem lines {all : List (List UInt8)} (hno : ∀ x ∈ all, (10 : UInt8) ∉ x) (hall : all.length ≤ 400000) : ∀ (ls : List (List UInt8)) (i c : Nat), i + ls.length = all.length → all.drop i = ls → c + (unl ls).length ≤ 400000 →
    ∀ A S T : List D, A.length ≤ i → S.length ≤ i → T.length ≤ i → dmass.dmAll A + dmass.dmAll T ≤ 2 * c → (∀ t ∈ T, fits t) →
    ∃ r, L10a (unl ls) [] [] [] A S T = r ∧ L11a (all.map .str) (all.length : Int) i [] [] [] A S T = r ∧ Good r := by
  intro ls
  induction ls with
  | nil =>
    intro i c hi _ hc A S T hA hS hT hm hf
    simp only [List.length_nil] at hi
    rw [round10a, round11a, dec_f (p := (i : Int) < (all.length : Int)) (by omega), dec_t (p := unl [] = []) rfl]
    simp only [cond_true, cond_false]
    have hfm : ∀ t ∈ T, dmass t ≤ dmass.dmAll T := by
      intro t ht
      clear hf hT hm
      induction T with
      | nil => cases ht
      | cons d r ih =>
        simp only [dmass.dmAll]
        rcases List.mem_cons.1 ht with rfl | ht
        · omega
        · have := ih ht; omega
    have hlen : ∀ k, k < T.length → (D.toList (D.cell (T.getD k .no) 1)).length ≤ dmass (T.getD k .no) := by
      intro k hk
      have e : T.getD k .no = T[k] := by simp [List.getD_eq_getElem?_getD, hk]
      rw [e]; exact (hf _ (List.getElem_mem _)).1
    have sm : RUN E 12 [X3 A S T, X3 A S T] = some [.bool true] := same12 A S T (by omega) (by omega) (by omega) fun t ht => by
      have := hf t ht; have := hfm t ht; unfold fits at *; omega
    rw [show D.agg [.list A, .list S, .list T] = X3 A S T from rfl]
    rcases wr.index (x1 := X3 A S T) (l := A) (S := S) (T := T) rfl rfl rfl (by omega) (by omega) (by omega) hlen with ⟨e, he, a1, a2⟩ | ⟨a1, a2, _⟩
    · rw [a1, a2]
      simp only [opt_s, List.getD_cons_zero, tI]
      rw [dec_f he]
      exact ⟨_, rfl, rfl, good_nil e⟩
    · rw [a1, a2]
      exact ⟨_, rfl, rfl, X3 A S T, 0, rfl, sm⟩
  | cons l rest ih =>
    intro i c hi hd hc A S T hA hS hT hm hf
    simp only [List.length_cons] at hi
    rw [unl_len] at hc
    have hget : all[i]? = some l := by
      have := congrArg (fun x => x[0]?) hd
      simpa using this
    have hlm : l ∈ all := List.mem_of_getElem? hget
    have hv : (all.map D.str).getD i .no = .str l := by simp [List.getD_eq_getElem?_getD, hget]
    have hlenm : ((all.map D.str).length : Int) = (all.length : Int) := by rw [List.length_map]
    rw [unl_cons]
    rcases step (l := l) (rest := unl rest) (hno l hlm) (by simp only [List.length_append, List.length_cons]; omega) (A := A) (S := S) (T := T) (by omega) (by omega) (by omega) hv (by rw [List.length_map]; omega) (by rw [List.length_map]; omega) with ⟨a1, a2⟩ | ⟨A', S', T', a1, a2, b1, b2, b3, b4, b5⟩
    · rw [hlenm] at a2
      exact ⟨bad, a1, a2, good_nil 8⟩
    · rw [hlenm] at a2
      rw [a1, a2]
      refine ih (i + 1) (c + (l.length + 1)) (by omega) ?_ (by omega) A' S' T' (by omega) (by omega) (by omega) (by omega) (b5 hf)
      rw [← List.drop_drop, hd]; rfl

theorem lawS (s : List UInt8) : RUN E 4 [.str s] = some [.bool true] := by
  have key : ∃ r, RUN E 10 [.str s] = r ∧ RUN E 11 [.str s] = r ∧ Good r := by
    rw [enter10, enter11]
    by_cases hb : 400000 < (s.length : Int)
    · rw [dec_t hb]; exact ⟨_, rfl, rfl, good_nil 4⟩
    · rw [dec_f hb]
      simp only [cond_false]
      by_cases he : s = []
      · subst he
        have e32 : RUN E 32 [.str []] = some [.list []] := by rw [enter32, r30 _ _ (by simp) (by simp)]; rfl
        rw [e32]
        exact lines (all := []) (by simp) (by simp) [] 0 0 rfl rfl (by simp [unl_nil]) [] [] [] (by simp) (by simp) (by simp) (by simp [dmass.dmAll]) (by simp)
      · rw [dec_f he, r30 s _ (by omega) (by simp)]
        simp only [cond_true, cond_false, opt_s, List.getD_cons_zero, D.toBool]
        cases hs : hasSuf s [10] with
        | false => exact ⟨_, rfl, rfl, good_nil 8⟩
        | true =>
          obtain ⟨u, rfl⟩ := suf_form hs
          simp only [List.length_append, List.length_cons, List.length_nil] at hb
          have hu : (u ++ [10] : List UInt8).length = u.length + 1 := by simp
          have hw : IntKind.wrap IntKind.i64 (((u ++ [10] : List UInt8).length : Int) - 1) = (u.length : Int) := by rw [hu, wrap_id (by omega) (by omega)]; omega
          have e32 : RUN E 32 [.str (u ++ [10])] = some [.list ((splitC 10 u).map .str)] := by
            rw [enter32, r30 _ _ (by rw [hu]; omega) (by simp), hs, opt_s]
            simp only [List.getD_cons_zero, D.toBool, cond_true]
            rw [hw, cutOk_hi (by rw [hu]; omega), cut_hi, show (u ++ [10] : List UInt8).take u.length = u from List.take_left, r39 u (by omega)]
            rfl
          rw [e32]
          simp only [opt_s, cond_true, cond_false, List.getD_cons_zero, tL, List.length_map]
          have hun := unl_split u
          have hln := len_unl (splitC 10 u)
          rw [hun, hu] at hln
          have h := lines (all := splitC 10 u) (split_no u) (by omega) (splitC 10 u) 0 0 (Nat.zero_add _) rfl (by rw [hun, hu]; omega) [] [] [] (by simp) (by simp) (by simp) (by simp [dmass.dmAll]) (by simp)
          rw [hun] at h
          exact h
  obtain ⟨r, h1, h2, x, e, h3, h4⟩ := key
  rw [enter4, h1, h2, h3, opt_s, opt_s]
  simp only [List.getD_cons_zero, List.getD_cons_succ, tI]
  simp only [decide_true, cond_true, h4, opt_s, List.getD_cons_zero, D.toBool]
theorem law {M : Mem} {v : Value} {s : List UInt8} (_ : Rep E.tt M .str v (.str s)) : RUN E 4 [.str s] = some [.bool true] := lawS s
theorem tab {W : World} (hL : laidMetH Tryd.prog Rows.shipReadsRow.laid W) : Lib.TabIs Tryd.prog W "internal/strconv.uint64pow10" .u64 Lib.pow10Tab := by
  rw [MakeChecks.laidMetH_plain _ _ _ (by kernel_rfl)] at hL
  have h1 : laidMet Tryd.prog (("internal/strconv.uint64pow10", Lib.tabData .u64 Lib.pow10Tab) :: [("unicode/utf8.acceptRanges", Rows.laid_unicode_utf8_acceptRanges), ("unicode/utf8.first", Rows.laid_unicode_utf8_first)]) W := laidMet.tail (laidMet.tail hL)
  exact Lib.tabIs_of_head (g := 1) (t := 158) (e := 122) (n := 20) (by kernel_rfl) (by kernel_rfl) (by kernel_rfl) (by kernel_rfl) (by kernel_rfl) (by kernel_rfl) h1
end rdx
end Go.Proofs.YtefclcihphpejaaDoor.rd
