/- An index as a text: both sides' bytes; the law. -/
import Derived.Test.YtefclcihphpejaaDoorDxScD
import Derived.Lib.LaidTab
import Derived.MakeChecks
set_option linter.unusedVariables false
set_option linter.unusedSimpArgs false
namespace Go.Proofs.YtefclcihphpejaaDoor.sc
open Go.Proofs.YtefclcihphpejaaDoor.DS
namespace wr

def ph (ps : List (List UInt8)) : Nat := ps.length + ps.flatten.length
theorem ph_add (ps : List (List UInt8)) (p : List UInt8) : ph (ps ++ [p]) = ph ps + 1 + p.length := by
  unfold ph; simp; omega
theorem map_add (ps : List (List UInt8)) (p : List UInt8) : ps.map D.str ++ [.str p] = (ps ++ [p]).map .str := by simp
theorem flat_add (ps : List (List UInt8)) (p : List UInt8) : ps.flatten ++ p = (ps ++ [p]).flatten := by simp

def docP (a n t : List UInt8) : List UInt8 := [100, 111, 99, 32] ++ a ++ [32] ++ n ++ [32] ++ t ++ [10]
theorem docs_text {x1 : D} {l S : List D} (h1 : D.toList (D.cell x1 1) = S) (hSl : S.length = l.length) (hl : l.length ≤ 120) (hm : dmass.dmAll l ≤ 1048576) (hS : ∀ k, k < S.length → rng (D.toInt (S.getD k .no))) :
    ∀ (n i : Nat) (ps : List (List UInt8)), i + n = l.length → ph ps ≤ i * 2097200 → ∃ ps', ph ps' ≤ l.length * 2097200 ∧ L9a l (l.length : Int) i (ps.map .str) x1 = L9b (D.toList (D.cell x1 2)) ((↑(List.length (D.toList (D.cell x1 2))) : Int)) 0 (ps'.map .str) ∧
      L21a l (l.length : Int) i x1 (bytesD ps.flatten) = L21b (D.toList (D.cell x1 2)) ((↑(List.length (D.toList (D.cell x1 2))) : Int)) 0 (bytesD ps'.flatten) := by
  intro n
  induction n with
  | zero =>
    intro i ps hi hp
    have : i = l.length := by omega
    subst this
    exact ⟨ps, hp, by rw [round9a, dec_f (by omega)]; rfl, by rw [round21a, dec_f (by omega)]; rfl⟩
  | succ n ih =>
    intro i ps hi hp
    have hil : i < l.length := by omega
    have hs : ∀ k, (D.toStr (D.cell (l.getD i .no) k)).length ≤ 1048576 := fun k => Nat.le_trans (cellS_le _ _) (Nat.le_trans (mass_getD l i) hm)
    have hs0 := hs 0
    have hs1 := hs 1
    obtain ⟨r0, r1⟩ := hS i (by omega)
    have hit := itoa20 r0 (by omega)
    rw [round9a, round21a, dec_t (p := (i : Int) < (l.length : Int)) (by omega), inb_nat hil, Int.toNat_natCast, nxt (by omega), h1, inb_nat (by omega : i < S.length), r25]
    simp only [opt_s, cond_true, List.getD_cons_zero, tS]
    generalize D.toStr (D.cell (l.getD i .no) 0) = a at *
    generalize D.toStr (D.cell (l.getD i .no) 1) = t at *
    generalize Lib.itoa (D.toInt (S.getD i .no)) = m at *
    have hph : ph ps ≤ 251664000 := Nat.le_trans hp (Nat.le_trans (Nat.mul_le_mul_right _ (by omega : i ≤ 120)) (by decide))
    have hpl : ps.length + ps.flatten.length ≤ 251664000 := hph
    have hlen : (docP a m t).length ≤ 2097180 := by unfold docP; simp only [List.length_append, List.length_cons, List.length_nil]; omega
    have hpn : ph (ps ++ [docP a m t]) ≤ (i + 1) * 2097200 := by rw [ph_add, Nat.add_mul]; omega
    obtain ⟨ps', g1, g2, g3⟩ := ih (i + 1) (ps ++ [docP a m t]) (by omega) hpn
    refine ⟨ps', g1, ?_, ?_⟩
    · rw [lim_t (by simp only [List.length_append, List.length_cons, List.length_nil]; omega), lim_t (by simp only [List.length_append, List.length_cons, List.length_nil]; omega), lim_t (by simp only [List.length_append, List.length_cons, List.length_nil]; omega), lim_t (by simp only [List.length_append, List.length_cons, List.length_nil]; omega), lim_t (by simp only [List.length_append, List.length_cons, List.length_nil]; omega), lim_t (by simp only [List.length_append, List.length_cons, List.length_nil]; omega),
        fitL_le (by rw [lim_val, List.length_map]; simp only [List.length_cons, List.length_nil]; omega)]
      simp only [cond_true]
      rw [show ([100, 111, 99, 32] ++ a ++ [32] ++ m ++ [32] ++ t ++ [10] : List UInt8) = docP a m t from rfl, map_add]
      exact g2
    · rw [lim_t (by simp only [List.length_append, List.length_cons, List.length_nil]; omega), lim_t (by simp only [List.length_append, List.length_cons, List.length_nil]; omega), lim_t (by simp only [List.length_append, List.length_cons, List.length_nil]; omega), lim_t (by simp only [List.length_append, List.length_cons, List.length_nil]; omega), lim_t (by simp only [List.length_append, List.length_cons, List.length_nil]; omega), lim_t (by simp only [List.length_append, List.length_cons, List.length_nil]; omega)]
      simp only [cond_true]
      rw [show ([100, 111, 99, 32] ++ a ++ [32] ++ m ++ [32] ++ t ++ [10] : List UInt8) = docP a m t from rfl, r53 _ _ (by omega), flat_add]
      exact g3

def entP (d m : List UInt8) : List UInt8 := [32] ++ d ++ [58] ++ m
theorem ents_text {t : D} {T : List D} {M v : Int} {ds ms : List D} (hm : D.toList (D.cell t 2) = ms) (hlen : ms.length = ds.length) (hb : ds.length ≤ 1048576) {n0 : Nat} (hn : n0 ≤ 1048576) (hE : ∀ k, k < ds.length → okE n0 (D.toInt (ds.getD k .no)) (D.toInt (ms.getD k .no))) {B : Nat} (hB : B ≤ 4294967296) :
    ∀ (n i : Nat) (ps : List (List UInt8)), i + n = ds.length → ph ps + 50 * n ≤ B → ∃ ps', ph ps' ≤ B + 2 ∧ L9c T M v ds (ds.length : Int) i (ps.map .str) t = L9b T M (IntKind.wrap IntKind.i64 (v + 1)) (ps'.map .str) ∧
      L21c T M v ds (ds.length : Int) i t (bytesD ps.flatten) = L21b T M (IntKind.wrap IntKind.i64 (v + 1)) (bytesD ps'.flatten) := by
  intro n
  induction n with
  | zero =>
    intro i ps hi hp
    have : i = ds.length := by omega
    subst this
    have hpl : ps.length + ps.flatten.length ≤ B := by unfold ph at hp; omega
    refine ⟨ps ++ [[10]], by rw [ph_add]; simp; omega, ?_, ?_⟩
    · rw [round9c, dec_f (by omega), cond_false, fitL_le (by rw [lim_val, List.length_map]; simp only [List.length_cons, List.length_nil]; omega), cond_true, map_add]
    · rw [round21c, dec_f (by omega), cond_false, r53 _ _ (by simp only [List.length_cons, List.length_nil]; omega), opt_s, flat_add]; rfl
  | succ n ih =>
    intro i ps hi hp
    have hil : i < ds.length := by omega
    obtain ⟨e1, e2, e3, e4⟩ := hE i hil
    have hi1 := itoa20 e1 (by omega)
    have hi2 := itoa20 (by omega : 0 ≤ D.toInt (ms.getD i .no)) (by omega)
    rw [round9c, round21c, dec_t (p := (i : Int) < (ds.length : Int)) (by omega), inb_nat hil, Int.toNat_natCast, nxt (by omega), hm, inb_nat (by omega : i < ms.length), r25, r25]
    simp only [opt_s, cond_true, List.getD_cons_zero, tS]
    generalize Lib.itoa (D.toInt (ds.getD i .no)) = a at *
    generalize Lib.itoa (D.toInt (ms.getD i .no)) = m at *
    have hpl : ps.length + ps.flatten.length ≤ B := by unfold ph at hp; omega
    have hlenP : (entP a m).length ≤ 42 := by unfold entP; simp only [List.length_append, List.length_cons, List.length_nil]; omega
    obtain ⟨ps', g1, g2, g3⟩ := ih (i + 1) (ps ++ [entP a m]) (by omega) (by rw [ph_add]; omega)
    refine ⟨ps', g1, ?_, ?_⟩
    · rw [lim_t (by simp only [List.length_append, List.length_cons, List.length_nil]; omega), lim_t (by simp only [List.length_append, List.length_cons, List.length_nil]; omega), lim_t (by simp only [List.length_append, List.length_cons, List.length_nil]; omega),
        fitL_le (by rw [lim_val, List.length_map]; simp only [List.length_cons, List.length_nil]; omega)]
      simp only [cond_true]
      rw [show ([32] ++ a ++ [58] ++ m : List UInt8) = entP a m from rfl, map_add]
      exact g2
    · rw [lim_t (by simp only [List.length_append, List.length_cons, List.length_nil]; omega), lim_t (by simp only [List.length_append, List.length_cons, List.length_nil]; omega), lim_t (by simp only [List.length_append, List.length_cons, List.length_nil]; omega)]
      simp only [cond_true]
      rw [show ([32] ++ a ++ [58] ++ m : List UInt8) = entP a m from rfl, r53 _ _ (by omega), flat_add]
      exact g3

theorem terms_text {T : List D} (hTl : T.length ≤ 1048576) (hTm : dmass.dmAll T ≤ 1048576) (hlen : ∀ k, k < T.length → (D.toList (D.cell (T.getD k .no) 1)).length ≤ dmass (T.getD k .no)) {n0 : Nat} (hn : n0 ≤ 1048576) (hT : ∀ k, k < T.length → okT n0 (T.getD k .no)) {B : Nat} (hB : B ≤ 4294967296) :
    ∀ (n i : Nat) (ps : List (List UInt8)), i + n = T.length → ph ps + 60 * (dmass.dmAll (T.drop i) + n) ≤ B → ∃ s, L9b T (T.length : Int) i (ps.map .str) = some [.str s] ∧ L21b T (T.length : Int) i (bytesD ps.flatten) = some [.str s] := by
  intro n
  induction n with
  | zero =>
    intro i ps hi hp
    have : i = T.length := by omega
    subst this
    have hpl : ps.length + ps.flatten.length ≤ B := by unfold ph at hp; omega
    refine ⟨ps.flatten, ?_, ?_⟩
    · rw [round9b, dec_f (by omega), cond_false, r26 _ (by omega) (by omega)]; rfl
    · rw [round21b, dec_f (by omega), cond_false, r54, dBytes_bytesD]; rfl
  | succ n ih =>
    intro i ps hi hp
    have hil : i < T.length := by omega
    rw [drop_cons .no hil] at hp
    have hp' : ph ps + 60 * (dmass (T.getD i .no) + dmass.dmAll (T.drop (i + 1)) + (n + 1)) ≤ B := hp
    have hpl : ps.length + ps.flatten.length ≤ B := by unfold ph at hp'; omega
    have hw := cellS_le (T.getD i .no) 0
    have hmt : dmass (T.getD i .no) ≤ 1048576 := Nat.le_trans (mass_getD T i) hTm
    have hdl := hlen i hil
    obtain ⟨o1, o2⟩ := hT i hil
    rw [round9b, round21b, dec_t (p := (i : Int) < (T.length : Int)) (by omega), inb_nat hil, Int.toNat_natCast]
    simp only [cond_true]
    generalize D.toStr (D.cell (T.getD i .no) 0) = a at *
    have hpl2 : ([116, 101, 114, 109, 32] ++ a : List UInt8).length = a.length + 5 := by simp
    obtain ⟨ps', g1, g2, g3⟩ := ents_text (t := T.getD i .no) (T := T) (M := (T.length : Int)) (v := (i : Int)) rfl o1 (by omega) hn o2 (B := ph ps + 6 + a.length + 50 * (D.toList (D.cell (T.getD i .no) 1)).length) (by omega) _ 0 (ps ++ [[116, 101, 114, 109, 32] ++ a]) (Nat.zero_add _) (by rw [ph_add, hpl2]; omega)
    obtain ⟨s, s1, s2⟩ := ih (i + 1) ps' (by omega) (by omega)
    have g2' : L9c T (T.length : Int) (i : Int) (D.toList (D.cell (T.getD i .no) 1)) ((D.toList (D.cell (T.getD i .no) 1)).length : Int) 0 ((ps ++ [[116, 101, 114, 109, 32] ++ a]).map .str) (T.getD i .no) = _ := g2
    have g3' : L21c T (T.length : Int) (i : Int) (D.toList (D.cell (T.getD i .no) 1)) ((D.toList (D.cell (T.getD i .no) 1)).length : Int) 0 (T.getD i .no) (bytesD (ps ++ [[116, 101, 114, 109, 32] ++ a]).flatten) = _ := g3
    rw [nxt (by omega)] at g2' g3'
    refine ⟨s, ?_, ?_⟩
    · rw [lim_t (by simp only [List.length_cons, List.length_nil]; omega), fitL_le (by rw [lim_val, List.length_map]; simp only [List.length_cons, List.length_nil]; omega)]
      simp only [cond_true]
      rw [map_add, g2', s1]
    · rw [lim_t (by simp only [List.length_cons, List.length_nil]; omega), cond_true, r53 _ _ (by rw [hpl2]; omega), opt_s, flat_add]
      show L21c T (T.length : Int) (i : Int) (D.toList (D.cell (T.getD i .no) 1)) ((D.toList (D.cell (T.getD i .no) 1)).length : Int) 0 (T.getD i .no) (bytesD (ps ++ [[116, 101, 114, 109, 32] ++ a]).flatten) = _
      rw [g3', s2]

theorem text {x1 : D} {l S T : List D} (h0 : D.toList (D.cell x1 0) = l) (h1 : D.toList (D.cell x1 1) = S) (h2 : D.toList (D.cell x1 2) = T) (hSl : S.length = l.length) (hl : l.length ≤ 120) (hm : dmass.dmAll l ≤ 1048576) (hS : ∀ k, k < S.length → rng (D.toInt (S.getD k .no)))
    (hTl : T.length ≤ 1048576) (hTm : dmass.dmAll T ≤ 1048576) (hlen : ∀ k, k < T.length → (D.toList (D.cell (T.getD k .no) 1)).length ≤ dmass (T.getD k .no)) (hT : ∀ k, k < T.length → okT l.length (T.getD k .no)) :
    ∃ s, RUN E 21 [x1] = some [.str s] ∧ RUN E 9 [x1] = some [.str s] := by
  obtain ⟨ps, p1, p2, p3⟩ := docs_text h1 hSl hl hm hS _ 0 [] (Nat.zero_add _) (Nat.zero_le _)
  have hps : ph ps ≤ 251664000 := Nat.le_trans p1 (Nat.le_trans (Nat.mul_le_mul_right _ hl) (by decide))
  obtain ⟨s, s1, s2⟩ := terms_text hTl hTm hlen (by omega : l.length ≤ 1048576) hT (B := 4294967296) (by omega) _ 0 ps (Nat.zero_add _) (by rw [List.drop_zero]; omega)
  refine ⟨s, ?_, ?_⟩
  · rw [enter21, h0]
    have e : L21a l (l.length : Int) 0 x1 [] = _ := p3
    rw [e, h2]; exact s2
  · rw [enter9, h0]
    have e : L9a l (l.length : Int) 0 [] x1 = _ := p2
    rw [e, h2]; exact s1

theorem index {x1 : D} {l S T : List D} (h0 : D.toList (D.cell x1 0) = l) (h1 : D.toList (D.cell x1 1) = S) (h2 : D.toList (D.cell x1 2) = T) (hm : dmass.dmAll l ≤ 1048576)
    (hTl : T.length ≤ 1048576) (hTm : dmass.dmAll T ≤ 1048576) (hlen : ∀ k, k < T.length → (D.toList (D.cell (T.getD k .no) 1)).length ≤ dmass (T.getD k .no)) :
    (∃ e : Int, e ≠ 0 ∧ RUN E 20 [x1] = some [.int e] ∧ RUN E 8 [x1] = some [.int e]) ∨ (RUN E 20 [x1] = some [.int 0] ∧ RUN E 8 [x1] = some [.int 0] ∧ ∃ s, RUN E 21 [x1] = some [.str s] ∧ RUN E 9 [x1] = some [.str s]) := by
  rw [enter20, enter50, enter8, enter22, h0, h1, h2]
  by_cases hl : 120 < (l.length : Int)
  · rw [dec_t hl]; exact .inl ⟨4, by decide, rfl, rfl⟩
  · rw [dec_f hl]
    simp only [cond_false]
    obtain ⟨e, a1, a2⟩ := docs (by omega) hm h0 _ 0 (Nat.zero_add _)
    have a1' : L22a l false l (l.length : Int) 0 = _ := a1
    have a2' : L50a l (l.length : Int) 0 x1 = _ := a2
    rw [a1', a2', h1]
    by_cases he : e = 0
    · subst he
      rw [dec_t rfl]
      simp only [opt_s, List.getD_cons_zero, tI, cond_true, cond_false]
      by_cases hq : S.length = l.length
      · rw [dec_t (p := (S.length : Int) = (l.length : Int)) (by omega)]
        simp only [cond_true, cond_false]
        rcases sizes (S := S) (by omega) (x1 := x1) _ 0 (Nat.zero_add _) (fun k hk => absurd hk (Nat.not_lt_zero _)) with ⟨b1, b2⟩ | ⟨b1, b2, b3⟩
        · have b1' : L50b S (S.length : Int) 0 = _ := b1
          have b2' : L8a S (S.length : Int) 0 x1 = _ := b2
          rw [b1', b2']; exact .inl ⟨2, by decide, rfl, rfl⟩
        · have b1' : L50b S (S.length : Int) 0 = _ := b1
          have b2' : L8a S (S.length : Int) 0 x1 = _ := b2
          rw [b1', b2', h2]
          simp only [opt_s, List.getD_cons_zero, tI]
          simp only [decide_true]
          simp only [cond_true, cond_false]
          have hfin : (∀ k, k < T.length → okT l.length (T.getD k .no)) → _ := fun hT => text h0 h1 h2 hq (by omega) hm b3 hTl hTm hlen hT
          obtain ⟨e, t1, t2, t3⟩ := terms h2 hTl hTm hlen (congrArg List.length h0) hfin _ 0 (Nat.zero_add _) (fun k hk => absurd hk (Nat.not_lt_zero _))
          have t1' : L20a T (T.length : Int) 0 x1 = _ := t1
          have t2' : L8b T (T.length : Int) 0 x1 = _ := t2
          rw [t1', t2']
          by_cases he : e = 0
          · subst he; exact .inr ⟨rfl, rfl, hfin (t3 rfl)⟩
          · exact .inl ⟨e, he, rfl, rfl⟩
      · rw [dec_f (p := (S.length : Int) = (l.length : Int)) (by omega)]; exact .inl ⟨1, by decide, rfl, rfl⟩
    · rw [dec_f he]
      simp only [opt_s, List.getD_cons_zero, tI, cond_false]
      rw [dec_f he]
      exact .inl ⟨e, he, rfl, rfl⟩

theorem law {x1 : D} {l S T : List D} (h0 : D.toList (D.cell x1 0) = l) (h1 : D.toList (D.cell x1 1) = S) (h2 : D.toList (D.cell x1 2) = T) (hm : dmass.dmAll l ≤ 1048576)
    (hTl : T.length ≤ 1048576) (hTm : dmass.dmAll T ≤ 1048576) (hlen : ∀ k, k < T.length → (D.toList (D.cell (T.getD k .no) 1)).length ≤ dmass (T.getD k .no)) : RUN E 3 [x1] = some [.bool true] := by
  rw [enter3, enter7]
  rcases index h0 h1 h2 hm hTl hTm hlen with ⟨e, he, a1, a2⟩ | ⟨a1, a2, s, s1, s2⟩
  · rw [a1, a2]
    simp only [opt_s, List.getD_cons_zero, tI]
    rw [dec_f he]
    simp [opt_s, tI, tS]
  · rw [a1, a2, s1, s2]
    simp [opt_s, tI, tS]
theorem lawR {M : Mem} {v : Value} {x : D} (h : Rep E.tt M (.agg 26) v x) (hb : dmass.dmAll [x] ≤ 1048576) : RUN E 3 [x] = some [.bool true] := by
  have hb' : dmass x ≤ 1048576 := hb
  have hp : posTT E.tt = true := by kernel_rfl
  have t26 : lk 26 E.tt = some ⟨.agg 26, [.slice 57, .slice 3, .slice 54], [(0, 22), (1, 23), (2, 24)], 72⟩ := by kernel_rfl
  have t54 : lk 54 E.tt = some ⟨.agg 54, [.str, .slice 3, .slice 3], [(0, 9), (1, 23), (2, 23)], 64⟩ := by kernel_rfl
  obtain ⟨u2, c2⟩ := rep_cell t26 h (i := 2) (by decide)
  have c2' : Rep E.tt M (.slice 54) u2 (D.cell x 2) := c2
  have m := fun i => Nat.le_trans (Nat.le_trans (toList_le (D.cell x i)) (mass_cell x i)) hb'
  refine law rfl rfl rfl (m 0) ?_ (m 2) ?_
  · exact Nat.le_trans (rep_len' hp c2') (m 2)
  · intro k hk
    obtain ⟨u, e⟩ := rep_elem t54 c2' hk
    have e' : Rep E.tt M (.agg 54) u ((D.toList (D.cell x 2)).getD k .no) := e
    obtain ⟨u', f⟩ := rep_cell t54 e' (i := 1) (by decide)
    have f' : Rep E.tt M (.slice 3) u' (D.cell ((D.toList (D.cell x 2)).getD k .no) 1) := f
    exact Nat.le_trans (rep_len' hp f') (Nat.le_trans (toList_le _) (mass_cell _ _))
theorem tab {W : World} (hL : laidMetH Tryd.prog Rows.shipWritesUptoRow.laid W) : Lib.TabIs Tryd.prog W "internal/strconv.uint64pow10" .u64 Lib.pow10Tab := by
  rw [MakeChecks.laidMetH_plain _ _ _ (by kernel_rfl)] at hL
  have h1 : laidMet Tryd.prog (("internal/strconv.uint64pow10", Lib.tabData .u64 Lib.pow10Tab) :: [("unicode/utf8.acceptRanges", Rows.laid_unicode_utf8_acceptRanges), ("unicode/utf8.first", Rows.laid_unicode_utf8_first)]) W := laidMet.tail (laidMet.tail hL)
  exact Lib.tabIs_of_head (g := 1) (t := 158) (e := 122) (n := 20) (by kernel_rfl) (by kernel_rfl) (by kernel_rfl) (by kernel_rfl) (by kernel_rfl) (by kernel_rfl) h1
end wr
end Go.Proofs.YtefclcihphpejaaDoor.sc
