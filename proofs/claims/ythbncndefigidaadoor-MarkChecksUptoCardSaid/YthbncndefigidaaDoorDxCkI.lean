/- Fences, blocks; the law. -/
import Derived.Test.YthbncndefigidaaDoorDxCkH
set_option linter.unusedVariables false
set_option linter.unusedSimpArgs false
namespace Go.Proofs.YthbncndefigidaaDoor.mc
open Go.Proofs.YthbncndefigidaaDoor.DS
namespace chk
open check

theorem r19 (s : List UInt8) (c : UInt8) : RUN E 83 [.str s, .str [c]] = some [.int (Lib.indexByte s c)] := (RUN_eq _ _ _).trans (by kernel_rfl)
theorem r60 (s : List UInt8) (c : UInt8) : RUN E 130 [.str s, .str [c]] = some [.int (Lib.countByte s c : Int)] := (RUN_eq _ _ _).trans (by kernel_rfl)
theorem r39 (s : List UInt8) (h : s.length ≤ 1048576) (c : UInt8) : RUN E 97 [.str s, .str [c]] = some [.list ((splitC c s).map .str)] := by
  have hc : s.count c ≤ s.length := List.count_le_length
  have n1 : IntKind.wrap IntKind.i64 ((s.count c : Int) + 1) = ((s.count c + 1 : Nat) : Int) := nxt (by omega)
  have n2 : IntKind.wrap IntKind.i64 ((s.length : Int) + 1) = ((s.length + 1 : Nat) : Int) := nxt (by omega)
  have mm : mmInt false ((s.count c + 1 : Nat) : Int) ((s.length + 1 : Nat) : Int) = ((s.count c + 1 : Nat) : Int) := by
    unfold mmInt; rw [dec_f (p := ((s.length + 1 : Nat) : Int) < ((s.count c + 1 : Nat) : Int)) (by omega)]; rfl
  have n3 : IntKind.wrap IntKind.i64 (((s.count c + 1 : Nat) : Int) - 1) = ((0 + s.count c : Nat) : Int) := by rw [wrap_id (by omega) (by omega)]; omega
  have lp := split_loop (L := fun s n i a => L115b s [c] 0 n i a) (X := fun s => RUN E 83 [.str s, .str [c]]) (c := c) (fun s _ => r19 s c) (fun s n i a => round115b s [c] 0 n i a) s.length s (Nat.le_refl _) (by omega) 0 (List.replicate (s.count c + 1) (.str [])) (by omega) (by simp)
  have e50 : RUN E 115 [.str s, .str [c], .int 0, .int (-1)] = some [.list ((splitC c s).map .str)] := by
    rw [enter115, dec_f (by omega), dec_f (by simp), dec_t (by omega), r60]
    simp only [cond_true, cond_false, opt_s, List.getD_cons_zero, tI, Lib.countByte, n1]
    rw [round115a, n2, mm, n3, dec_t (by omega), dec_t (by omega), dec_t (by rw [lim_val]; omega), Int.toNat_natCast]
    simpa using lp
  rw [enter97, e50]; rfl

/-! ### Parts of paths -/

theorem parts_len {s : List UInt8} {i : Nat} : (D.toStr (((splitC 10 s).map D.str).getD i .no)).length ≤ s.length := by
  rw [List.getD_eq_getElem?_getD, List.getElem?_map]
  cases h : (splitC 10 s)[i]? with
  | none => simp [D.toStr]
  | some x => exact (split_len 10 s.length s (Nat.le_refl _)).2 x (List.mem_of_getElem? h)
theorem r42 (s p : List UInt8) (h : s.length ≤ 4194304) (hp : p.length ≤ 4194304) : RUN E 42 [.str s, .str p] = some [.bool (hasSuf s p)] := by
  rw [enter42, suf_eq (by omega) (by omega)]
theorem r24 (s p : List UInt8) (h : s.length ≤ 4194304) (hp : p.length ≤ 4194304) : RUN E 24 [.str s, .str p] = some [.bool (hasSuf s p)] := by
  rw [enter24, r42 s p h hp]; rfl
theorem suf_ne {s : List UInt8} {c : UInt8} (h : hasSuf s [c] = true) : s.length ≠ 0 := by
  unfold hasSuf at h
  simp only [Bool.and_eq_true, decide_eq_true_eq, List.length_cons, List.length_nil] at h
  omega
theorem lns (t : List UInt8) (h : t.length ≤ 1048576) : ∃ X : List D, RUN E 86 [.str t] = some [.list X] ∧ RUN E 75 [.str t] = some [.list X] ∧ X.length ≤ 1048577 ∧ ∀ i, (D.toStr (X.getD i .no)).length ≤ 1048576 := by
  have hsp : ∀ u : List UInt8, u.length ≤ t.length → ((splitC 10 u).map D.str).length ≤ 1048577 ∧ ∀ i, (D.toStr (((splitC 10 u).map D.str).getD i .no)).length ≤ 1048576 := by
    intro u hu
    refine ⟨?_, fun i => Nat.le_trans parts_len (by omega)⟩
    rw [List.length_map]
    have h1 := (split_len 10 u.length u (Nat.le_refl _)).1
    have h2 : u.count 10 ≤ u.length := List.count_le_length
    omega
  rw [enter86, enter75, r24 t _ (by omega) (by decide), enter109, enter124, r42 t _ (by omega) (by decide)]
  simp only [opt_s, List.getD_cons_zero, tB, tS, tL]
  by_cases ht : t = []
  · subst ht
    exact ⟨[], rfl, rfl, by simp, fun i => by simp [D.toStr]⟩
  · rw [dec_f ht]
    simp only [cond_false]
    cases hs : hasSuf t [10] with
    | false =>
      simp only [cond_false, opt_s, List.getD_cons_zero, tS]
      rw [r39 t h 10]
      simp only [opt_s, List.getD_cons_zero, tL]
      exact ⟨_, rfl, rfl, (hsp t (Nat.le_refl _)).1, (hsp t (Nat.le_refl _)).2⟩
    | true =>
      have h0 := suf_ne hs
      have e1 : IntKind.wrap IntKind.i64 ((t.length : Int) - (([10] : List UInt8).length : Int)) = ((t.length - 1 : Nat) : Int) := len1 h0 (by omega)
      rw [e1, len1 h0 (by omega), cutOk_hi (by omega), cut_hi]
      simp only [cond_true, opt_s, List.getD_cons_zero, tS]
      have hl : (t.take (t.length - 1)).length ≤ t.length := by rw [List.length_take]; omega
      rw [r39 _ (by omega) 10]
      simp only [opt_s, List.getD_cons_zero, tL]
      exact ⟨_, rfl, rfl, (hsp _ hl).1, (hsp _ hl).2⟩
theorem fence {x : D} (hm : dmass x ≤ 1048576) : ∃ b : Bool, RUN E 71 [x] = some [.bool b] ∧ RUN E 56 [x] = some [.bool b] := by
  have ht : (D.toStr (D.cell x 2)).length ≤ 1048576 := Nat.le_trans (cellS_le _ _) hm
  have hd : (D.toStr (D.cell x 3)).length ≤ 1048576 := Nat.le_trans (cellS_le _ _) hm
  obtain ⟨r, t1, t2, _⟩ := r85 _ hd
  obtain ⟨X, l1, l2, l3, l4⟩ := lns _ ht
  have loop : ∀ n i : Nat, i + n = X.length → ∃ b : Bool, L71a X (X.length : Int) i = some [.bool b] ∧ L56a X (X.length : Int) i = some [.bool b] := by
    intro n
    induction n with
    | zero =>
      intro i hi
      have : i = X.length := by omega
      subst this
      exact ⟨true, by rw [round71a, dec_f (by omega)]; rfl, by rw [round56a, dec_f (by omega)]; rfl⟩
    | succ n ih =>
      intro i hi
      have hil : i < X.length := by omega
      obtain ⟨b1, g1, g2⟩ := ih (i + 1) (by omega)
      obtain ⟨b2, e1, e2⟩ := ends _ (l4 i)
      rw [round71a, round56a, dec_t (p := (i : Int) < (X.length : Int)) (by omega), inb_nat hil, Int.toNat_natCast, nxt (by omega), r87 _ (l4 i), r76 _ (l4 i), e1, e2, g1, g2]
      generalize decide (D.toStr (X.getD i .no) = []) = n1
      generalize (D.toStr (X.getD i .no)).all isB = n2
      cases n1 <;> cases n2 <;> cases b2 <;> cases b1 <;> exact ⟨_, rfl, rfl⟩
  obtain ⟨b, m1, m2⟩ := loop X.length 0 (Nat.zero_add _)
  have m1' : L71a X (X.length : Int) 0 = some [.bool b] := m1
  have m2' : L56a X (X.length : Int) 0 = some [.bool b] := m2
  rw [enter71, enter56, r73 _ hd, r24 _ _ (by omega) (by decide), t1, l1, l2]
  simp only [opt_s, List.getD_cons_zero, List.getD_cons_succ, tB, tL, m1', m2']
  generalize decide (D.toStr (D.cell x 2) = []) = n1
  generalize hasSuf (D.toStr (D.cell x 2)) [10] = n2
  generalize hu : D.toStr (D.cell x 3) = dd at *
  generalize fb dd = n3 at *
  generalize lb dd = n4 at *
  cases n1 <;> cases n2 <;> simp only [opt_s, cond_true, cond_false, List.getD_cons_zero, tS, tB, t2] <;> cases n3 <;> cases n4 <;> exact ⟨_, rfl, rfl⟩

/-! ### Blocks -/
noncomputable def refx (x : D) (NX : R) : R :=
          (cond (decide (D.toInt (D.cell x 0) = 1))
            (cond (decide (D.toInt (D.cell x 0) = 1))
              (opt (RUN E 55 [x]) fun ρ7 =>
                cond (bif D.toBool (List.getD ρ7 0 D.no) then false else true)
                  (some [D.bool false])
                  NX)
              (cond (decide (D.toInt (D.cell x 0) = 2))
                (opt (cond (bif decide ((↑(List.length (D.toList (D.cell x 5))) : Int) = 0) then false else true)
                    (RUN E 55 [x])
                    (some [])) fun ρ8 =>
                  cond (bif decide ((↑(List.length (D.toList (D.cell x 5))) : Int) = 0) then true else bif D.toBool (List.getD ρ8 0 D.no) then false else true)
                    (some [D.bool false])
                    NX)
                (cond (decide (D.toInt (D.cell x 0) = 3))
                  (opt (RUN E 56 [x]) fun ρ9 =>
                    cond (bif D.toBool (List.getD ρ9 0 D.no) then false else true)
                      (some [D.bool false])
                      NX)
                  (cond (decide (D.toInt (D.cell x 0) = 7))
                    NX
                    (opt (cond (bif decide ((↑(List.length (D.toList (D.cell x 5))) : Int) = 0) then false else true)
                        (RUN E 33 [D.list (D.toList (D.cell x 5))])
                        (some [])) fun ρ10 =>
                      cond (bif decide ((↑(List.length (D.toList (D.cell x 5))) : Int) = 0) then true else bif D.toBool (List.getD ρ10 0 D.no) then false else true)
                        (some [D.bool false])
                        NX)))))
            (cond (decide (D.toInt (D.cell x 0) = 10))
              (opt (RUN E 55 [x]) fun ρ7 =>
                cond (bif D.toBool (List.getD ρ7 0 D.no) then false else true)
                  (some [D.bool false])
                  NX)
              (cond (decide (D.toInt (D.cell x 0) = 2))
                (opt (cond (bif decide ((↑(List.length (D.toList (D.cell x 5))) : Int) = 0) then false else true)
                    (RUN E 55 [x])
                    (some [])) fun ρ8 =>
                  cond (bif decide ((↑(List.length (D.toList (D.cell x 5))) : Int) = 0) then true else bif D.toBool (List.getD ρ8 0 D.no) then false else true)
                    (some [D.bool false])
                    NX)
                (cond (decide (D.toInt (D.cell x 0) = 3))
                  (opt (RUN E 56 [x]) fun ρ9 =>
                    cond (bif D.toBool (List.getD ρ9 0 D.no) then false else true)
                      (some [D.bool false])
                      NX)
                  (cond (decide (D.toInt (D.cell x 0) = 7))
                    NX
                    (opt (cond (bif decide ((↑(List.length (D.toList (D.cell x 5))) : Int) = 0) then false else true)
                        (RUN E 33 [D.list (D.toList (D.cell x 5))])
                        (some [])) fun ρ10 =>
                      cond (bif decide ((↑(List.length (D.toList (D.cell x 5))) : Int) = 0) then true else bif D.toBool (List.getD ρ10 0 D.no) then false else true)
                        (some [D.bool false])
                        NX))))))
theorem gp2 {i n : Nat} (h : i ≤ n) (hn : n ≤ 4194304) (X : Bool) : (bif inb (IntKind.wrap IntKind.i64 ((i : Int) - 1)) n then true else bif bif bif decide ((0 : Int) < (i : Int)) then X else false then true else false then false else true) = true := by
  by_cases h0 : i = 0
  · subst h0
    cases inb (IntKind.wrap IntKind.i64 (((0 : Nat) : Int) - 1)) n <;> rfl
  · rw [wrap_id (by omega) (by omega), show (i : Int) - 1 = ((i - 1 : Nat) : Int) by omega, inb_nat (by omega)]; rfl
theorem gp3 {i n : Nat} (h : i ≤ n) (hn : n ≤ 4194304) (X Y : Bool) : (bif inb (IntKind.wrap IntKind.i64 ((i : Int) - 1)) n then true else bif bif bif bif decide ((0 : Int) < (i : Int)) then X else false then Y else false then true else false then false else true) = true := by
  by_cases h0 : i = 0
  · subst h0
    cases inb (IntKind.wrap IntKind.i64 (((0 : Nat) : Int) - 1)) n <;> rfl
  · rw [wrap_id (by omega) (by omega), show (i : Int) - 1 = ((i - 1 : Nat) : Int) by omega, inb_nat (by omega)]; rfl
theorem block {x : D} {k : Int} (hk : D.toInt (D.cell x 0) = k) (hm : dmass x ≤ 1048576) {ks : List D} (hks : D.toList (D.cell x 5) = ks) (hl : ks.length ≤ 1048576) (hmk : dmass.dmAll ks ≤ 1048576)
    (hB : k = 1 ∨ k = 2 ∨ k = 10 → Below k ks) (IH : ∃ b : Bool, RUN E 32 [.list ks] = some [.bool b] ∧ RUN E 33 [.list ks] = some [.bool b]) : ∃ q : Bool, RUN E 54 [x] = some [.bool q] ∧ ∀ NX : R, refx x NX = cond q NX (some [.bool false]) := by
  have hneg : decide ((ks.length : Int) = 0) = decide (ks = []) := zero_ne
  rw [enter54, hk, hks, pos_ne]
  unfold refx
  rw [hk, hks, hneg]
  by_cases h7 : k = 7
  · subst h7
    exact ⟨true, rfl, fun NX => rfl⟩
  by_cases h3 : k = 3
  · subst h3
    obtain ⟨b, f1, f2⟩ := fence hm
    rw [f1, f2]
    exact ⟨b, rfl, fun NX => by cases b <;> rfl⟩
  by_cases h1 : k = 1
  · obtain ⟨b, f1, f2⟩ := line hk (.inl h1) hks hl hmk (hB (.inl h1))
    rw [f1, f2]
    subst h1
    exact ⟨b, rfl, fun NX => by cases b <;> rfl⟩
  by_cases h2 : k = 2
  · obtain ⟨b, f1, f2⟩ := line hk (.inr (.inl h2)) hks hl hmk (hB (.inr (.inl h2)))
    rw [f1, f2]
    subst h2
    cases decide (ks = []) with
    | true => exact ⟨false, rfl, fun NX => rfl⟩
    | false => exact ⟨b, rfl, fun NX => by cases b <;> rfl⟩
  by_cases h10 : k = 10
  · obtain ⟨b, f1, f2⟩ := line hk (.inr (.inr h10)) hks hl hmk (hB (.inr (.inr h10)))
    rw [f1, f2]
    subst h10
    exact ⟨b, rfl, fun NX => by cases b <;> rfl⟩
  obtain ⟨b, f1, f2⟩ := IH
  rw [f1, f2, dec_f h7, dec_f h3, dec_f h1, dec_f h2, dec_f h10]
  cases decide (ks = []) with
  | true => exact ⟨false, rfl, fun NX => rfl⟩
  | false => exact ⟨b, rfl, fun NX => by cases b <;> rfl⟩
theorem blocks : ∀ ks, AllN ks → dmass.dmAll ks ≤ 1048576 → ∀ p, RUN E 31 [.list ks, .int p] = some [.int 0] → ∃ b : Bool, RUN E 32 [.list ks] = some [.bool b] ∧ RUN E 33 [.list ks] = some [.bool b] := by
  refine doc_ind (S := fun ks => dmass.dmAll ks ≤ 1048576 → ∀ p, RUN E 31 [.list ks, .int p] = some [.int 0] → ∃ b : Bool, RUN E 32 [.list ks] = some [.bool b] ∧ RUN E 33 [.list ks] = some [.bool b]) fun ks hN hS hm p hv => ?_
  have hlen : ks.length ≤ 1048576 := Nat.le_trans (len_le hN) hm
  have hval := valid hN hm hv
  have hel : ∀ i, i < ks.length → ∃ q : Bool, RUN E 54 [ks.getD i .no] = some [.bool q] ∧ ∀ NX : R, refx (ks.getD i .no) NX = cond q NX (some [.bool false]) := by
    intro i hi
    obtain ⟨v1, v2⟩ := hval i hi
    have hg : ks.getD i .no = ks[i] := getD_eq ks i .no hi
    have hx := hN ks[i] (List.getElem_mem hi)
    have hdm : dmass ks[i] ≤ 1048576 := by rw [← hg]; exact Nat.le_trans (mass_getD ks i) hm
    have hmk := mass_nd hx
    have hSx := hS ks[i] (List.getElem_mem hi)
    rw [hg]
    have hkl := len_le hx.kids
    exact block rfl hdm (ks := kidsOf ks[i]) rfl (by omega) (by omega) (fun hk => below _ hx.kids (by omega) _ (by
      rcases hk with h | h | h
      · exact .inl h
      · exact .inr (.inl h)
      · exact .inr (.inr (.inl h))) v2) (hSx (by omega) _ v2)
  have loop : ∀ n i : Nat, i + n = ks.length → ∃ b : Bool, L32a ks ks (ks.length : Int) i = some [.bool b] ∧ L33a ks ks (ks.length : Int) i = some [.bool b] := by
    intro n
    induction n with
    | zero =>
      intro i hi
      have : i = ks.length := by omega
      subst this
      exact ⟨true, by rw [round32a, dec_f (by omega)]; rfl, by rw [round33a, dec_f (by omega)]; rfl⟩
    | succ n ih =>
      intro i hi
      have hil : i < ks.length := by omega
      obtain ⟨b1, g1, g2⟩ := ih (i + 1) (by omega)
      obtain ⟨q, q1, q2⟩ := hel i hil
      have q3 := q2 (L33a ks ks (ks.length : Int) (IntKind.wrap IntKind.i64 ((i : Int) + 1)))
      unfold refx at q3
      rw [round32a, round33a, dec_t (p := (i : Int) < (ks.length : Int)) (by omega), inb_nat hil, Int.toNat_natCast, gp2 (by omega) (by omega), gp3 (by omega) (by omega), q1, q3, nxt (by omega), g1, g2]
      simp only [cond_true]
      generalize (bif bif bif decide ((0 : Int) < (i : Int)) then decide (D.toInt (D.cell (ks.getD i .no) 0) = 5) else false then decide (D.toInt (D.cell (ks.getD (Int.toNat (IntKind.wrap IntKind.i64 ((i : Int) - 1))) .no) 0) = 5) else false then decide (D.toInt (D.cell (ks.getD i .no) 1) < 0) == decide (D.toInt (D.cell (ks.getD (Int.toNat (IntKind.wrap IntKind.i64 ((i : Int) - 1))) .no) 1) < 0) else false) = P
      cases P <;> cases q <;> cases b1 <;> exact ⟨_, rfl, rfl⟩
  obtain ⟨b, g1, g2⟩ := loop ks.length 0 (Nat.zero_add _)
  exact ⟨b, by rw [enter32]; exact g1, by rw [enter33]; exact g2⟩

theorem law {l : List D} (hN : AllN l) (hb : dmass.dmAll l ≤ 1048576) : RUN E 4 [.list l] = some [.bool true] := by
  obtain ⟨e, k1, k2, k3⟩ := check.check hN hb
  rw [enter4, enter11, enter12, k1, k2]
  simp only [opt_s, List.getD_cons_zero, tI]
  by_cases he : e = 0
  · obtain ⟨b, m1, m2⟩ := blocks l hN hb 0 (k3 he)
    subst he
    rw [m1, m2]
    cases b <;> rfl
  · rw [dec_f he]
    first | rfl | (simp only [decide_true]; rfl)
theorem nd_rep {M : Mem} {k : KT} {v : Value} {d : D} (h : Rep tt M k v d) : (k = .agg 33 → Nd d) ∧ (k = .slice 33 → AllN d.toList) := by
  have h60 : lk 33 tt = some ⟨.agg 33, [.int .i64, .int .i64, .str, .str, .str, .slice 33], [(0, 3), (1, 3), (2, 9), (3, 9), (4, 9), (5, 24)], 88⟩ := by kernel_rfl
  induction h with
  | bool b => exact ⟨fun e => (by cases e), fun e => (by cases e)⟩
  | int k n h => exact ⟨fun e => (by cases e), fun e => (by cases e)⟩
  | str s h => exact ⟨fun e => (by cases e), fun e => (by cases e)⟩
  | nil e a cap h => exact ⟨fun e => (by cases e), fun _ x hx => (by cases hx)⟩
  | slice e ei ad cap xs vs h0 hc hm he hs hz hMM hr ih =>
    refine ⟨fun e => (by cases e), fun e1 x hx => ?_⟩
    injection e1 with e1
    subst e1
    rw [h60] at he; injection he with he; subst he
    obtain ⟨i, hi, rfl⟩ := List.getElem_of_mem hx
    exact (ih i hi).1 rfl
  | agg t ti cs ds ht hk hl hd hr ih =>
    refine ⟨fun e1 => ?_, fun e1 => (by cases e1)⟩
    injection e1 with e1
    subst e1
    rw [h60] at ht; injection ht with ht; subst ht
    match ds, cs, hd, hl, hr, ih with
    | [d0, d1, d2, d3, d4, d5], [c0, c1, c2, c3, c4, c5], _, _, hr, ih =>
      have r0 := hr 0 (by decide) (by simp) (by simp)
      have r1 := hr 1 (by decide) (by simp) (by simp)
      have r2 := hr 2 (by decide) (by simp) (by simp)
      have r3 := hr 3 (by decide) (by simp) (by simp)
      have r4 := hr 4 (by decide) (by simp) (by simp)
      have r5 := hr 5 (by decide) (by simp) (by simp)
      have i5 := (ih 5 (by decide) (by simp) (by simp)).2 rfl
      obtain ⟨_, q0, _⟩ := Rep.inv_int r0
      obtain ⟨_, q1, _⟩ := Rep.inv_int r1
      obtain ⟨s2, _, q2, _⟩ := Rep.inv_str r2
      obtain ⟨s3, _, q3, _⟩ := Rep.inv_str r3
      obtain ⟨s4, _, q4, _⟩ := Rep.inv_str r4
      obtain ⟨_, _, _, q5, _⟩ := Rep.inv_slice r5
      simp only [List.getElem_cons_zero, List.getElem_cons_succ] at q0 q1 q2 q3 q4 q5 i5
      rw [q0, q1, q2, q3, q4, q5]
      exact .mk _ _ _ _ _ _ i5
theorem lawR {M : Mem} {v : Value} {l : List D} (h : Rep E.tt M (.slice 33) v (.list l)) (hb : dmass.dmAll [.list l] ≤ 1048576) : RUN E 4 [.list l] = some [.bool true] := by
  simp only [mass_list, mass_nil] at hb
  exact law (l := l) ((nd_rep (show Rep tt M (.slice 33) v (.list l) from h)).2 rfl) (by omega)
end chk
end Go.Proofs.YthbncndefigidaaDoor.mc
