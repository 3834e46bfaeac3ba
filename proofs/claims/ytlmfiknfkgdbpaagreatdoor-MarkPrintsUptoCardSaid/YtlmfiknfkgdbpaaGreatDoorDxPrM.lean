/- Printing: rows of inlines. -/
import Derived.Test.YtlmfiknfkgdbpaaGreatDoorDxPrI
set_option linter.unusedVariables false
set_option linter.unusedSimpArgs false
namespace Go.Proofs.YtlmfiknfkgdbpaaGreatDoor.pr
open Go.Proofs.YtlmfiknfkgdbpaaGreatDoor.DS
namespace prt
open check chk

theorem opt_s {α β : Type} (a : α) (f : α → Option β) : opt (some a) f = f a := rfl
theorem tB (b : Bool) : D.toBool (.bool b) = b := rfl
theorem tI (n : Int) : D.toInt (.int n) = n := rfl
theorem tS (x : List UInt8) : D.toStr (.str x) = x := rfl
theorem tL (x : List D) : D.toList (.list x) = x := rfl

theorem any_loop {L : Int → R} {s : List UInt8} {p : UInt8 → Bool} (hend : L (s.length : Nat) = some [.bool false]) (hL : ∀ i : Nat, i < s.length → L i = cond (p (s.getD i 0)) (some [.bool true]) (L ((i + 1 : Nat) : Int))) : L 0 = some [.bool (s.any p)] := by
  have key : ∀ n i : Nat, i + n = s.length → L i = some [.bool ((s.drop i).any p)] := by
    intro n
    induction n with
    | zero =>
      intro i hi
      have : i = s.length := by omega
      subst this
      rw [hend, List.drop_length]; rfl
    | succ n ih =>
      intro i hi
      have hil : i < s.length := by omega
      rw [hL i hil, ih (i + 1) (by omega), drop_cons 0 hil, List.any_cons]
      cases p (s.getD i 0) <;> rfl
  exact key s.length 0 (by omega)

/-! ### Bytes that a string may hold -/
def badc (tab feed : Bool) (c : UInt8) : Bool := decide ((c.toNat : Int) < 32) && !(tab && decide ((c.toNat : Int) = 9)) && !(feed && decide ((c.toNat : Int) = 10))
theorem bad (s : List UInt8) (tab feed : Bool) (h : s.length ≤ 1048576) : RUN E 44 [.str s, .bool tab, .bool feed] = some [.bool (s.any (badc tab feed))] := by
  rw [enter44]
  refine any_loop (L := fun i => L44a s tab feed i) (by show L44a s _ _ _ = _; rw [round44a, dec_f (by omega)]; rfl) fun i hi => ?_
  show L44a s tab feed i = _
  rw [round44a, dec_t (by omega), inb_nat hi, Int.toNat_natCast, nxt (by omega)]
  unfold badc
  generalize decide (((s.getD i 0).toNat : Int) < 32) = a
  generalize decide (((s.getD i 0).toNat : Int) = 9) = b
  generalize decide (((s.getD i 0).toNat : Int) = 10) = c
  cases a <;> cases b <;> cases c <;> cases tab <;> cases feed <;> rfl
theorem no10 {s : List UInt8} {tab : Bool} (h : s.any (badc tab false) = false) : (10 : UInt8) ∉ s := by
  intro hm
  have : s.any (badc tab false) = true := List.any_eq_true.2 ⟨10, hm, by cases tab <;> decide⟩
  rw [h] at this; cases this
/-- What a valid node's strings and number are. -/
theorem valid1 {k l : Int} {t d ti : List UInt8} {ks : List D} {p : Int} (h : RUN E 25 [.agg [.int k, .int l, .str t, .str d, .str ti, .list ks], .int p] = some [.int 0]) (ht : t.length ≤ 1048576) (hd : d.length ≤ 1048576) (hi : ti.length ≤ 1048576) :
    1 ≤ k ∧ k ≤ 18 ∧ RG k l = false ∧ t.any (badc true (decide (k = 3))) = false ∧ d.any (badc (decide (k = 3)) false) = false ∧ ti.any (badc true false) = false ∧ C25 k (decide (l = 0)) (decide (t = [])) (decide (d = [])) (decide (ti = [])) (decide ((0 : Int) < (ks.length : Int))) = false ∧ RUN E 43 [.int p, .int k] = some [.bool true] := by
  obtain ⟨b, e1, _, e3⟩ := perm p k
  rw [enter25] at h
  simp only [D.cell, D.cells, List.getD_cons_zero, List.getD_cons_succ, tI, tS, tL, e1, opt_s, tB] at h
  cases b with
  | false => cases h
  | true =>
    obtain ⟨h1, h2⟩ := e3 rfl
    simp only [cond_true, cond_false] at h
    rw [three67 (bad t true (decide (k = 3)) ht) (bad d (decide (k = 3)) false hd) (bad ti true false hi)] at h
    change cond (RG k l) (some [D.int 2]) (cond (C25 k (decide (l = 0)) (decide (t = [])) (decide (d = [])) (decide (ti = [])) (decide ((0 : Int) < (ks.length : Int)))) (some [D.int 1]) (cond (t.any (badc true (decide (k = 3))) || d.any (badc (decide (k = 3)) false) || ti.any (badc true false)) (some [.int 9]) (some [.int 0]))) = some [D.int 0] at h
    cases hr : RG k l with
    | true => rw [hr] at h; cases h
    | false =>
      rw [hr] at h
      cases hc : C25 k (decide (l = 0)) (decide (t = [])) (decide (d = [])) (decide (ti = [])) (decide ((0 : Int) < (ks.length : Int))) with
      | true => rw [hc] at h; cases h
      | false =>
        rw [hc] at h
        cases q1 : t.any (badc true (decide (k = 3))) <;> cases q2 : d.any (badc (decide (k = 3)) false) <;> cases q3 : ti.any (badc true false) <;> rw [q1, q2, q3] at h <;> first | (cases h; done) | exact ⟨h1, h2, rfl, rfl, rfl, rfl, rfl, e1⟩

/-! ### Backslashes -/
def esc (bs s : List UInt8) : List UInt8 := s.flatMap fun c => if bs.contains c then [92, c] else [c]
theorem esc_nil (bs : List UInt8) : esc bs [] = [] := rfl
theorem esc_cons (bs : List UInt8) (c : UInt8) (r : List UInt8) : esc bs (c :: r) = (if bs.contains c then [92, c] else [c]) ++ esc bs r := by simp [esc]
theorem esc_len (bs s : List UInt8) : (esc bs s).length ≤ 2 * s.length := by
  induction s with
  | nil => simp [esc]
  | cons c r ih =>
    rw [esc_cons, List.length_append, List.length_cons]
    split <;> simp <;> omega
theorem esc_mem {bs s : List UInt8} {x : UInt8} (h : x ∈ esc bs s) : x = 92 ∨ x ∈ s := by
  unfold esc at h
  obtain ⟨c, hc, hx⟩ := List.mem_flatMap.1 h
  split at hx
  · simp at hx; rcases hx with rfl | rfl
    · exact .inl rfl
    · exact .inr hc
  · simp at hx; subst hx; exact .inr hc
theorem idx_has (bs : List UInt8) (c : UInt8) : decide (0 ≤ Lib.indexByte bs c) = bs.contains c := has_iff bs c
theorem r85 (bs : List UInt8) (c : UInt8) : RUN E 85 [.str bs, .int (c.toNat : Int)] = some [.int (Lib.indexByte bs c)] := by
  rw [enter85]
  have : Nat.toUInt8 (Int.toNat (c.toNat : Int)) = c := by simp
  rw [this]
theorem escR (s bs : List UInt8) (hs : s.length ≤ 1048576) : RUN E 54 [.str s, .str bs] = some [.str (esc bs s)] := by
  have key : ∀ n i : Nat, i + n = s.length → ∀ o : List UInt8, o.length ≤ 2 * i → L54a s bs o i = some [.str (o ++ esc bs (s.drop i))] := by
    intro n
    induction n with
    | zero =>
      intro i hi o ho
      have : i = s.length := by omega
      subst this
      rw [round54a, dec_f (by omega), List.drop_length, esc_nil, List.append_nil]; rfl
    | succ n ih =>
      intro i hi o ho
      have hil : i < s.length := by omega
      have hl1 : decide (o.length + ([92] : List UInt8).length ≤ lim) = true := lim_t (by simp; omega)
      have hl2 : decide ((o ++ ([92] : List UInt8)).length + ([s.getD i 0] : List UInt8).length ≤ lim) = true := lim_t (by simp; omega)
      have hl3 : decide (o.length + ([s.getD i 0] : List UInt8).length ≤ lim) = true := lim_t (by simp; omega)
      rw [round54a, dec_t (by omega), inb_nat hil, Int.toNat_natCast, nxt (by omega), r85, cutOk_both (by omega) (by omega), cut_both, sub_one 0 hil, drop_cons 0 hil, esc_cons]
      simp only [cond_true, opt_s, List.getD_cons_zero, tI, idx_has, hl1, hl2, hl3]
      cases hc : bs.contains (s.getD i 0) with
      | true =>
        simp only [cond_true, if_true]
        rw [ih (i + 1) (by omega) _ (by simp; omega)]
        simp
      | false =>
        simp only [cond_false]
        rw [ih (i + 1) (by omega) _ (by simp; omega)]
        simp
  have := key s.length 0 (by omega) [] (by simp)
  rw [enter54]
  simpa using this
theorem escP (s bs : List UInt8) (hs : s.length ≤ 1048576) : RUN E 100 [.str s, .str bs] = some [.str (esc bs s)] := by
  have key : ∀ n i : Nat, i + n = s.length → ∀ o : List UInt8, o.length ≤ 2 * i → L100a s bs i (bytesD o) = some [.str (o ++ esc bs (s.drop i))] := by
    intro n
    induction n with
    | zero =>
      intro i hi o ho
      have : i = s.length := by omega
      subst this
      rw [round100a, dec_f (by omega), List.drop_length, esc_nil, List.append_nil, dBytes_bytesD]; rfl
    | succ n ih =>
      intro i hi o ho
      have hil : i < s.length := by omega
      have b92 : [D.int 92] = bytesD [92] := rfl
      have bc : [D.int ((s.getD i 0).toNat : Int)] = bytesD [s.getD i 0] := rfl
      have hl1 : fitL (bytesD o).length (bytesD [92]).length = true := fit_t (by simp [bytesD_len]; omega)
      have hl2 : fitL (bytesD (o ++ [92])).length (bytesD [s.getD i 0]).length = true := fit_t (by simp [bytesD_len]; omega)
      have hl3 : fitL (bytesD o).length (bytesD [s.getD i 0]).length = true := fit_t (by simp [bytesD_len]; omega)
      rw [round100a, dec_t (by omega), inb_nat hil, Int.toNat_natCast, nxt (by omega), r85, drop_cons 0 hil, esc_cons, b92, bc, ← bytesD_append]
      simp only [cond_true, opt_s, List.getD_cons_zero, tI, idx_has, hl1, hl2, hl3]
      cases hc : bs.contains (s.getD i 0) with
      | true =>
        simp only [cond_true, if_true]
        rw [← bytesD_append, ih (i + 1) (by omega) _ (by simp; omega)]
        simp
      | false =>
        simp only [cond_false]
        rw [← bytesD_append, ih (i + 1) (by omega) _ (by simp; omega)]
        simp
  have := key s.length 0 (by omega) [] (by simp)
  rw [List.nil_append, List.drop_zero] at this
  rw [enter100]
  exact this

/-! ### A string at the beginning of a line -/
def SS : List UInt8 := [92, 96, 42, 91, 93, 33, 124]
def isDg (c : UInt8) : Bool := bif decide (48 ≤ (c.toNat : Int)) then decide ((c.toNat : Int) ≤ 57) else false
def digs : List UInt8 → Nat
  | [] => 0
  | c :: r => if isDg c then digs r + 1 else 0
theorem digs_le (s : List UInt8) : digs s ≤ s.length := by
  induction s with
  | nil => simp [digs]
  | cons c r ih => simp only [digs]; split <;> simp <;> omega
theorem digs_drop {s : List UInt8} {i : Nat} (hi : i < s.length) (h : isDg (s.getD i 0) = true) : digs (s.drop i) = digs (s.drop (i + 1)) + 1 := by
  rw [drop_cons 0 hi]; simp only [digs, h, if_true]
theorem digs_stop {s : List UInt8} {i : Nat} (h : i = s.length ∨ isDg (s.getD i 0) = false) (hi : i ≤ s.length) : digs (s.drop i) = 0 := by
  rcases h with h | h
  · subst h; rw [List.drop_length]; rfl
  · by_cases hl : i < s.length
    · rw [drop_cons 0 hl]; simp only [digs, h]; rfl
    · rw [show i = s.length by omega, List.drop_length]; rfl
theorem digs_all : ∀ (s : List UInt8) (i : Nat), i < digs s → isDg (s.getD i 0) = true := by
  intro s
  induction s with
  | nil => intro i h; simp [digs] at h
  | cons c r ih =>
    intro i h
    simp only [digs] at h
    split at h
    · rename_i hc
      cases i with
      | zero => simpa using hc
      | succ i => simpa using ih i (by omega)
    · omega
def isF (c : UInt8) : Bool := ([35, 62, 45] : List UInt8).contains c
def dot (s : List UInt8) : Bool := decide (1 ≤ digs s) && decide (digs s ≤ 4) && decide (digs s < s.length) && decide ((s.getD (digs s) 0).toNat = 46)
def beg (s : List UInt8) : List UInt8 := if isF (s.getD 0 0) then 92 :: esc SS s else if dot s then s.take (digs s) ++ [92] ++ esc SS (s.drop (digs s)) else esc SS s
theorem beg_len (s : List UInt8) : (beg s).length ≤ 2 * s.length + 1 := by
  have h1 := esc_len SS s
  have h2 := esc_len SS (s.drop (digs s))
  have h3 := digs_le s
  unfold beg
  split
  · simp; omega
  · split
    · simp at h2 ⊢; omega
    · omega
theorem beg_mem {s : List UInt8} {x : UInt8} (h : x ∈ beg s) : x = 92 ∨ x ∈ s := by
  unfold beg at h
  split at h
  · rcases List.mem_cons.1 h with h | h
    · exact .inl h
    · exact esc_mem h
  · split at h
    · rcases List.mem_append.1 h with h | h
      · rcases List.mem_append.1 h with h | h
        · exact .inr (List.mem_of_mem_take h)
        · simp at h; exact .inl h
      · rcases esc_mem h with h | h
        · exact .inl h
        · exact .inr (List.mem_of_mem_drop h)
    · exact esc_mem h
theorem r84 (c : UInt8) : RUN E 84 [.int (c.toNat : Int)] = some [.bool (isDg c)] := enter84 _
theorem r115 (c : UInt8) : RUN E 115 [.int (c.toNat : Int)] = some [.bool (isDg c)] := enter115 _
theorem gd {k n : Nat} : (bif inb (k : Int) n then true else bif bif decide ((k : Int) < (n : Int)) then true else false then false else true) = true := by
  by_cases h : k < n
  · rw [inb_nat h]; rfl
  · rw [inb_f (.inr (by omega)), dec_f (by omega)]; rfl
theorem cI (c : UInt8) (n : Nat) : decide ((c.toNat : Int) = (n : Int)) = decide (c.toNat = n) := decide_eq_decide.2 (by omega)
theorem isF_eq (c : UInt8) : (bif bif decide ((c.toNat : Int) = 35) then true else decide ((c.toNat : Int) = 62) then true else decide ((c.toNat : Int) = 45)) = isF c :=
  bool_of_beq (u8_all (fun c => (bif bif decide ((c.toNat : Int) = 35) then true else decide ((c.toNat : Int) = 62) then true else decide ((c.toNat : Int) = 45)) == isF c) (by decide +kernel) c)
theorem begR (s : List UInt8) (hs : s.length ≤ 1048576) (h0 : s ≠ []) : RUN E 53 [.str s] = some [.str (beg s)] := by
  have hlen : 0 < s.length := List.length_pos_iff.2 h0
  have fin : ∀ i : Nat, i ≤ s.length → i = digs s → (cond (inb 0 (List.length s))
        (cond (bif inb 0 (List.length s) then true else bif bif decide ((↑(UInt8.toNat (List.getD s 0 0)) : Int) = 35) then false else true then false else true)
          (cond (bif inb 0 (List.length s) then true else bif bif bif decide ((↑(UInt8.toNat (List.getD s 0 0)) : Int) = 35) then true else decide ((↑(UInt8.toNat (List.getD s 0 0)) : Int) = 62) then false else true then false else true)
            (cond (bif bif decide ((↑(UInt8.toNat (List.getD s 0 0)) : Int) = 35) then true else decide ((↑(UInt8.toNat (List.getD s 0 0)) : Int) = 62) then true else decide ((↑(UInt8.toNat (List.getD s 0 0)) : Int) = 45))
              (opt (RUN E 54 [D.str s, D.str (([92, 96, 42, 91, 93, 33, 124] : List UInt8))]) fun ρ7 =>
                cond (decide (List.length (([92] : List UInt8)) + List.length (D.toStr (List.getD ρ7 0 D.no)) ≤ lim))
                  (some [D.str (([92] : List UInt8) ++ D.toStr (List.getD ρ7 0 D.no))])
                  (none))
              (cond (bif inb (i : Int) (List.length s) then true else bif bif bif bif decide (1 ≤ (i : Int)) then decide ((i : Int) ≤ 4) else false then decide ((i : Int) < (↑(List.length s) : Int)) else false then true else false then false else true)
                (cond (bif bif bif decide (1 ≤ (i : Int)) then decide ((i : Int) ≤ 4) else false then decide ((i : Int) < (↑(List.length s) : Int)) else false then decide ((↑(UInt8.toNat (List.getD s (Int.toNat (i : Int)) 0)) : Int) = 46) else false)
                  (cond (cutOk (List.length s) none (some (i : Int)))
                    (cond (decide (List.length (cutL s none (some (i : Int))) + List.length (([92] : List UInt8)) ≤ lim))
                      (cond (cutOk (List.length s) (some (i : Int)) none)
                        (opt (RUN E 54 [D.str (cutL s (some (i : Int)) none), D.str (([92, 96, 42, 91, 93, 33, 124] : List UInt8))]) fun ρ12 =>
                          cond (decide (List.length (cutL s none (some (i : Int)) ++ ([92] : List UInt8)) + List.length (D.toStr (List.getD ρ12 0 D.no)) ≤ lim))
                            (some [D.str (cutL s none (some (i : Int)) ++ ([92] : List UInt8) ++ D.toStr (List.getD ρ12 0 D.no))])
                            (none))
                        (none))
                      (none))
                    (none))
                  (opt (RUN E 54 [D.str s, D.str (([92, 96, 42, 91, 93, 33, 124] : List UInt8))]) fun ρ9 =>
                    some [D.str (D.toStr (List.getD ρ9 0 D.no))]))
                (none)))
            (none))
          (none))
        (none)) = some [.str (beg s)] := by
    intro i hi hi0
    have hSS : ([92, 96, 42, 91, 93, 33, 124] : List UInt8) = SS := rfl
    have e1 := escR s SS hs
    have e2 := escR (s.drop i) SS (by simp; omega)
    have l1 := esc_len SS s
    have l2 := esc_len SS (s.drop i)
    simp only [List.length_drop] at l2
    have q1 : decide ((1 : Int) ≤ (i : Int)) = decide (1 ≤ digs s) := by rw [hi0]; exact decide_eq_decide.2 (by omega)
    have q2 : decide ((i : Int) ≤ 4) = decide (digs s ≤ 4) := by rw [hi0]; exact decide_eq_decide.2 (by omega)
    have q3 : decide ((i : Int) < (s.length : Int)) = decide (digs s < s.length) := by rw [hi0]; exact decide_eq_decide.2 (by omega)
    have q4 : decide (((s.getD i 0).toNat : Int) = 46) = decide ((s.getD (digs s) 0).toNat = 46) := by rw [hi0]; exact cI _ 46
    rw [isF_eq, Int.toNat_natCast, q4, cut_hi, cut_lo, cutOk_hi (by omega), cutOk_lo (by omega), hSS, e1, e2, q1, q2, q3]
    simp only [inb_nat (i := 0) hlen, show inb (0 : Int) s.length = true from inb_nat (i := 0) hlen, cond_true, opt_s, List.getD_cons_zero, tS]
    rw [lim_t (n := ([92] : List UInt8).length) (m := (esc SS s).length) (by simp; omega), lim_t (n := (s.take i).length) (m := ([92] : List UInt8).length) (by simp; omega), lim_t (n := (s.take i ++ ([92] : List UInt8)).length) (m := (esc SS (s.drop i)).length) (by simp; omega)]
    have hb : ∀ X : Bool, (bif inb (i : Int) s.length then true else bif bif bif bif decide (1 ≤ digs s) then decide (digs s ≤ 4) else false then decide (digs s < s.length) else false then true else false then false else true) = true := by
      intro _
      by_cases h : i < s.length
      · rw [inb_nat h]; rfl
      · rw [inb_f (.inr (by omega)), dec_f (p := digs s < s.length) (by omega)]
        cases decide (1 ≤ digs s) <;> cases decide (digs s ≤ 4) <;> rfl
    rw [hb true]
    simp only [cond_true]
    unfold beg dot
    cases hF : isF (s.getD 0 0) with
    | true => simp
    | false =>
      simp only [cond_false]
      rw [← hi0]
      cases decide (1 ≤ i) <;> cases decide (i ≤ 4) <;> cases decide (i < s.length) <;> cases decide ((s.getD i 0).toNat = 46) <;> simp
  have key : ∀ n i : Nat, i + n = s.length → i + digs (s.drop i) = digs s → L53a s i = some [.str (beg s)] := by
    intro n
    induction n with
    | zero =>
      intro i hi hd
      have : i = s.length := by omega
      rw [round53a, gd, dec_f (p := (i : Int) < (s.length : Int)) (by omega)]
      simp only [cond_true, cond_false, opt_s]
      have f := fin i (by omega) (by rw [← hd, digs_stop (.inl this) (by omega)]; rfl)
      rw [dec_f (p := (i : Int) < (s.length : Int)) (by omega)] at f
      exact f
    | succ n ih =>
      intro i hi hd
      have hil : i < s.length := by omega
      rw [round53a, gd, dec_t (p := (i : Int) < (s.length : Int)) (by omega), nxt (by omega), Int.toNat_natCast, r84]
      simp only [cond_true, opt_s, List.getD_cons_zero, tB]
      cases hg : isDg (s.getD i 0) with
      | true =>
        simp only [cond_true]
        exact ih (i + 1) (by omega) (by rw [← hd, digs_drop hil hg]; omega)
      | false =>
        simp only [cond_false]
        have f := fin i (by omega) (by rw [← hd, digs_stop (.inr hg) (by omega)]; rfl)
        rw [dec_t (p := (i : Int) < (s.length : Int)) (by omega), Int.toNat_natCast] at f
        exact f
  have := key s.length 0 (by omega) (by simp)
  rw [enter53]; exact this
end prt
end Go.Proofs.YtlmfiknfkgdbpaaGreatDoor.pr

namespace Go.Proofs.YtlmfiknfkgdbpaaGreatDoor.pr
open Go.Proofs.YtlmfiknfkgdbpaaGreatDoor.DS
namespace prt
open check chk

/-! ### A string, at the beginning of a line or not: the program -/
theorem r97 (o s : List UInt8) (a b : Bool) (h : o.length + s.length ≤ 68719476736) : RUN E 97 [.agg [.list (bytesD o), .bool a, .bool b], .str s] = some [.agg [.list (bytesD (o ++ s)), .bool a, .bool false]] := by
  rw [enter97, fit_t (by rw [bytesD_len, bytesD_len]; exact h), ← bytesD_append]; rfl
theorem SS_dot {r : List UInt8} {c : UInt8} (h : c.toNat = 46) : esc SS (c :: r) = 46 :: esc SS r := by
  have : c = 46 := by
    have := congrArg UInt8.ofNat h
    simpa using this
  subst this
  rw [esc_cons]; rfl
theorem SS_isF {r : List UInt8} {c : UInt8} (h : isF c = true) : esc SS (c :: r) = c :: esc SS r := by
  have h2 : (!isF c || !SS.contains c) = true := u8_all (fun c => !isF c || !SS.contains c) (by decide +kernel) c
  rw [h] at h2
  rw [esc_cons]
  cases hc : SS.contains c with
  | true => rw [hc] at h2; cases h2
  | false => rfl
theorem strP (o s : List UInt8) (a st : Bool) (hs : s.length ≤ 1048576) (ho : o.length ≤ 1073741824) (h0 : s ≠ []) :
    RUN E 96 [.agg [.list (bytesD o), .bool a, .bool st], .str s] = some [.agg [.list (bytesD (o ++ (if st then beg s else esc SS s))), .bool a, .bool false]] := by
  have hSS : ([92, 96, 42, 91, 93, 33, 124] : List UInt8) = SS := rfl
  have e1 := escP s SS hs
  have l1 := esc_len SS s
  have hlen : 0 < s.length := List.length_pos_iff.2 h0
  rw [enter96, hSS, e1]
  cases st with
  | false =>
    simp only [cond_false, opt_s, List.getD_cons_zero, tS, List.nil_append]
    rw [lim_t (n := ([] : List UInt8).length) (m := (esc SS s).length) (by simp; omega), r97 _ _ _ _ (by omega)]
    rfl
  | true =>
    simp only [cond_true, if_true]
    have fin : ∀ i : Nat, i ≤ s.length → i = min (digs s) 4 → ∀ X : R, X = (cond (inb 0 (List.length s))
        (opt (RUN E 85 [D.str (([35, 62, 45] : List UInt8)), D.int (↑(UInt8.toNat (List.getD s 0 0)) : Int)]) fun ρ4 =>
          cond (decide (0 ≤ D.toInt (List.getD ρ4 0 D.no)))
            (cond (cutOk (List.length s) none (some 1))
              (cond (decide (List.length (([92] : List UInt8)) + List.length (cutL s none (some 1)) ≤ lim))
                (cond (cutOk (List.length s) (some 1) none)
                  (opt (RUN E 100 [D.str (cutL s (some 1) none), D.str SS]) fun ρ9 =>
                    cond (decide (List.length (([92] : List UInt8) ++ cutL s none (some 1)) + List.length (D.toStr (List.getD ρ9 0 D.no)) ≤ lim))
                      (opt (RUN E 97 [D.agg [D.list (bytesD o), D.bool a, D.bool true], D.str (([92] : List UInt8) ++ cutL s none (some 1) ++ D.toStr (List.getD ρ9 0 D.no))]) fun ρ11 =>
                        some [D.agg [D.list (D.toList (D.cell (List.getD ρ11 0 D.no) 0)), D.bool (D.toBool (D.cell (List.getD ρ11 0 D.no) 1)), D.bool (D.toBool (D.cell (List.getD ρ11 0 D.no) 2))]])
                      (none))
                  (none))
                (none))
              (none))
            (cond (bif inb (i : Int) (List.length s) then true else bif bif bif decide (0 < (i : Int)) then decide ((i : Int) < (↑(List.length s) : Int)) else false then true else false then false else true)
              (cond (bif bif decide (0 < (i : Int)) then decide ((i : Int) < (↑(List.length s) : Int)) else false then decide ((↑(UInt8.toNat (List.getD s (Int.toNat (i : Int)) 0)) : Int) = 46) else false)
                (cond (cutOk (List.length s) none (some (i : Int)))
                  (cond (decide (List.length (cutL s none (some (i : Int))) + List.length (([92, 46] : List UInt8)) ≤ lim))
                    (cond (cutOk (List.length s) (some (IntKind.wrap IntKind.i64 ((i : Int) + 1))) none)
                      (opt (RUN E 100 [D.str (cutL s (some (IntKind.wrap IntKind.i64 ((i : Int) + 1))) none), D.str SS]) fun ρ11 =>
                        cond (decide (List.length (cutL s none (some (i : Int)) ++ ([92, 46] : List UInt8)) + List.length (D.toStr (List.getD ρ11 0 D.no)) ≤ lim))
                          (opt (RUN E 97 [D.agg [D.list (bytesD o), D.bool a, D.bool true], D.str (cutL s none (some (i : Int)) ++ ([92, 46] : List UInt8) ++ D.toStr (List.getD ρ11 0 D.no))]) fun ρ13 =>
                            some [D.agg [D.list (D.toList (D.cell (List.getD ρ13 0 D.no) 0)), D.bool (D.toBool (D.cell (List.getD ρ13 0 D.no) 1)), D.bool (D.toBool (D.cell (List.getD ρ13 0 D.no) 2))]])
                          (none))
                      (none))
                    (none))
                  (none))
                (opt (RUN E 100 [D.str s, D.str SS]) fun ρ8 =>
                  cond (decide (List.length ([] : List UInt8) + List.length (D.toStr (List.getD ρ8 0 D.no)) ≤ lim))
                    (opt (RUN E 97 [D.agg [D.list (bytesD o), D.bool a, D.bool true], D.str (([] : List UInt8) ++ D.toStr (List.getD ρ8 0 D.no))]) fun ρ10 =>
                      some [D.agg [D.list (D.toList (D.cell (List.getD ρ10 0 D.no) 0)), D.bool (D.toBool (D.cell (List.getD ρ10 0 D.no) 1)), D.bool (D.toBool (D.cell (List.getD ρ10 0 D.no) 2))]])
                    (none)))
              (none)))
        (none)) → X = some [.agg [.list (bytesD (o ++ beg s)), .bool a, .bool false]] := by
      intro i hi hi0 X hX
      rw [hX]
      have hF : decide (0 ≤ Lib.indexByte [35, 62, 45] (s.getD 0 0)) = isF (s.getD 0 0) := idx_has _ _
      rw [show inb (0 : Int) s.length = true from inb_nat (i := 0) hlen, r85, e1]
      simp only [cond_true, opt_s, List.getD_cons_zero, tI, hF, tS, List.nil_append]
      cases hf : isF (s.getD 0 0) with
      | true =>
        simp only [cond_true]
        have ed : RUN E 100 [.str (s.drop 1), .str SS] = some [.str (esc SS (s.drop 1))] := escP (s.drop 1) SS (by simp; omega)
        have ld := esc_len SS (s.drop 1)
        simp only [List.length_drop] at ld
        rw [show cutOk s.length none (some 1) = true from cutOk_hi (k := 1) (by omega), show cutOk s.length (some 1) none = true from cutOk_lo (i := 1) (by omega), show cutL s none (some 1) = s.take 1 from rfl, show cutL s (some 1) none = s.drop 1 from rfl, ed,
          lim_t (n := ([92] : List UInt8).length) (m := (s.take 1).length) (by simp; omega)]
        simp only [cond_true, opt_s, List.getD_cons_zero, tS]
        rw [lim_t (n := (([92] : List UInt8) ++ s.take 1).length) (m := (esc SS (s.drop 1)).length) (by simp only [List.length_append, List.length_cons, List.length_nil, List.length_take]; omega), r97 _ _ _ _ (by simp only [List.length_append, List.length_cons, List.length_nil, List.length_take]; omega)]
        have hb : beg s = [92] ++ s.take 1 ++ esc SS (s.drop 1) := by
          unfold beg
          rw [hf, if_pos rfl]
          cases s with
          | nil => exact absurd rfl h0
          | cons c r => rw [SS_isF (by simpa using hf)]; rfl
        rw [hb]; rfl
      | false =>
        simp only [cond_false]
        have hgd : (bif inb (i : Int) s.length then true else bif bif bif decide ((0 : Int) < (i : Int)) then decide ((i : Int) < (s.length : Int)) else false then true else false then false else true) = true := by
          by_cases h : i < s.length
          · rw [inb_nat h]; rfl
          · rw [inb_f (.inr (by omega)), dec_f (p := (i : Int) < (s.length : Int)) (by omega)]
            cases decide ((0 : Int) < (i : Int)) <;> rfl
        rw [hgd]
        simp only [cond_true, Int.toNat_natCast]
        have hdot : (bif bif decide ((0 : Int) < (i : Int)) then decide ((i : Int) < (s.length : Int)) else false then decide (((s.getD i 0).toNat : Int) = 46) else false) = dot s := by
          unfold dot
          have c46 : decide (((s.getD i 0).toNat : Int) = 46) = decide ((s.getD i 0).toNat = 46) := cI _ 46
          rw [c46]
          by_cases h4 : digs s ≤ 4
          · have : i = digs s := by omega
            rw [← this, dec_t (p := i ≤ 4) (by omega), show decide ((0 : Int) < (i : Int)) = decide (1 ≤ i) from decide_eq_decide.2 (by omega), show decide ((i : Int) < (s.length : Int)) = decide (i < s.length) from decide_eq_decide.2 (by omega)]
            cases decide (1 ≤ i) <;> cases decide (i < s.length) <;> cases decide ((s.getD i 0).toNat = 46) <;> rfl
          · have hi4 : i = 4 := by omega
            have hd := digs_all s i (by omega)
            have h46 : decide ((s.getD i 0).toNat = 46) = false := by
              refine dec_f fun h => ?_
              unfold isDg at hd
              rw [h] at hd
              simp at hd
            rw [h46, dec_f h4]
            cases decide ((0 : Int) < (i : Int)) <;> cases decide ((i : Int) < (s.length : Int)) <;> cases decide (1 ≤ digs s) <;> rfl
        rw [hdot]
        cases hd : dot s with
        | true =>
          have hd' := hd
          unfold dot at hd
          simp only [Bool.and_eq_true, decide_eq_true_eq] at hd
          obtain ⟨⟨⟨d1, d2⟩, d3⟩, d4⟩ := hd
          have hie : i = digs s := by omega
          simp only [cond_true]
          rw [nxt (by omega), cut_hi, cut_lo, cutOk_hi (by omega), cutOk_lo (by omega), escP (s.drop (i + 1)) SS (by simp; omega), lim_t (n := (s.take i).length) (m := ([92, 46] : List UInt8).length) (by simp; omega)]
          have ld := esc_len SS (s.drop (i + 1))
          simp only [List.length_drop] at ld
          simp only [cond_true, opt_s, List.getD_cons_zero, tS]
          rw [lim_t (n := (s.take i ++ ([92, 46] : List UInt8)).length) (m := (esc SS (s.drop (i + 1))).length) (by simp; omega), r97 _ _ _ _ (by simp; omega)]
          have hb : beg s = s.take i ++ [92, 46] ++ esc SS (s.drop (i + 1)) := by
            unfold beg
            rw [hf, hd']
            simp only [if_true]
            rw [← hie, drop_cons 0 (by omega : i < s.length), SS_dot (by rw [hie]; exact d4)]
            simp
          rw [hb]; rfl
        | false =>
          simp only [cond_false]
          rw [lim_t (n := ([] : List UInt8).length) (m := (esc SS s).length) (by simp; omega), r97 _ _ _ _ (by omega)]
          have hb : beg s = esc SS s := by unfold beg; rw [hf, hd]; simp
          rw [hb]; rfl
    have key : ∀ n i : Nat, i + n = 4 → i ≤ s.length → i + digs (s.drop i) = digs s → L96a s [] i a true (bytesD o) = some [.agg [.list (bytesD (o ++ beg s)), .bool a, .bool false]] := by
      have hgd : ∀ i : Nat, (bif inb (i : Int) s.length then true else bif bif bif decide ((i : Int) < (s.length : Int)) then decide ((i : Int) < 4) else false then true else false then false else true) = true := by
        intro i
        by_cases h : i < s.length
        · rw [inb_nat h]; rfl
        · rw [inb_f (.inr (by omega)), dec_f (p := (i : Int) < (s.length : Int)) (by omega)]; rfl
      intro n
      induction n with
      | zero =>
        intro i hi hil hd
        rw [round96a, hgd, dec_f (p := (i : Int) < 4) (by omega), hSS]
        have hc : (bif decide ((i : Int) < (s.length : Int)) then false else false) = false := by cases decide ((i : Int) < (s.length : Int)) <;> rfl
        rw [hc]
        simp only [cond_true, cond_false]
        exact fin i hil (by omega) _ rfl
      | succ n ih =>
        intro i hi hil hd
        by_cases hlt : i < s.length
        · rw [round96a, hgd, dec_t (p := (i : Int) < (s.length : Int)) (by omega), dec_t (p := (i : Int) < 4) (by omega), hSS, Int.toNat_natCast, r115]
          simp only [cond_true, opt_s, List.getD_cons_zero, tB]
          cases hg : isDg (s.getD i 0) with
          | true =>
            simp only [cond_true]
            rw [nxt (by omega)]
            exact ih (i + 1) (by omega) (by omega) (by rw [← hd, digs_drop hlt hg]; omega)
          | false =>
            simp only [cond_false]
            have h0' := digs_stop (s := s) (i := i) (.inr hg) (by omega)
            have f := fin i hil (by omega) _ rfl
            rw [dec_t (p := (i : Int) < (s.length : Int)) (by omega), Int.toNat_natCast] at f
            exact f
        · rw [round96a, hgd, dec_f (p := (i : Int) < (s.length : Int)) (by omega), hSS]
          simp only [cond_true, cond_false]
          have h0' := digs_stop (s := s) (i := i) (.inl (by omega)) (by omega)
          have f := fin i hil (by omega) _ rfl
          rw [dec_f (p := (i : Int) < (s.length : Int)) (by omega)] at f
          exact f
    exact key 4 0 rfl (by omega) (by simp)
end prt
end Go.Proofs.YtlmfiknfkgdbpaaGreatDoor.pr

namespace Go.Proofs.YtlmfiknfkgdbpaaGreatDoor.pr
open Go.Proofs.YtlmfiknfkgdbpaaGreatDoor.DS
namespace prt
open check chk

theorem suf_last (s : List UInt8) : hasSuf s [10] = decide (s.getLast? = some 10) := by
  rcases List.eq_nil_or_concat s with rfl | ⟨a, c, rfl⟩
  · rfl
  · unfold hasSuf
    simp
def AT (at0 : Bool) (o : List UInt8) : Bool := (at0 && decide (o = [])) || hasSuf o [10]
theorem AT_app (at0 : Bool) (o : List UInt8) {q : List UInt8} (h : q ≠ []) : AT at0 (o ++ q) = decide (q.getLast? = some 10) := by
  unfold AT
  rcases List.eq_nil_or_concat q with rfl | ⟨a, c, rfl⟩
  · exact absurd rfl h
  · rw [List.concat_eq_append, suf_last, dec_f (p := o ++ (a ++ [c]) = []) (by simp), ← List.append_assoc]
    simp
def TG (d ti : List UInt8) : List UInt8 := if ti = [] then d else d ++ ([32, 34] ++ ti ++ [34])
theorem TG_len (d ti : List UInt8) : (TG d ti).length ≤ d.length + ti.length + 3 := by
  unfold TG; split <;> first | omega | (simp only [List.length_append, List.length_cons, List.length_nil]; omega)
theorem TG_mem {d ti : List UInt8} {x : UInt8} (h : x ∈ TG d ti) : x ∈ d ∨ x = 32 ∨ x = 34 ∨ x ∈ ti := by
  unfold TG at h
  split at h
  · exact .inl h
  · simp only [List.mem_append, List.mem_cons, List.not_mem_nil, or_false] at h
    rcases h with h | (h | h) | h
    · exact .inl h
    · rcases h with h | h
      · exact .inr (.inl h)
      · exact .inr (.inr (.inl h))
    · exact .inr (.inr (.inr h))
    · exact .inr (.inr (.inl h))
theorem r99 (o : List UInt8) (a b : Bool) {k l : Int} {t d ti : List UInt8} {ks : List D} (h : o.length + d.length + ti.length ≤ 4294967296) :
    RUN E 99 [.agg [.list (bytesD o), .bool a, .bool b], .agg [.int k, .int l, .str t, .str d, .str ti, .list ks]] = some [.agg [.list (bytesD (o ++ ([93, 40] ++ TG d ti ++ [41]))), .bool a, .bool false]] := by
  rw [enter99]
  simp only [D.cell, D.cells, List.getD_cons_zero, List.getD_cons_succ, tS]
  rw [lim_t (n := ([93, 40] : List UInt8).length) (m := d.length) (by simp; omega), r97 o ([93, 40] ++ d) a b (by simp; omega)]
  simp only [cond_true, opt_s, List.getD_cons_zero, List.getD_cons_succ, D.cells, tL, tB]
  unfold TG
  by_cases ht : ti = []
  · rw [dec_t ht, if_pos ht]
    simp only [cond_true, cond_false]
    rw [r97 _ _ _ _ (by simp; omega)]
    simp [opt_s, D.cells, tL, tB]
  · rw [dec_f ht, if_neg ht]
    simp only [cond_true, cond_false]
    rw [lim_t (n := ([32, 34] : List UInt8).length) (m := ti.length) (by simp; omega), lim_t (n := (([32, 34] : List UInt8) ++ ti).length) (m := ([34] : List UInt8).length) (by simp; omega), r97 _ _ _ _ (by simp; omega)]
    simp only [cond_true, opt_s, List.getD_cons_zero, List.getD_cons_succ, D.cells, tL, tB]
    rw [r97 _ _ _ _ (by simp; omega)]
    simp [opt_s, D.cells, tL, tB]

/-! ### What goodness says -/
theorem elem77 {k l : Int} {t d ti : List UInt8} {ks : List D} (hN : AllN ks) (hm : dmass (.agg [.int k, .int l, .str t, .str d, .str ti, .list ks]) ≤ 1048576) {p : Int} (hp : par p) (v1 : RUN E 25 [.agg [.int k, .int l, .str t, .str d, .str ti, .list ks], .int p] = some [.int 0]) (v2 : RUN E 13 [.list ks, .int k] = some [.int 0]) (e s li : Bool) (kind : Int) :
    ∃ c' : Bool, RUN E 77 [.agg [.int k, .int l, .str t, .str d, .str ti, .list ks], .agg [.bool e, .bool s, .bool li, .bool (decide (kind = 10)), .bool (decide (kind = 2))]] = some [.bool c'] := by
  obtain ⟨o1, o2, o3, o4⟩ := okInl hp v1
  have h1 : dmass.dmAll ks + 1 ≤ dmass (.agg [.int k, .int l, .str t, .str d, .str ti, .list ks]) := by simp only [dmass, dmass.dmAll]; omega
  have h2 : ks.length ≤ dmass.dmAll ks := len_le hN
  obtain ⟨c', k1, _⟩ := inl (x := .agg [.int k, .int l, .str t, .str d, .str ti, .list ks]) (k := k) rfl o1 o2 hm o3 o4 (ks := ks) rfl (by omega) (fun hk => below ks hN (by omega) k (by
    rcases hk with rfl | rfl | rfl
    · exact .inr (.inr (.inr (.inl rfl)))
    · exact .inr (.inr (.inr (.inr (.inl rfl))))
    · exact .inr (.inr (.inr (.inr (.inr rfl))))) v2) e s li kind
  exact ⟨c', k1⟩
theorem good {ks : List D} (hN : AllN ks) (hm : dmass.dmAll ks ≤ 1048576) {p : Int} (hp : par p) (hv : RUN E 13 [.list ks, .int p] = some [.int 0]) {e s li : Bool} {kind : Int}
    (h : RUN E 46 [.list ks, .int p, .agg [.bool e, .bool s, .bool li, .bool (decide (kind = 10)), .bool (decide (kind = 2))]] = some [.bool true]) :
    ∀ j, j < ks.length → (brk (D.toInt (D.cell (ks.getD j .no) 0)) = true → kind = 2) ∧ RUN E 77 [ks.getD j .no, .agg [.bool e, .bool s, .bool li, .bool (decide (kind = 10)), .bool (decide (kind = 2))]] = some [.bool true] := by
  have hlen : ks.length ≤ 1048576 := Nat.le_trans (len_le hN) hm
  have hval := valid hN hm hv
  have hpair : ∀ i, i < ks.length → ∃ q : Bool, RUN E 94 [ks.getD (i - 1) .no, ks.getD i .no] = some [.bool q] ∧ RUN E 76 [ks.getD (i - 1) .no, ks.getD i .no] = some [.bool q] := fun i hi =>
    pairs _ _ (Nat.le_trans (mass_getD ks _) hm) (Nat.le_trans (mass_getD ks _) hm)
  have hel : ∀ i, i < ks.length → ∃ c' : Bool, RUN E 77 [ks.getD i .no, .agg [.bool e, .bool s, .bool li, .bool (decide (kind = 10)), .bool (decide (kind = 2))]] = some [.bool c'] := by
    intro i hi
    obtain ⟨v1, v2⟩ := hval i hi
    have hg : ks.getD i .no = ks[i] := getD_eq ks i .no hi
    have hx := hN ks[i] (List.getElem_mem hi)
    have hdm : dmass ks[i] ≤ 1048576 := by rw [← hg]; exact Nat.le_trans (mass_getD ks i) hm
    rw [hg]
    generalize ks[i] = x at *
    cases hx with
    | mk k v t d ti kk hkk => exact elem77 hkk hdm hp v1 v2 e s li kind
  have loop : ∀ n i : Nat, i + n = ks.length → L46a ks p ks (ks.length : Int) i (.agg [.bool e, .bool s, .bool li, .bool (decide (kind = 10)), .bool (decide (kind = 2))]) = some [.bool true] →
      ∀ j, i ≤ j → j < ks.length → (brk (D.toInt (D.cell (ks.getD j .no) 0)) = true → kind = 2) ∧ RUN E 77 [ks.getD j .no, .agg [.bool e, .bool s, .bool li, .bool (decide (kind = 10)), .bool (decide (kind = 2))]] = some [.bool true] := by
    intro n
    induction n with
    | zero => intro i hi _ j h1 h2; omega
    | succ n ih =>
      intro i hi h j h1 h2
      have hil : i < ks.length := by omega
      obtain ⟨c', k1⟩ := hel i hil
      obtain ⟨q, q1, q2⟩ := hpair i hil
      obtain ⟨pr, pr0, pr2⟩ : ∃ pr : Bool, (i = 0 → pr = true) ∧ (i ≠ 0 → RUN E 76 [ks.getD (i - 1) .no, ks.getD i .no] = some [.bool pr]) := by
        by_cases h0 : i = 0
        · exact ⟨true, fun _ => rfl, fun h => absurd h0 h⟩
        · exact ⟨q, fun h => absurd h h0, fun _ => q2⟩
      rw [stepR (p := p) hil hlen pr0 pr2 k1, c4, tB] at h
      generalize hA : (((decide (i = 0) || decide (i + 1 = ks.length)) && !ok p (ks.getD i .no)) || (brk (D.toInt (D.cell (ks.getD i .no) 0)) && !decide (kind = 2))) = A at h
      cases A with
      | true => cases h
      | false =>
        cases pr with
        | false => cases h
        | true =>
          cases c' with
          | false => cases h
          | true =>
            simp only [cond_true, cond_false] at h
            by_cases hij : j = i
            · subst hij
              refine ⟨fun hb => ?_, k1⟩
              rw [hb] at hA
              simp only [Bool.true_and, Bool.or_eq_false_iff, Bool.not_eq_false', decide_eq_true_eq] at hA
              exact hA.2
            · exact ih (i + 1) (by omega) h j (by omega) h2
  rw [enter46] at h
  intro j hj
  exact loop ks.length 0 (by omega) h j (by omega) hj
theorem good77 {k l : Int} {t d ti : List UInt8} {ks : List D} (hm : dmass (.agg [.int k, .int l, .str t, .str d, .str ti, .list ks]) ≤ 1048576) (hB : k = 14 ∨ k = 15 ∨ k = 17 → Below k ks) {e s li : Bool} {kind : Int}
    (h : RUN E 77 [.agg [.int k, .int l, .str t, .str d, .str ti, .list ks], .agg [.bool e, .bool s, .bool li, .bool (decide (kind = 10)), .bool (decide (kind = 2))]] = some [.bool true]) :
    (k = 11 → t ≠ []) ∧ (k = 14 ∨ k = 15 ∨ k = 17 → ks ≠ [] ∧ ∃ e s li, RUN E 46 [.list ks, .int k, .agg [.bool e, .bool s, .bool li, .bool (decide (kind = 10)), .bool (decide (kind = 2))]] = some [.bool true]) := by
  simp only [dmass, dmass.dmAll] at hm
  rw [enter77] at h
  simp only [D.cell, D.cells, List.getD_cons_zero, List.getD_cons_succ, tI, tS, tL, tB] at h
  rw [lim_t (n := t.length) (m := d.length) (by omega), lim_t (n := (t ++ d).length) (m := ti.length) (by rw [List.length_append]; omega), r67] at h
  simp only [cond_true, opt_s, List.getD_cons_zero, tB] at h
  have h46 : ∀ {c : Bool} {e s li : Bool} {F : Bool → Bool}, (k = 14 ∨ k = 15 ∨ k = 17) → (opt (cond (bif c then true else false) (RUN E 46 [.list ks, .int k, .agg [.bool e, .bool s, .bool li, .bool (decide (kind = 10)), .bool (decide (kind = 2))]]) (some [])) fun r => some [D.bool (bif c then D.toBool (List.getD r 0 D.no) else false)]) = some [.bool true] →
      c = true ∧ RUN E 46 [.list ks, .int k, .agg [.bool e, .bool s, .bool li, .bool (decide (kind = 10)), .bool (decide (kind = 2))]] = some [.bool true] := by
    intro c e s li F hk hh
    obtain ⟨_, b', _, hb, _⟩ := hB hk e s li kind
    rw [hb] at hh ⊢
    cases c with
    | false => cases hh
    | true =>
      refine ⟨rfl, ?_⟩
      cases b' with
      | true => rfl
      | false => cases hh
  have hne : decide ((0 : Int) < (ks.length : Int)) = true → ks ≠ [] := by
    intro h e
    subst e
    simp at h
  refine ⟨fun hk e => ?_, fun hk => ?_⟩
  · subst hk e
    cases h
  · have hk' := hk
    rcases hk with rfl | rfl | rfl
    · replace h : (opt (cond (bif bif bif e then false else true then decide ((0 : Int) < (ks.length : Int)) else false then true else false) (RUN E 46 [.list ks, .int 14, .agg [.bool true, .bool s, .bool li, .bool (decide (kind = 10)), .bool (decide (kind = 2))]]) (some [])) fun r => some [D.bool (bif bif !e then decide ((0 : Int) < (ks.length : Int)) else false then D.toBool (List.getD r 0 D.no) else false)]) = some [.bool true] := h
      cases e with
      | true => cases h
      | false =>
        obtain ⟨c1, c2⟩ := h46 (F := id) hk' h
        exact ⟨hne c1, _, _, _, c2⟩
    · replace h : (opt (cond (bif bif bif s then false else true then decide ((0 : Int) < (ks.length : Int)) else false then true else false) (RUN E 46 [.list ks, .int 15, .agg [.bool e, .bool true, .bool li, .bool (decide (kind = 10)), .bool (decide (kind = 2))]]) (some [])) fun r => some [D.bool (bif bif !s then decide ((0 : Int) < (ks.length : Int)) else false then D.toBool (List.getD r 0 D.no) else false)]) = some [.bool true] := h
      cases s with
      | true => cases h
      | false =>
        obtain ⟨c1, c2⟩ := h46 (F := id) hk' h
        exact ⟨hne c1, _, _, _, c2⟩
    · cases li with
      | true => cases h
      | false =>
        have hx := r113 (x := .agg [.int 17, .int l, .str t, .str d, .str ti, .list ks]) (by simp only [dmass, dmass.dmAll]; omega)
        rw [show ∀ (A B : R) (F : List D → R), opt (cond (bif bif false then false else true then true else false) A B) F = opt A F from fun _ _ _ => rfl, hx] at h
        simp only [opt_s, List.getD_cons_zero, tB] at h
        generalize (!decide (D.toStr (D.cell (.agg [.int 17, .int l, .str t, .str d, .str ti, .list ks]) 3) = []) && (D.toStr (D.cell (.agg [.int 17, .int l, .str t, .str d, .str ti, .list ks]) 3)).all inD && (D.toStr (D.cell (.agg [.int 17, .int l, .str t, .str d, .str ti, .list ks]) 4)).all inT) = g at h
        generalize (bif (t ++ d ++ ti).contains 124 then decide (kind = 10) else false) = b at h
        cases g with
        | false => cases b <;> cases decide ((0 : Int) < (ks.length : Int)) <;> cases h
        | true =>
          cases b with
          | true => cases decide ((0 : Int) < (ks.length : Int)) <;> cases h
          | false =>
            obtain ⟨c1, c2⟩ := h46 (c := decide ((0 : Int) < (ks.length : Int))) (F := id) hk' h
            exact ⟨hne c1, _, _, _, c2⟩
end prt
end Go.Proofs.YtlmfiknfkgdbpaaGreatDoor.pr
