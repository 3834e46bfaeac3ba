import Derived.Test.YthbncndefigidaaDxSumsC
set_option linter.unusedVariables false
set_option linter.unusedSimpArgs false
namespace Go.Proofs.Ythbncndefigidaa.ms
open Go.Proofs.Ythbncndefigidaa.DS
namespace check

def noKids (k : Int) : Bool := decide (k = 3 ∨ k = 7 ∨ k = 11 ∨ k = 12 ∨ k = 13 ∨ k = 16 ∨ k = 18)
theorem form_kids {k : Int} (h1 : 1 ≤ k) (h2 : k ≤ 18) {zl zt zd zn nk : Bool} (h : C56 k zl zt zd zn nk = false) (hn : noKids k = true) : nk = false := by
  cases nk with
  | false => rfl
  | true =>
    exfalso
    rcases kcases h1 h2 with g | g | g | g | g | g | g | g | g | g | g | g | g | g | g | g | g | g <;> subst g <;> first | exact absurd hn (by decide) | (cases zl <;> cases zt <;> cases zd <;> cases zn <;> cases h)
theorem okNode {k l : Int} {t d ti : List UInt8} {ks : List D} {p : Int} (h : RUN E 56 [.agg [.int k, .int l, .str t, .str d, .str ti, .list ks], .int p] = some [.int 0]) : 1 ≤ k ∧ k ≤ 18 ∧ (noKids k = true → ks = []) := by
  obtain ⟨b, e1, e2, e3⟩ := perm p k
  rw [enter56] at h
  simp only [D.cell, D.cells, List.getD_cons_zero, List.getD_cons_succ, tI, tS, tL, e1, opt_s, tB] at h
  cases b with
  | false => cases h
  | true =>
    obtain ⟨h1, h2⟩ := e3 rfl
    refine ⟨h1, h2, fun hn => ?_⟩
    simp only [cond_true, cond_false] at h
    change cond (RG k l) (some [D.int 2]) (cond (C56 k (decide (l = 0)) (decide (t = [])) (decide (d = [])) (decide (ti = [])) (decide ((0 : Int) < (ks.length : Int)))) (some [D.int 1]) _) = some [D.int 0] at h
    cases hr : RG k l with
    | true => rw [hr] at h; cases h
    | false =>
      rw [hr] at h
      cases hc : C56 k (decide (l = 0)) (decide (t = [])) (decide (d = [])) (decide (ti = [])) (decide ((0 : Int) < (ks.length : Int))) with
      | true => rw [hc] at h; cases h
      | false =>
        have := form_kids h1 h2 hc hn
        have h0 : ¬ (0 : Int) < (ks.length : Int) := by simpa using this
        cases ks with
        | nil => rfl
        | cons _ _ => simp at h0
theorem valid {l : List D} (hN : AllN l) (hb : dmass.dmAll l ≤ 1048576) {p : Int} (h : RUN E 39 [.list l, .int p] = some [.int 0]) : ∀ j (hj : j < l.length), RUN E 56 [l[j], .int p] = some [.int 0] ∧ RUN E 39 [.list (kidsOf l[j]), .int (D.toInt (D.cell l[j] 0))] = some [.int 0] := by
  have hlen := len_le hN
  have loop : ∀ r i : Nat, i + r = l.length → L39a p l l.length i = some [.int 0] → ∀ j (hj : j < l.length), i ≤ j → RUN E 56 [l[j], .int p] = some [.int 0] ∧ RUN E 39 [.list (kidsOf l[j]), .int (D.toInt (D.cell l[j] 0))] = some [.int 0] := by
    intro r
    induction r with
    | zero => intro i hi _ j hj hij; omega
    | succ r ih =>
      intro i hi h j hj hij
      have hil : i < l.length := by omega
      have hx := hN l[i] (List.getElem_mem hil)
      have hdm := drop_mass hil
      have hdl := drop_le l i
      have hmx := mass_nd hx
      have hg : l.getD i .no = l[i] := getD_eq l i .no hil
      have hki : D.toList (D.cell l[i] 5) = kidsOf l[i] := rfl
      have hnext : IntKind.wrap .i64 ((i : Int) + 1) = ((i + 1 : Nat) : Int) := by rw [wrap_id (by omega) (by omega)]; omega
      obtain ⟨e1, g1, _⟩ := nodeEq2 hx (by omega) p
      obtain ⟨e2, g3, _⟩ := faults (kidsOf l[i]) hx.kids (by omega) (D.toInt (D.cell l[i] 0))
      rw [round39a, dec_t (show (i : Int) < (l.length : Int) by omega), inb_nat hil] at h
      simp only [cond_true, Int.toNat_natCast, hg, hki, g1, g3, opt_s, List.getD_cons_zero, tI, hnext] at h
      by_cases he1 : e1 = 0
      · by_cases he2 : e2 = 0
        · subst he1 he2
          simp only [dec_t, cond_true, cond_false] at h
          by_cases hij' : j = i
          · subst hij'; exact ⟨g1, g3⟩
          · exact ih (i + 1) (by omega) h j hj (by omega)
        · rw [dec_t he1, dec_f he2] at h
          simp only [cond_true, cond_false] at h
          injection h with h; injection h with h; injection h with h; exact absurd h he2
      · rw [dec_f he1] at h
        simp only [cond_true, cond_false] at h
        injection h with h; injection h with h; injection h with h; exact absurd h he1
  intro j hj
  rw [enter39] at h
  exact loop l.length 0 (by omega) h j hj (by omega)

def pre (k : Int) (i : Nat) (t : List UInt8) : List UInt8 := if k = 3 ∨ k = 11 ∨ k = 16 ∨ k = 18 then t else if k = 12 ∨ k = 13 then [32] else if k = 10 then (if 0 < i then [9] else []) else []
def post (k : Int) : List UInt8 := if k = 1 ∨ k = 2 ∨ k = 3 ∨ k = 7 ∨ k = 9 then [10] else []
theorem step20 {l : List D} {i : Nat} (hil : i < l.length) (hlen : l.length ≤ 1048576) {k v : Int} {t d ti : List UInt8} {ks : List D} (hx : l.getD i .no = .agg [.int k, .int v, .str t, .str d, .str ti, .list ks]) (h1 : 1 ≤ k) (h2 : k ≤ 18) {sk : List UInt8} (hk : RUN E 20 [.list ks] = some [.str sk]) (hn : noKids k = true → sk = [])
    {out : List UInt8} (ho : out.length ≤ 4194304) (ht : t.length ≤ 1048576) (hs : sk.length ≤ 4194304) : L20a out l l.length i = L20a (out ++ (pre k i t ++ sk ++ post k)) l l.length ((i + 1 : Nat) : Int) := by
  have hnext : IntKind.wrap .i64 ((i : Int) + 1) = ((i + 1 : Nat) : Int) := by rw [wrap_id (by omega) (by omega)]; omega
  rw [round20a, dec_t (show (i : Int) < (l.length : Int) by omega), inb_nat hil]
  simp only [cond_true, Int.toNat_natCast, hx, D.cell, D.cells, List.getD_cons_zero, List.getD_cons_succ, tI, tS, tL, hk, opt_s, hnext]
  have f1 : out.length + t.length ≤ 68719476736 := by omega
  have f2 : out.length + 1 ≤ 68719476736 := by omega
  have f3 : sk.length + 1 ≤ 68719476736 := by omega
  have f4 : out.length + (sk.length + 1) ≤ 68719476736 := by omega
  have f5 : t.length + 1 ≤ 68719476736 := by omega
  have f6 : out.length + (t.length + 1) ≤ 68719476736 := by omega
  have f7 : out.length + 1 + sk.length ≤ 68719476736 := by omega
  have f8 : out.length + sk.length ≤ 68719476736 := by omega
  rcases kcases h1 h2 with g | g | g | g | g | g | g | g | g | g | g | g | g | g | g | g | g | g <;> subst g
  all_goals first
    | (have := hn (by decide); subst this; simp [pre, post, lim_val, f1, f2, f3, f4, f5, f6, f7, f8]; done)
    | (simp [pre, post, lim_val, f1, f2, f3, f4, f5, f6, f7, f8]; done)
    | (by_cases h0 : 0 < i <;> simp [pre, post, lim_val, h0, f1, f2, f3, f4, f5, f6, f7, f8])

theorem bytesD_app (a b : List UInt8) : bytesD (a ++ b) = bytesD a ++ bytesD b := by simp [bytesD]
theorem bytesD_len (a : List UInt8) : (bytesD a).length = a.length := by simp [bytesD]
theorem fit_t {n m : Nat} (h : n + m ≤ 68719476736) : fitL n m = true := fitL_le h
theorem step40b {l : List D} {i : Nat} (hil : i < l.length) (hlen : l.length ≤ 1048576) {k v : Int} {t d ti : List UInt8} {ks : List D} {sk : List UInt8} (h1 : 1 ≤ k) (h2 : k ≤ 18) {N : Nat} (hN : N ≤ 8388608) (hk : ∀ o : List D, o.length ≤ N → RUN E 40 [.list o, .list ks] = some [.list (o ++ bytesD sk)]) (hs : sk.length ≤ 4194304)
    (o : List D) (ho : o.length ≤ N) : C40b l l.length i o (.agg [.int k, .int v, .str t, .str d, .str ti, .list ks]) = L40a l l.length ((i + 1 : Nat) : Int) (o ++ (bytesD sk ++ bytesD (post k))) := by
  have hnext : IntKind.wrap .i64 ((i : Int) + 1) = ((i + 1 : Nat) : Int) := by rw [wrap_id (by omega) (by omega)]; omega
  have hf : fitL (o ++ bytesD sk).length ([D.int 10]).length = true := fit_t (by rw [List.length_append, bytesD_len]; simp; omega)
  rw [round40b]
  simp only [D.cell, D.cells, List.getD_cons_zero, List.getD_cons_succ, tI, tS, tL, hk o ho, opt_s, hnext, hf, cond_true]
  rcases kcases h1 h2 with g | g | g | g | g | g | g | g | g | g | g | g | g | g | g | g | g | g <;> subst g <;> simp [post, bytesD]
theorem step40 {l : List D} {i : Nat} (hil : i < l.length) (hlen : l.length ≤ 1048576) {k v : Int} {t d ti : List UInt8} {ks : List D} (hx : l.getD i .no = .agg [.int k, .int v, .str t, .str d, .str ti, .list ks]) (h1 : 1 ≤ k) (h2 : k ≤ 18) {sk : List UInt8}
    {N : Nat} (hN : N ≤ 8388608) (hk : ∀ o : List D, o.length ≤ N → RUN E 40 [.list o, .list ks] = some [.list (o ++ bytesD sk)]) (hs : sk.length ≤ 4194304) {o : List D} (ho : o.length + t.length + 1 ≤ N) :
    L40a l l.length i o = L40a l l.length ((i + 1 : Nat) : Int) (o ++ bytesD (pre k i t ++ sk ++ post k)) := by
  have hb := fun o ho => step40b (t := t) (d := d) (ti := ti) (v := v) hil hlen h1 h2 hN hk hs o ho
  have b0 := hb o (by omega)
  have b1 := hb (o ++ bytesD t) (by rw [List.length_append, bytesD_len]; omega)
  have b2 := hb (o ++ [.int 32]) (by simp; omega)
  have b3 := hb (o ++ [.int 9]) (by simp; omega)
  have f1 : fitL o.length (bytesD t).length = true := fit_t (by rw [bytesD_len]; omega)
  have f2 : fitL o.length ([D.int 32]).length = true := fit_t (by simp; omega)
  have f3 : fitL o.length ([D.int 9]).length = true := fit_t (by simp; omega)
  rw [round40a, dec_t (show (i : Int) < (l.length : Int) by omega), inb_nat hil]
  simp only [cond_true, Int.toNat_natCast, hx, D.cell, D.cells, List.getD_cons_zero, List.getD_cons_succ, tI, tS, tL, f1, f2, f3, b0, b1, b2, b3]
  clear hb b0 b1 b2 b3
  rcases kcases h1 h2 with g | g | g | g | g | g | g | g | g | g | g | g | g | g | g | g | g | g <;> subst g
  all_goals first
    | (simp [pre, post, bytesD]; done)
    | (by_cases h0 : 0 < i <;> simp [pre, post, bytesD, h0])

theorem pre_len (k : Int) (i : Nat) (t : List UInt8) : (pre k i t).length ≤ t.length + 1 := by
  unfold pre
  split
  · omega
  · split
    · simp
    · split
      · split <;> simp
      · simp
theorem post_len (k : Int) : (post k).length ≤ 1 := by
  unfold post
  split <;> simp
/-- A document's plain text. -/
theorem plain : ∀ l, AllN l → dmass.dmAll l ≤ 1048576 → ∀ p : Int, RUN E 39 [.list l, .int p] = some [.int 0] → ∃ s : List UInt8, RUN E 20 [.list l] = some [.str s] ∧ s.length ≤ dmass.dmAll l ∧
    ∀ o : List D, o.length + dmass.dmAll l ≤ 8388608 → RUN E 40 [.list o, .list l] = some [.list (o ++ bytesD s)] := by
  refine doc_ind ?_
  intro l hN hk hb p hp
  have hlen := len_le hN
  have hv := valid hN hb hp
  have loop : ∀ r i : Nat, i + r = l.length → ∃ s : List UInt8, s.length ≤ dmass.dmAll (l.drop i) ∧ (∀ out : List UInt8, out.length + dmass.dmAll (l.drop i) ≤ 4194304 → L20a out l l.length i = some [.str (out ++ s)]) ∧
      ∀ o : List D, o.length + dmass.dmAll (l.drop i) ≤ 8388608 → L40a l l.length i o = some [.list (o ++ bytesD s)] := by
    intro r
    induction r with
    | zero =>
      intro i hi
      refine ⟨[], by simp, fun out _ => ?_, fun o _ => ?_⟩
      · rw [round20a, dec_f (by omega)]; simp
      · rw [round40a, dec_f (by omega)]; simp [bytesD]
    | succ r ih =>
      intro i hi
      have hil : i < l.length := by omega
      have hx := hN l[i] (List.getElem_mem hil)
      have hdm := drop_mass hil
      have hdl := drop_le l i
      obtain ⟨v1, v2⟩ := hv i hil
      have hkid := hk l[i] (List.getElem_mem hil)
      obtain ⟨s, f1, f2, f3⟩ := ih (i + 1) (by omega)
      have hg : l.getD i .no = l[i] := getD_eq l i .no hil
      generalize l[i] = x at *
      cases hx with
      | mk k v t d ti ks hks =>
        obtain ⟨h1, h2, h3⟩ := okNode v1
        have hmx : dmass (.agg [.int k, .int v, .str t, .str d, .str ti, .list ks]) = 1 + (1 + (t.length + 1 + (d.length + 1 + (ti.length + 1 + (dmass.dmAll ks + 1 + 0))))) := rfl
        obtain ⟨sk, g1, g2, g3⟩ := hkid (show dmass.dmAll ks ≤ 1048576 by omega) k v2
        replace g1 : RUN E 20 [.list ks] = some [.str sk] := g1
        replace g2 : sk.length ≤ dmass.dmAll ks := g2
        replace g3 : ∀ o : List D, o.length + dmass.dmAll ks ≤ 8388608 → RUN E 40 [.list o, .list ks] = some [.list (o ++ bytesD sk)] := g3
        have hsk : noKids k = true → sk = [] := fun hn => by
          have := h3 hn
          subst this
          rw [enter20, round20a] at g1
          injection g1 with g1; injection g1 with g1; injection g1 with g1
          exact g1.symm
        have hp1 := pre_len k i t
        have hp2 := post_len k
        refine ⟨pre k i t ++ sk ++ post k ++ s, ?_, fun out ho => ?_, fun o ho => ?_⟩
        · simp only [List.length_append]; omega
        · rw [step20 hil (by omega) hg h1 h2 g1 hsk (by omega) (by omega) (by omega), f2 _ (by simp only [List.length_append]; omega)]
          simp
        · rw [step40 hil (by omega) hg h1 h2 (N := 8388608 - dmass.dmAll ks) (by omega) (fun o ho => g3 o (by omega)) (by omega) (by omega), f3 _ (by simp only [List.length_append, bytesD_len]; omega)]
          simp [bytesD_app]
  obtain ⟨s, h1, h2, h3⟩ := loop l.length 0 (by omega)
  simp only [List.drop_zero] at h1 h2 h3
  refine ⟨s, ?_, h1, fun o ho => ?_⟩
  · rw [enter20]; exact h2 [] (by simp; omega)
  · rw [enter40]; exact h3 o ho

theorem words (s : List UInt8) (hs : s.length ≤ 1048576) : ∃ n : Int, RUN E 21 [.str s] = some [.int n] ∧ L41a 0 false (bytesD s) (bytesD s).length 0 = some [.int n] := by
  have loop : ∀ r i : Nat, i + r = s.length → ∀ (n : Int) (ins : Bool), ∃ m : Int, L21a s n ins i = some [.int m] ∧ L41a n ins (bytesD s) (bytesD s).length i = some [.int m] := by
    intro r
    induction r with
    | zero =>
      intro i hi n ins
      refine ⟨n, ?_, ?_⟩
      · rw [round21a, dec_f (by omega)]; rfl
      · rw [round41a, dec_f (by rw [bytesD_len]; omega)]; rfl
    | succ r ih =>
      intro i hi n ins
      have hil : i < s.length := by omega
      have hnext : IntKind.wrap .i64 ((i : Int) + 1) = ((i + 1 : Nat) : Int) := by rw [wrap_id (by omega) (by omega)]; omega
      have hb : (bytesD s).getD i .no = .int ((s.getD i 0).toNat : Int) := by
        rw [List.getD_eq_getElem?_getD, List.getD_eq_getElem?_getD]
        simp [bytesD, hil]
      rw [round21a, round41a, dec_t (show (i : Int) < (s.length : Int) by omega), dec_t (show (i : Int) < ((bytesD s).length : Int) by rw [bytesD_len]; omega), inb_nat hil, inb_nat (show i < (bytesD s).length by rw [bytesD_len]; omega)]
      simp only [cond_true, Int.toNat_natCast, hnext, hb, tI]
      have e1 := fun n ins => ih (i + 1) (by omega) n ins
      generalize (bif bif decide (((s.getD i 0).toNat : Int) = 32) then true else decide (((s.getD i 0).toNat : Int) = 9) then true else decide (((s.getD i 0).toNat : Int) = 10)) = gap
      generalize (bif bif gap then false else true then bif ins then false else true else false) = c
      cases c with
      | true => exact e1 (IntKind.wrap .i64 (n + 1)) (!gap)
      | false => exact e1 n (!gap)
  obtain ⟨m, h1, h2⟩ := loop s.length 0 (by omega) 0 false
  exact ⟨m, by rw [enter21]; exact h1, h2⟩
theorem dBytes_bytesD (s : List UInt8) : dBytes (bytesD s) = s := by
  induction s with
  | nil => rfl
  | cons b s ih =>
    simp only [dBytes, bytesD, List.map_cons, List.map_map] at ih ⊢
    congr 1
    simp [tI]
end check
namespace plains
open check
theorem law {l : List D} (hN : AllN l) (hb : dmass.dmAll l ≤ 1048576) : RUN E 6 [.list l] = some [.bool true] := by
  obtain ⟨e, c1, c2, c3⟩ := check.check hN hb
  rw [enter6, enter18, enter19]
  simp only [c1, c2, opt_s, List.getD_cons_zero, tI]
  by_cases he : e = 0
  · subst he
    obtain ⟨s, g1, g2, g3⟩ := plain l hN hb 0 (c3 rfl)
    obtain ⟨n, w1, w2⟩ := words s (by omega)
    have g4 := g3 [] (by simp; omega)
    rw [List.nil_append] at g4
    rw [enter41]
    simp only [g1, g4, opt_s, List.getD_cons_zero, List.getD_cons_succ, tI, tS, tL, w1, w2, dBytes_bytesD, dec_t, cond_true, cond_false]
  · simp [dec_f he, opt_s, tI, tS]
theorem nd_rep {M : Mem} {k : KT} {v : Value} {d : D} (h : Rep tt M k v d) : (k = .agg 60 → Nd d) ∧ (k = .slice 60 → AllN d.toList) := by
  have h60 : lk 60 tt = some ⟨.agg 60, [.int .i64, .int .i64, .str, .str, .str, .slice 60], [(0, 3), (1, 3), (2, 9), (3, 9), (4, 9), (5, 22)], 88⟩ := by kernel_rfl
  induction h with
  | bool b => exact ⟨fun e => (by cases e), fun e => (by cases e)⟩
  | int k n h => exact ⟨fun e => (by cases e), fun e => (by cases e)⟩
  | str s h => exact ⟨fun e => (by cases e), fun e => (by cases e)⟩
  | nil e a cap h => exact ⟨fun e => (by cases e), fun _ x hx => (by cases hx)⟩
  | slice e ei ad cap xs vs h0 hc hm he hs hz hMM hr ih =>
    refine ⟨fun e => (by cases e), fun e1 x hx => ?_⟩
    injection e1 with e1
    subst e1
    rw [h60] at he; injection he with he; subst he
    obtain ⟨i, hi, rfl⟩ := List.getElem_of_mem hx
    exact (ih i hi).1 rfl
  | agg t ti cs ds ht hk hl hd hr ih =>
    refine ⟨fun e1 => ?_, fun e1 => (by cases e1)⟩
    injection e1 with e1
    subst e1
    rw [h60] at ht; injection ht with ht; subst ht
    match ds, cs, hd, hl, hr, ih with
    | [d0, d1, d2, d3, d4, d5], [c0, c1, c2, c3, c4, c5], _, _, hr, ih =>
      have r0 := hr 0 (by decide) (by simp) (by simp)
      have r1 := hr 1 (by decide) (by simp) (by simp)
      have r2 := hr 2 (by decide) (by simp) (by simp)
      have r3 := hr 3 (by decide) (by simp) (by simp)
      have r4 := hr 4 (by decide) (by simp) (by simp)
      have r5 := hr 5 (by decide) (by simp) (by simp)
      have i5 := (ih 5 (by decide) (by simp) (by simp)).2 rfl
      obtain ⟨_, q0, _⟩ := Rep.inv_int r0
      obtain ⟨_, q1, _⟩ := Rep.inv_int r1
      obtain ⟨s2, _, q2, _⟩ := Rep.inv_str r2
      obtain ⟨s3, _, q3, _⟩ := Rep.inv_str r3
      obtain ⟨s4, _, q4, _⟩ := Rep.inv_str r4
      obtain ⟨_, _, _, q5, _⟩ := Rep.inv_slice r5
      simp only [List.getElem_cons_zero, List.getElem_cons_succ] at q0 q1 q2 q3 q4 q5 i5
      rw [q0, q1, q2, q3, q4, q5]
      exact .mk _ _ _ _ _ _ i5
theorem lawR {M : Mem} {v : Value} {l : List D} (h : Rep E.tt M (.slice 60) v (.list l)) (hb : dmass.dmAll [.list l] ≤ 1048576) : RUN E 6 [.list l] = some [.bool true] := by
  refine law ((nd_rep (show Rep tt M (.slice 60) v (.list l) from h)).2 rfl) ?_
  simp only [dmass.dmAll, dmass] at hb
  omega
end plains
end Go.Proofs.Ythbncndefigidaa.ms
