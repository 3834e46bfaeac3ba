/- Ids and contents: the law's answer. -/
import Derived.Test.YthbncndefigidaaDoorDxIdsF
import Derived.Lib.LaidTab
import Derived.MakeChecks
set_option linter.unusedVariables false
set_option linter.unusedSimpArgs false
namespace Go.Proofs.YthbncndefigidaaDoor.md
open Go.Proofs.YthbncndefigidaaDoor.DS
namespace ids
open check hiding opt_s tB tI tS tL fit_t dBytes_bytesD bytesD_len bytesD_app
open heads

/-! ### Numerals differ -/
def dval (l : List UInt8) : Nat := l.foldl (fun v c => v * 10 + (c.toNat - 48)) 0
theorem dval_dec : ∀ n u : Nat, u ≤ n → dval (Lib.decDigits u) = u := by
  intro n
  induction n with
  | zero =>
    intro u hu
    have : u = 0 := by omega
    subst this
    rw [Lib.decDigits_one (by omega)]; rfl
  | succ n ih =>
    intro u hu
    have dg : ∀ d : Nat, d < 10 → (UInt8.ofNat (48 + d)).toNat - 48 = d := by
      intro d hd
      have : (UInt8.ofNat (48 + d)).toNat = 48 + d := by simp; omega
      omega
    by_cases h : u < 10
    · rw [Lib.decDigits_one h]
      show 0 * 10 + ((UInt8.ofNat (48 + u)).toNat - 48) = u
      rw [dg u h]; omega
    · rw [Lib.decDigits, dif_neg h]
      have := ih (u / 10) (by omega)
      unfold dval at this ⊢
      rw [List.foldl_append, this]
      show u / 10 * 10 + ((UInt8.ofNat (48 + u % 10)).toNat - 48) = u
      rw [dg _ (by omega)]; omega
theorem itoa_nat (n : Nat) : Lib.itoa (n : Int) = Lib.decDigits n := by unfold Lib.itoa; rw [if_neg (by omega)]; rfl
def cand (b : List UInt8) (k : Nat) : List UInt8 := b ++ ([45] ++ Lib.itoa (k : Int))
theorem cand_inj {b : List UInt8} {i j : Nat} (h : cand b i = cand b j) : i = j := by
  unfold cand at h
  have h := List.append_cancel_left (List.append_cancel_left h)
  rw [itoa_nat, itoa_nat] at h
  have := congrArg dval h
  rwa [dval_dec i i (Nat.le_refl _), dval_dec j j (Nat.le_refl _)] at this
/-- So many different things are in no shorter row. -/
theorem crowd {α : Type} [DecidableEq α] : ∀ (U : List α) (n : Nat) (c : Nat → α), (∀ i j, i < n → j < n → c i = c j → i = j) → (∀ i, i < n → c i ∈ U) → n ≤ U.length := by
  intro U
  induction U with
  | nil =>
    intro n c _ h
    cases n with
    | zero => exact Nat.le_refl _
    | succ n => exact absurd (h 0 (by omega)) (by simp)
  | cons u r ih =>
    intro n c hc h
    by_cases hm : ∃ m, m < n ∧ c m = u
    · obtain ⟨m, hm, e⟩ := hm
      have := ih (n - 1) (fun i => if i < m then c i else c (i + 1)) (by
        intro i j hi hj e2
        by_cases h1 : i < m <;> by_cases h2 : j < m <;> simp only [h1, h2, if_true, if_false] at e2
        · exact hc i j (by omega) (by omega) e2
        · have := hc i (j + 1) (by omega) (by omega) e2; omega
        · have := hc (i + 1) j (by omega) (by omega) e2; omega
        · have := hc (i + 1) (j + 1) (by omega) (by omega) e2; omega) (by
        intro i hi
        have key : ∀ q, q < n → q ≠ m → c q ∈ r := by
          intro q hq hqm
          rcases List.mem_cons.1 (h q hq) with h3 | h3
          · exact absurd (hc q m hq hm (by rw [h3, e])) hqm
          · exact h3
        by_cases h1 : i < m
        · simp only [h1, if_true]; exact key i (by omega) (by omega)
        · simp only [h1, if_false]; exact key (i + 1) (by omega) (by omega))
      simp only [List.length_cons]; omega
    · have := ih n c hc (fun i hi => by
        rcases List.mem_cons.1 (h i hi) with h3 | h3
        · exact absurd ⟨i, hi, h3⟩ hm
        · exact h3)
      simp only [List.length_cons]; omega
/-- What is picked for a base, beside what is there. -/
def Pick (U : List (List UInt8)) (b id : List UInt8) : Prop :=
  (b ∉ U ∧ id = b) ∨ (b ∈ U ∧ ∃ k : Nat, 2 ≤ k ∧ k ≤ U.length + 2 ∧ id = cand b k ∧ cand b k ∉ U ∧ ∀ j, 2 ≤ j → j < k → cand b j ∈ U)
theorem free (U : List (List UInt8)) (b : List UInt8) : ∃ k : Nat, 2 ≤ k ∧ k ≤ U.length + 2 ∧ cand b k ∉ U ∧ ∀ j, 2 ≤ j → j < k → cand b j ∈ U := by
  have ex : ∃ k : Nat, 2 ≤ k ∧ k ≤ U.length + 2 ∧ cand b k ∉ U := by
    apply Classical.byContradiction
    intro h
    have := crowd U (U.length + 1) (fun i => cand b (i + 2)) (fun i j _ _ e => by have := cand_inj e; omega) (fun i hi => by
      apply Classical.byContradiction
      intro hn
      exact h ⟨i + 2, by omega, by omega, hn⟩)
    omega
  have least : ∀ n k : Nat, k ≤ n → 2 ≤ k → k ≤ U.length + 2 → cand b k ∉ U → ∃ k : Nat, 2 ≤ k ∧ k ≤ U.length + 2 ∧ cand b k ∉ U ∧ ∀ j, 2 ≤ j → j < k → cand b j ∈ U := by
    intro n
    induction n with
    | zero => intro k hk h2; omega
    | succ n ih =>
      intro k hk h2 h3 h4
      by_cases h : ∃ j, 2 ≤ j ∧ j < k ∧ cand b j ∉ U
      · obtain ⟨j, g1, g2, g3⟩ := h
        exact ih j (by omega) g1 (by omega) g3
      · refine ⟨k, h2, h3, h4, fun j g1 g2 => ?_⟩
        apply Classical.byContradiction
        intro hn
        exact h ⟨j, g1, g2, hn⟩
  obtain ⟨k, h1, h2, h3⟩ := ex
  exact least k k (Nat.le_refl _) h1 h2 h3

/-! ### Maps -/
theorem find_put (s t : List UInt8) (v : D) : ∀ kvs : List (D × D), findKV .str (.str s) (putKV .str (.str t) v kvs) = if s = t then some v else findKV .str (.str s) kvs := by
  intro kvs
  induction kvs with
  | nil =>
    by_cases h : s = t
    · simp [putKV, findKV, eqD, D.toStr, h]
    · simp [putKV, findKV, eqD, D.toStr, h]
  | cons p r ih =>
    obtain ⟨a, w⟩ := p
    simp only [putKV]
    by_cases ht : t = a.toStr
    · rw [show eqD .str (.str t) a = true by simp [eqD, D.toStr, ht]]
      simp only [cond_true, findKV]
      by_cases h : s = t
      · rw [show eqD .str (.str s) a = true by simp only [eqD, D.toStr]; rw [h]; exact decide_eq_true ht]
        simp [h]
      · rw [show eqD .str (.str s) a = false by simp only [eqD, D.toStr]; exact decide_eq_false (fun e => h (e.trans ht.symm))]
        simp [h]
    · rw [show eqD .str (.str t) a = false by simp only [eqD, D.toStr]; exact decide_eq_false ht]
      simp only [cond_false, findKV, ih]
      by_cases hs : s = a.toStr
      · rw [show eqD .str (.str s) a = true by simp only [eqD, D.toStr]; exact decide_eq_true hs]
        have : s ≠ t := fun e => ht (by rw [← e, hs])
        simp [this]
      · rw [show eqD .str (.str s) a = false by simp only [eqD, D.toStr]; exact decide_eq_false hs]
        rfl
theorem r40 (n : Int) : RUN E 40 [.int n] = some [.str (Lib.itoa n)] := (RUN_eq _ _ _).trans (by kernel_rfl)

/-! ### A heading's text and base -/
noncomputable def T (x : D) : List UInt8 := D.toStr (((RUN E 38 [.list (kidsOf x)]).getD []).getD 0 .no)
noncomputable def S (x : D) : List UInt8 := D.toStr (((RUN E 7 [.str (T x)]).getD []).getD 0 .no)
noncomputable def B (x : D) : List UInt8 := bif decide (S x = []) then [115, 101, 99, 116, 105, 111, 110] else S x
theorem txt {x : D} (h : Hd x) : (T x).length ≤ 1048570 ∧ (S x).length ≤ 1048570 ∧ RUN E 38 [.list (kidsOf x)] = some [.str (T x)] ∧ RUN E 41 [x] = some [.str (T x)] ∧ RUN E 7 [.str (T x)] = some [.str (S x)] ∧ RUN E 8 [.str (T x)] = some [.str (S x)] := by
  obtain ⟨h1, h2, h3⟩ := h
  have hm : dmass.dmAll (kidsOf x) ≤ 1048570 := by
    cases h1 with
    | mk k v t d ti ks hks =>
      have hmx : dmass (.agg [.int k, .int v, .str t, .str d, .str ti, .list ks]) = 1 + (1 + (t.length + 1 + (d.length + 1 + (ti.length + 1 + (dmass.dmAll ks + 1 + 0))))) := rfl
      show dmass.dmAll ks ≤ 1048570
      omega
  obtain ⟨s, g1, g2, g3⟩ := plain (kidsOf x) h1.kids (by omega) 1 h3
  have hT : T x = s := by unfold T; rw [g1]; rfl
  have h41 : RUN E 41 [x] = some [.str s] := by
    rw [enter41]
    have := g3 [] (by simp; omega)
    show opt (RUN E 59 [D.list [], D.list (kidsOf x)]) _ = _
    rw [this]
    simp only [opt_s, List.getD_cons_zero, tL, List.nil_append, dBytes_bytesD]
  obtain ⟨r, q1, q2, q3⟩ := slugs.same s (by omega)
  have hS : S x = r := by unfold S; rw [hT, q2]; rfl
  rw [hT, hS]
  exact ⟨by omega, by omega, g1, h41, q2, q3⟩
theorem base_len {x : D} (h : Hd x) : (B x).length ≤ 1048577 := by
  have := (txt h).2.1
  unfold B
  cases decide (S x = []) with
  | true => simp
  | false => simp only [cond_false]; omega

/-! ### The program's ids -/
def Inv (U : List (List UInt8)) (m1 m2 : List (D × D)) : Prop :=
  (∀ s, D.toBool ((findKV .str (.str s) m1).getD (.bool false)) = decide (s ∈ U)) ∧
  ∀ b, D.toInt ((findKV .str (.str b) m2).getD (.int 0)) ≤ U.length + 2 ∧ ∀ j : Nat, 2 ≤ j → (j : Int) ≤ D.toInt ((findKV .str (.str b) m2).getD (.int 0)) → cand b j ∈ U
theorem inv_nil : Inv [] [] [] := by
  refine ⟨fun s => ?_, fun b => ⟨?_, fun j hj hl => ?_⟩⟩
  · simp [findKV, D.toBool]
  · show (0 : Int) ≤ _; simp
  · have : (j : Int) ≤ 0 := hl
    omega
theorem inv_add {U : List (List UInt8)} {m1 m2 : List (D × D)} (h : Inv U m1 m2) (id : List UInt8) : Inv (U ++ [id]) (putKV .str (.str id) (.bool true) m1) m2 := by
  refine ⟨fun s => ?_, fun b => ?_⟩
  · rw [find_put]
    by_cases hs : s = id
    · subst hs; rw [if_pos rfl]; simp [D.toBool]
    · rw [if_neg hs, h.1 s]; simp [hs]
  · obtain ⟨h1, h2⟩ := h.2 b
    refine ⟨by simp only [List.length_append, List.length_singleton]; omega, fun j hj hl => List.mem_append_left _ (h2 j hj hl)⟩
theorem inv_next {U : List (List UInt8)} {m1 m2 : List (D × D)} (h : Inv U m1 m2) {b : List UInt8} {k : Nat} (hk : k ≤ U.length + 2) (hall : ∀ j : Nat, 2 ≤ j → j ≤ k → cand b j ∈ U) : Inv U m1 (putKV .str (.str b) (.int k) m2) := by
  refine ⟨h.1, fun b' => ?_⟩
  rw [find_put]
  by_cases hb : b' = b
  · subst hb
    rw [if_pos rfl]
    show (k : Int) ≤ _ ∧ ∀ j : Nat, 2 ≤ j → (j : Int) ≤ (k : Int) → _
    exact ⟨by omega, fun j hj hl => hall j hj (by omega)⟩
  · rw [if_neg hb]; exact h.2 b'
/-- Picks, one after the other. -/
def Picks : List (List UInt8) → List D → List (List UInt8) → Prop
  | _, [], V => V = []
  | U, x :: r, V => ∃ id W, V = id :: W ∧ Pick U (B x) id ∧ Picks (U ++ [id]) r W
theorem map_snoc (U : List (List UInt8)) (t : List UInt8) : U.map D.str ++ [.str t] = (U ++ [t]).map .str := by simp
theorem numbered {hs : List D} {i : Nat} {U : List (List UInt8)} {m1 m2 : List (D × D)} (hI : Inv U m1 m2) (hil : i < hs.length) (hl : hs.length ≤ 1048576) (hU : U.length ≤ i) {b : List UInt8} (hb : b.length ≤ 1048577) {k : Nat} (h2 : 2 ≤ k) (hk : k ≤ U.length + 2) (hf : cand b k ∉ U) :
    ∀ n k0 : Nat, k0 + n = k → 2 ≤ k0 → (∀ j, k0 ≤ j → j < k → cand b j ∈ U) →
      L34c b (k0 : Int) hs (hs.length : Int) (i : Int) (U.map .str) m1 m2 = L34a hs (hs.length : Int) ((i + 1 : Nat) : Int) ((U ++ [cand b k]).map .str) (putKV .str (.str (cand b k)) (.bool true) m1) (putKV .str (.str b) (.int k) m2) := by
  have hil2 : ∀ q : Nat, q ≤ k → (Lib.itoa (q : Int)).length ≤ 20 := fun q hq => itoa_len (by omega) (by omega)
  have common : ∀ k0 : Nat, k0 ≤ k → L34c b (k0 : Int) hs (hs.length : Int) (i : Int) (U.map .str) m1 m2 =
      cond (decide (cand b k0 ∈ U)) (L34c b ((k0 + 1 : Nat) : Int) hs (hs.length : Int) (i : Int) (U.map .str) m1 m2)
        (L34a hs (hs.length : Int) ((i + 1 : Nat) : Int) ((U ++ [cand b k0]).map .str) (putKV .str (.str (cand b k0)) (.bool true) m1) (putKV .str (.str b) (.int k0) m2)) := by
    intro k0 hk0
    have hlen := hil2 k0 hk0
    rw [round34c, r40]
    simp only [opt_s, List.getD_cons_zero, tS]
    rw [lim_t (by simp only [List.length_append, List.length_cons, List.length_nil]; omega), lim_t (by simp only [List.length_append, List.length_cons, List.length_nil]; omega), lim_t (by simp only [List.length_append, List.length_cons, List.length_nil]; omega), lim_t (by simp only [List.length_append, List.length_cons, List.length_nil]; omega), fit_t (by simp; omega), nxt (i := k0) (by omega), nxt (i := i) (by omega)]
    have e : b ++ [45] ++ Lib.itoa (k0 : Int) = cand b k0 := by unfold cand; simp
    have e2 : b ++ ([45] ++ Lib.itoa (k0 : Int)) = cand b k0 := rfl
    rw [e, e2, hI.1, map_snoc]
    rfl
  intro n
  induction n with
  | zero =>
    intro k0 hk0 h20 hall
    have : k0 = k := by omega
    subst this
    rw [common k0 (Nat.le_refl _), dec_f hf]; rfl
  | succ n ih =>
    intro k0 hk0 h20 hall
    rw [common k0 (by omega), dec_t (hall k0 (Nat.le_refl _) (by omega)), cond_true]
    exact ih (k0 + 1) (by omega) (by omega) (fun j g1 g2 => hall j (by omega) g2)
theorem prog (hs : List D) (hl : hs.length ≤ 1048576) (hh : ∀ x ∈ hs, Hd x) : ∀ n i : Nat, i + n = hs.length → ∀ (U : List (List UInt8)) (m1 m2 : List (D × D)), U.length ≤ i → Inv U m1 m2 →
    ∃ V, Picks U (hs.drop i) V ∧ L34a hs (hs.length : Int) (i : Int) (U.map .str) m1 m2 = some [.list ((U ++ V).map .str)] := by
  intro n
  induction n with
  | zero =>
    intro i hi U m1 m2 hU hI
    have : i = hs.length := by omega
    subst this
    refine ⟨[], by rw [List.drop_length]; rfl, ?_⟩
    rw [round34a, dec_f (by omega), List.append_nil]; rfl
  | succ n ih =>
    intro i hi U m1 m2 hU hI
    have hil : i < hs.length := by omega
    have hg : hs.getD i .no = hs[i] := getD_eq hs i .no hil
    have hx := hh hs[i] (List.getElem_mem hil)
    obtain ⟨t1, t2, t3, t4, t5, t6⟩ := txt hx
    have hbl := base_len hx
    have toC : L34a hs (hs.length : Int) (i : Int) (U.map .str) m1 m2 = C34b (B hs[i]) hs (hs.length : Int) (i : Int) (U.map .str) m1 m2 := by
      rw [round34a, dec_t (by omega), inb_nat hil, Int.toNat_natCast, hg, t4]
      simp only [cond_true, opt_s, List.getD_cons_zero, tS]
      rw [t5]
      simp only [opt_s, List.getD_cons_zero, tS]
      unfold B
      cases decide (S hs[i] = []) <;> rfl
    rw [toC, round34b, hI.1, show hs.drop i = hs[i] :: hs.drop (i + 1) by rw [drop_cons .no hil, hg]]
    by_cases hm : B hs[i] ∈ U
    · obtain ⟨k, k1, k2, k3, k4⟩ := free U (B hs[i])
      obtain ⟨q1, q2⟩ := hI.2 (B hs[i])
      rw [dec_t hm, cond_true]
      have hstart : ∃ k0 : Nat, mmInt true (D.toInt ((findKV .str (.str (B hs[i])) m2).getD (.int 0))) 2 = (k0 : Int) ∧ 2 ≤ k0 ∧ k0 ≤ k := by
        generalize D.toInt ((findKV .str (.str (B hs[i])) m2).getD (.int 0)) = a at *
        unfold mmInt
        by_cases ha : a < 2
        · rw [dec_t ha]; exact ⟨2, rfl, by omega, k1⟩
        · rw [dec_f ha]
          refine ⟨a.toNat, by simp only [cond_true, cond_false]; omega, by omega, ?_⟩
          apply Classical.byContradiction
          intro hn
          exact k3 (q2 k k1 (by omega))
      obtain ⟨k0, e0, g1, g2⟩ := hstart
      rw [e0, numbered hI hil hl hU hbl k1 k2 k3 (k - k0) k0 (by omega) g1 (fun j h1 h2 => k4 j (by omega) h2)]
      have hI2 := inv_next (inv_add hI (cand (B hs[i]) k)) (b := B hs[i]) (k := k) (by simp only [List.length_append, List.length_singleton]; omega) (fun j h1 h2 => by
        by_cases hjk : j = k
        · subst hjk; simp
        · exact List.mem_append_left _ (k4 j h1 (by omega)))
      obtain ⟨V, v1, v2⟩ := ih (i + 1) (by omega) (U ++ [cand (B hs[i]) k]) _ _ (by simp; omega) hI2
      refine ⟨cand (B hs[i]) k :: V, ⟨_, V, rfl, .inr ⟨hm, k, k1, k2, rfl, k3, k4⟩, v1⟩, ?_⟩
      rw [v2]; simp
    · rw [dec_f hm, cond_false, fit_t (by simp; omega), cond_true, nxt (i := i) (by omega), map_snoc]
      obtain ⟨V, v1, v2⟩ := ih (i + 1) (by omega) (U ++ [B hs[i]]) _ _ (by simp; omega) (inv_add hI (B hs[i]))
      refine ⟨B hs[i] :: V, ⟨_, V, rfl, .inl ⟨hm, rfl⟩, v1⟩, ?_⟩
      rw [v2]; simp

/-! ### The reference's entries -/
noncomputable def ent (x : D) (id : List UInt8) : D := .agg [.int (D.toInt (D.cell x 1)), .str id, .str (T x)]
def idOf (e : D) : List UInt8 := D.toStr (D.cell e 1)
theorem taken (out : List D) (id : List UInt8) (hl : out.length ≤ 1048576) : RUN E 39 [.list out, .str id] = some [.bool (decide (id ∈ out.map idOf))] := by
  have key : ∀ n i : Nat, i + n = out.length → L39a id out (out.length : Int) (i : Int) = some [.bool (decide (id ∈ (out.drop i).map idOf))] := by
    intro n
    induction n with
    | zero =>
      intro i hi
      have : i = out.length := by omega
      subst this
      rw [round39a, dec_f (by omega), List.drop_length]; simp
    | succ n ih =>
      intro i hi
      have hil : i < out.length := by omega
      rw [round39a, dec_t (by omega), inb_nat hil, Int.toNat_natCast, nxt (by omega), ih (i + 1) (by omega), drop_cons .no hil, List.map_cons]
      show cond true (cond true (cond (decide (idOf (out.getD i .no) = id)) _ _) none) _ = _
      by_cases h : idOf (out.getD i .no) = id
      · have hm : decide (id ∈ idOf (out.getD i .no) :: (out.drop (i + 1)).map idOf) = true := dec_t (by rw [h]; exact List.mem_cons_self)
        rw [dec_t h, hm]; rfl
      · rw [dec_f h]
        simp only [cond_true, cond_false]
        by_cases h2 : id ∈ (out.drop (i + 1)).map idOf
        · rw [dec_t h2, dec_t (List.mem_cons_of_mem _ h2)]
        · rw [dec_f h2, dec_f (fun h3 => by rcases List.mem_cons.1 h3 with h3 | h3; exact h h3.symm; exact h2 h3)]
  rw [enter39]
  have := key out.length 0 (by omega)
  rwa [List.drop_zero] at this
theorem ref_num {hs : List D} {i : Nat} {out : List D} (hil : i < hs.length) (hl : hs.length ≤ 1048576) (ho : out.length ≤ i) {x : D} {b : List UInt8} (hb : b.length ≤ 1048577) {k : Nat} (hk : k ≤ 1048580) (hf : cand b k ∉ out.map idOf) :
    ∀ n k0 : Nat, k0 + n = k → (∀ j, k0 ≤ j → j < k → cand b j ∈ out.map idOf) → ∀ t,
      L14c t b (cand b k0) ((k0 + 1 : Nat) : Int) hs (hs.length : Int) (i : Int) out x = L14a hs (hs.length : Int) ((i + 1 : Nat) : Int) (out ++ [.agg [.int (D.toInt (D.cell x 1)), .str (cand b k), .str t]]) := by
  intro n
  induction n with
  | zero =>
    intro k0 hk0 hall t
    have : k0 = k := by omega
    subst this
    rw [round14c, taken out _ (by omega), dec_f hf]
    simp only [opt_s, List.getD_cons_zero, tB, cond_false]
    rw [nxt (i := i) (by omega)]
    show cond (fitL out.length [D.agg [.int (D.toInt (D.cell x 1)), .str (cand b k0), .str t]].length) _ none = _
    rw [fit_t (by simp; omega)]; rfl
  | succ n ih =>
    intro k0 hk0 hall t
    have hlen : (Lib.itoa ((k0 + 1 : Nat) : Int)).length ≤ 20 := itoa_len (by omega) (by omega)
    rw [round14c, taken out _ (by omega), dec_t (hall k0 (Nat.le_refl _) (by omega)), r40]
    simp only [opt_s, List.getD_cons_zero, tB, tS, cond_true]
    rw [lim_t (by simp only [List.length_append, List.length_cons, List.length_nil]; omega), lim_t (by simp only [List.length_append, List.length_cons, List.length_nil]; omega), nxt (i := k0 + 1) (by omega)]
    have e : b ++ [45] ++ Lib.itoa ((k0 + 1 : Nat) : Int) = cand b (k0 + 1) := by unfold cand; simp
    rw [e]
    exact ih (k0 + 1) (by omega) (fun j g1 g2 => hall j (by omega) g2) t
theorem ref_pick {hs : List D} {i : Nat} {out : List D} (hil : i < hs.length) (hl : hs.length ≤ 1048576) (ho : out.length ≤ i) {x : D} {b id : List UInt8} (hb : b.length ≤ 1048577) (hp : Pick (out.map idOf) b id) (t : List UInt8) :
    C14b t b hs (hs.length : Int) (i : Int) out x = L14a hs (hs.length : Int) ((i + 1 : Nat) : Int) (out ++ [.agg [.int (D.toInt (D.cell x 1)), .str id, .str t]]) := by
  rw [round14b]
  rcases hp with ⟨h1, rfl⟩ | ⟨h1, k, k1, k2, rfl, k3, k4⟩
  · rw [round14c, taken out _ (by omega), dec_f h1]
    simp only [opt_s, List.getD_cons_zero, tB, cond_false]
    rw [nxt (i := i) (by omega)]
    show cond (fitL out.length [D.agg [.int (D.toInt (D.cell x 1)), .str id, .str t]].length) _ none = _
    rw [fit_t (by simp; omega)]; rfl
  · rw [List.length_map] at k2
    have hlen : (Lib.itoa ((2 : Nat) : Int)).length ≤ 20 := itoa_len (by omega) (by omega)
    rw [round14c, taken out _ (by omega), dec_t h1, r40]
    simp only [opt_s, List.getD_cons_zero, tB, tS, cond_true]
    rw [show (2 : Int) = ((2 : Nat) : Int) from rfl, lim_t (by simp only [List.length_append, List.length_cons, List.length_nil]; omega), lim_t (by simp only [List.length_append, List.length_cons, List.length_nil]; omega), nxt (i := 2) (by omega)]
    have e : b ++ [45] ++ Lib.itoa ((2 : Nat) : Int) = cand b 2 := by unfold cand; simp
    rw [e]
    exact ref_num hil hl ho hb (by omega) k3 (k - 2) 2 (by omega) (fun j g1 g2 => k4 j g1 g2) t
noncomputable def ents : List D → List (List UInt8) → List D
  | x :: r, id :: W => ent x id :: ents r W
  | _, _ => []
theorem refE (hs : List D) (hl : hs.length ≤ 1048576) (hh : ∀ x ∈ hs, Hd x) : ∀ n i : Nat, i + n = hs.length → ∀ (out : List D) (V : List (List UInt8)), out.length ≤ i → Picks (out.map idOf) (hs.drop i) V →
    L14a hs (hs.length : Int) (i : Int) out = some [.list (out ++ ents (hs.drop i) V)] := by
  intro n
  induction n with
  | zero =>
    intro i hi out V ho hp
    have : i = hs.length := by omega
    subst this
    rw [round14a, dec_f (by omega), List.drop_length]; simp [ents]
  | succ n ih =>
    intro i hi out V ho hp
    have hil : i < hs.length := by omega
    have hg : hs.getD i .no = hs[i] := getD_eq hs i .no hil
    have hx := hh hs[i] (List.getElem_mem hil)
    obtain ⟨t1, t2, t3, t4, t5, t6⟩ := txt hx
    rw [show hs.drop i = hs[i] :: hs.drop (i + 1) by rw [drop_cons .no hil, hg]] at hp ⊢
    obtain ⟨id, W, rfl, p1, p2⟩ := hp
    have toC : L14a hs (hs.length : Int) (i : Int) out = C14b (T hs[i]) (B hs[i]) hs (hs.length : Int) (i : Int) out hs[i] := by
      rw [round14a, dec_t (by omega), inb_nat hil, Int.toNat_natCast, hg]
      show cond true (cond true (opt (RUN E 38 [.list (kidsOf hs[i])]) _) none) _ = _
      rw [t3]
      simp only [cond_true, opt_s, List.getD_cons_zero, tS]
      rw [t6]
      simp only [opt_s, List.getD_cons_zero, tS]
      unfold B
      cases decide (S hs[i] = []) <;> rfl
    rw [toC, ref_pick hil hl ho (base_len hx) p1]
    have := ih (i + 1) (by omega) (out ++ [ent hs[i] id]) W (by simp; omega) (by rw [List.map_append]; exact p2)
    unfold ent at this
    rw [this]
    simp [ents, ent]
theorem picks_len : ∀ (hs : List D) (U V : List (List UInt8)), Picks U hs V → V.length = hs.length := by
  intro hs
  induction hs with
  | nil => intro U V h; cases h; rfl
  | cons x r ih =>
    intro U V h
    obtain ⟨id, W, rfl, _, h2⟩ := h
    simp [ih _ _ h2]
end ids
end Go.Proofs.YthbncndefigidaaDoor.md

namespace Go.Proofs.YthbncndefigidaaDoor.md
open Go.Proofs.YthbncndefigidaaDoor.DS
namespace ids
open check hiding opt_s tB tI tS tL fit_t dBytes_bytesD bytesD_len bytesD_app
open heads

theorem same_str (l : List D) (hl : l.length ≤ 1048576) : RUN E 19 [.list l, .list l] = some [.bool true] := by
  have key : ∀ n i : Nat, i + n = l.length → L19a l l (l.length : Int) (i : Int) = some [.bool true] := by
    intro n
    induction n with
    | zero => intro i hi; rw [round19a, dec_f (by omega)]; rfl
    | succ n ih =>
      intro i hi
      rw [round19a, dec_t (by omega), inb_nat (show i < l.length by omega), nxt (by omega), ih (i + 1) (by omega), dec_t rfl]; rfl
  rw [enter19, dec_t rfl]
  exact key l.length 0 (by omega)
theorem same_ent (l : List D) (hl : l.length ≤ 1048576) : RUN E 18 [.list l, .list l] = some [.bool true] := by
  have es : ∀ (k : KT) (d : D), plainK k = true → eqD k d d = true := by
    intro k d hk
    cases k with | bool => simp [eqD] | int _ => simp [eqD] | str => simp [eqD] | _ => cases hk
  have key : ∀ n i : Nat, i + n = l.length → L18a l l (l.length : Int) (i : Int) = some [.bool true] := by
    intro n
    induction n with
    | zero => intro i hi; rw [round18a, dec_f (by omega)]; rfl
    | succ n ih =>
      intro i hi
      rw [round18a, dec_t (by omega), inb_nat (show i < l.length by omega), nxt (by omega), ih (i + 1) (by omega), es _ _ rfl, es _ _ rfl, es _ _ rfl]; rfl
  rw [enter18, dec_t rfl]
  exact key l.length 0 (by omega)
theorem ents_len : ∀ (hs : List D) (V : List (List UInt8)), V.length = hs.length → (ents hs V).length = hs.length := by
  intro hs
  induction hs with
  | nil => intro V _; cases V <;> rfl
  | cons x r ih =>
    intro V h
    cases V with
    | nil => simp at h
    | cons v W => simp only [ents, List.length_cons]; rw [ih W (by simpa using h)]
theorem idsOf (hs : List D) (V : List (List UInt8)) (hv : V.length = hs.length) (hl : hs.length ≤ 1048576) : RUN E 20 [.list (ents hs V)] = some [.list (V.map .str)] := by
  have hlen := ents_len hs V hv
  have hget : ∀ (hs : List D) (V : List (List UInt8)), V.length = hs.length → (ents hs V).map idOf = V := by
    intro hs
    induction hs with
    | nil => intro V h; cases V with
      | nil => rfl
      | cons _ _ => simp at h
    | cons x r ih =>
      intro V h
      cases V with
      | nil => simp at h
      | cons v W => simp only [ents, List.map_cons]; rw [ih W (by simpa using h)]; rfl
  have hV := hget hs V hv
  generalize ents hs V = es at *
  have key : ∀ n i : Nat, i + n = es.length → ∀ out : List D, out.length ≤ i → L20a es (es.length : Int) (i : Int) out = some [.list (out ++ ((es.drop i).map idOf).map .str)] := by
    intro n
    induction n with
    | zero =>
      intro i hi out ho
      have : i = es.length := by omega
      subst this
      rw [round20a, dec_f (by omega), List.drop_length]; simp
    | succ n ih =>
      intro i hi out ho
      have hil : i < es.length := by omega
      rw [round20a, dec_t (by omega), inb_nat hil, Int.toNat_natCast, nxt (by omega), fit_t (by simp; omega)]
      simp only [cond_true]
      rw [ih (i + 1) (by omega) _ (by simp; omega), drop_cons .no hil]
      simp [idOf]
  rw [enter20]
  have := key es.length 0 (by omega) [] (by simp)
  rw [List.drop_zero, hV] at this
  exact this
theorem conts (hs : List D) (V : List (List UInt8)) (hv : V.length = hs.length) (hl : hs.length ≤ 1048576) (hh : ∀ x ∈ hs, Hd x) : ∀ n i : Nat, i + n = hs.length → ∀ out : List D, out.length ≤ i →
    L17a (V.map .str) hs (hs.length : Int) (i : Int) out = some [.list (out ++ ents (hs.drop i) (V.drop i)), .int 0] := by
  intro n
  induction n with
  | zero =>
    intro i hi out ho
    have : i = hs.length := by omega
    subst this
    rw [round17a, dec_f (by omega), List.drop_length]; simp [ents]
  | succ n ih =>
    intro i hi out ho
    have hil : i < hs.length := by omega
    have hg : hs.getD i .no = hs[i] := getD_eq hs i .no hil
    obtain ⟨t1, t2, t3, t4, t5, t6⟩ := txt (hh hs[i] (List.getElem_mem hil))
    have hvi : (V.map D.str).getD i .no = .str (V.getD i []) := by
      rw [List.getD_eq_getElem?_getD, List.getElem?_map, List.getD_eq_getElem?_getD, List.getElem?_eq_getElem (show i < V.length by omega)]; rfl
    have e := ih (i + 1) (by omega) (out ++ [ent hs[i] (V.getD i [])]) (by simp; omega)
    unfold ent at e
    rw [round17a, dec_t (by omega), inb_nat hil, inb_nat (show i < (V.map D.str).length by simp; omega), Int.toNat_natCast, nxt (by omega), hg, t4, hvi]
    simp only [cond_true, opt_s, List.getD_cons_zero, tS]
    show cond (fitL out.length [D.agg [.int (D.toInt (D.cell hs[i] 1)), .str (V.getD i []), .str (T hs[i])]].length) (L17a (V.map .str) hs (hs.length : Int) ((i + 1 : Nat) : Int) (out ++ [D.agg [.int (D.toInt (D.cell hs[i] 1)), .str (V.getD i []), .str (T hs[i])]])) none = _
    rw [fit_t (by simp; omega), cond_true, e, drop_cons .no hil, hg, drop_cons [] (show i < V.length by omega)]
    simp [ents, ent]
/-- What both make of a valid document. -/
theorem both {l : List D} (hN : AllN l) (hb : dmass.dmAll l ≤ 1048576) (hv : RUN E 31 [.list l, .int 0] = some [.int 0]) : ∃ hs V, hs.length ≤ 1048576 ∧ (∀ x ∈ hs, Hd x) ∧ V.length = hs.length ∧ Picks [] hs V ∧
    RUN E 35 [.list l] = some [.list hs] ∧ RUN E 34 [.list l] = some [.list (V.map .str)] ∧ RUN E 14 [.list l] = some [.list (ents hs V)] := by
  obtain ⟨hs, h1, h2, h3, h4⟩ := heads.heads l hN hb 0 hv
  obtain ⟨V, v1, v2⟩ := prog hs (by omega) h2 hs.length 0 (by omega) [] [] [] (by simp) inv_nil
  rw [List.drop_zero] at v1
  have r := refE hs (by omega) h2 hs.length 0 (by omega) [] V (by simp) (by rw [List.drop_zero]; exact v1)
  rw [List.drop_zero, List.nil_append] at r
  refine ⟨hs, V, by omega, h2, picks_len hs [] V v1, v1, h3, ?_, ?_⟩
  · rw [enter34, h3]; exact v2
  · rw [enter14, h4]; exact r
theorem law {l : List D} (hN : AllN l) (hb : dmass.dmAll l ≤ 1048576) : RUN E 6 [.list l] = some [.bool true] := by
  obtain ⟨e, c1, c2, c3⟩ := check.check hN hb
  rw [enter6, enter16, enter17, c1, c2]
  simp only [opt_s, List.getD_cons_zero, tI]
  by_cases he : e = 0
  · subst he
    obtain ⟨hs, V, h1, h2, h3, h4, h5, h6, h7⟩ := both hN hb (c3 rfl)
    rw [dec_t rfl]
    simp only [cond_true, cond_false, h6, h5, h7, opt_s, List.getD_cons_zero, tL]
    have hc := conts hs V h3 h1 h2 hs.length 0 (by omega) [] (by simp)
    rw [List.drop_zero, List.drop_zero, List.nil_append] at hc
    have hc' : L17a (V.map .str) hs (hs.length : Int) 0 [] = _ := hc
    rw [hc']
    simp only [opt_s, List.getD_cons_zero, List.getD_cons_succ, tL, tI]
    rw [same_ent _ (by rw [ents_len hs V h3]; exact h1)]
    simp only [opt_s, List.getD_cons_zero, tB, cond_true]
    rw [idsOf hs V h3 h1]
    simp only [opt_s, List.getD_cons_zero, tL]
    rw [same_str _ (by simp; omega)]
    rfl
  · rw [dec_f he]
    simp [opt_s, tL, tI]
theorem lawR {M : Mem} {v : Value} {l : List D} (h : Rep E.tt M (.slice 33) v (.list l)) (hb : dmass.dmAll [.list l] ≤ 1048576) : RUN E 6 [.list l] = some [.bool true] := by
  simp only [mass_list, mass_nil] at hb
  exact law ((plains.nd_rep (show Rep tt M (.slice 33) v (.list l) from h)).2 rfl) (by omega)
theorem tab {W : World} (hL : laidMetH Tryd.prog Rows.markIdsUptoRow.laid W) : Lib.TabIs Tryd.prog W "internal/strconv.uint64pow10" .u64 Lib.pow10Tab := by
  rw [MakeChecks.laidMetH_plain _ _ _ (by kernel_rfl)] at hL
  have h1 : laidMet Tryd.prog (("internal/strconv.uint64pow10", Lib.tabData .u64 Lib.pow10Tab) :: [("unicode/utf8.acceptRanges", Rows.laid_unicode_utf8_acceptRanges), ("unicode/utf8.first", Rows.laid_unicode_utf8_first)]) W := laidMet.tail (laidMet.tail hL)
  exact Lib.tabIs_of_head (g := 2) (t := 111) (e := 95) (n := 20) (by kernel_rfl) (by kernel_rfl) (by kernel_rfl) (by kernel_rfl) (by kernel_rfl) (by kernel_rfl) h1
end ids
end Go.Proofs.YthbncndefigidaaDoor.md
