/- The part of a document at a heading: the program's and the reference's. -/
import Derived.Test.YthbncndefigidaaDoorDxIdsF
import Derived.Lib.LaidTab
import Derived.MakeChecks
set_option linter.unusedVariables false
set_option linter.unusedSimpArgs false
namespace Go.Proofs.YthbncndefigidaaDoor.md
open Go.Proofs.YthbncndefigidaaDoor.DS
namespace ids
open check hiding opt_s tB tI tS tL fit_t dBytes_bytesD bytesD_len bytesD_app
open heads

/-! ### Numerals differ -/
def dval (l : List UInt8) : Nat := l.foldl (fun v c => v * 10 + (c.toNat - 48)) 0
theorem dval_dec : ∀ n u : Nat, u ≤ n → dval (Lib.decDigits u) = u := by
  intro n
  induction n with
  | zero =>
    intro u hu
    have : u = 0 := by omega
    subst this
    rw [Lib.decDigits_one (by omega)]; rfl
  | succ n ih =>
    intro u hu
    have dg : ∀ d : Nat, d < 10 → (UInt8.ofNat (48 + d)).toNat - 48 = d := by
      intro d hd
      have : (UInt8.ofNat (48 + d)).toNat = 48 + d := by simp; omega
      omega
    by_cases h : u < 10
    · rw [Lib.decDigits_one h]
      show 0 * 10 + ((UInt8.ofNat (48 + u)).toNat - 48) = u
      rw [dg u h]; omega
    · rw [Lib.decDigits, dif_neg h]
      have := ih (u / 10) (by omega)
      unfold dval at this ⊢
      rw [List.foldl_append, this]
      show u / 10 * 10 + ((UInt8.ofNat (48 + u % 10)).toNat - 48) = u
      rw [dg _ (by omega)]; omega
theorem itoa_nat (n : Nat) : Lib.itoa (n : Int) = Lib.decDigits n := by unfold Lib.itoa; rw [if_neg (by omega)]; rfl
def cand (b : List UInt8) (k : Nat) : List UInt8 := b ++ ([45] ++ Lib.itoa (k : Int))
theorem cand_inj {b : List UInt8} {i j : Nat} (h : cand b i = cand b j) : i = j := by
  unfold cand at h
  have h := List.append_cancel_left (List.append_cancel_left h)
  rw [itoa_nat, itoa_nat] at h
  have := congrArg dval h
  rwa [dval_dec i i (Nat.le_refl _), dval_dec j j (Nat.le_refl _)] at this
/-- So many different things are in no shorter row. -/
theorem crowd {α : Type} [DecidableEq α] : ∀ (U : List α) (n : Nat) (c : Nat → α), (∀ i j, i < n → j < n → c i = c j → i = j) → (∀ i, i < n → c i ∈ U) → n ≤ U.length := by
  intro U
  induction U with
  | nil =>
    intro n c _ h
    cases n with
    | zero => exact Nat.le_refl _
    | succ n => exact absurd (h 0 (by omega)) (by simp)
  | cons u r ih =>
    intro n c hc h
    by_cases hm : ∃ m, m < n ∧ c m = u
    · obtain ⟨m, hm, e⟩ := hm
      have := ih (n - 1) (fun i => if i < m then c i else c (i + 1)) (by
        intro i j hi hj e2
        by_cases h1 : i < m <;> by_cases h2 : j < m <;> simp only [h1, h2, if_true, if_false] at e2
        · exact hc i j (by omega) (by omega) e2
        · have := hc i (j + 1) (by omega) (by omega) e2; omega
        · have := hc (i + 1) j (by omega) (by omega) e2; omega
        · have := hc (i + 1) (j + 1) (by omega) (by omega) e2; omega) (by
        intro i hi
        have key : ∀ q, q < n → q ≠ m → c q ∈ r := by
          intro q hq hqm
          rcases List.mem_cons.1 (h q hq) with h3 | h3
          · exact absurd (hc q m hq hm (by rw [h3, e])) hqm
          · exact h3
        by_cases h1 : i < m
        · simp only [h1, if_true]; exact key i (by omega) (by omega)
        · simp only [h1, if_false]; exact key (i + 1) (by omega) (by omega))
      simp only [List.length_cons]; omega
    · have := ih n c hc (fun i hi => by
        rcases List.mem_cons.1 (h i hi) with h3 | h3
        · exact absurd ⟨i, hi, h3⟩ hm
        · exact h3)
      simp only [List.length_cons]; omega
/-- What is picked for a base, beside what is there. -/
def Pick (U : List (List UInt8)) (b id : List UInt8) : Prop :=
  (b ∉ U ∧ id = b) ∨ (b ∈ U ∧ ∃ k : Nat, 2 ≤ k ∧ k ≤ U.length + 2 ∧ id = cand b k ∧ cand b k ∉ U ∧ ∀ j, 2 ≤ j → j < k → cand b j ∈ U)
theorem free (U : List (List UInt8)) (b : List UInt8) : ∃ k : Nat, 2 ≤ k ∧ k ≤ U.length + 2 ∧ cand b k ∉ U ∧ ∀ j, 2 ≤ j → j < k → cand b j ∈ U := by
  have ex : ∃ k : Nat, 2 ≤ k ∧ k ≤ U.length + 2 ∧ cand b k ∉ U := by
    apply Classical.byContradiction
    intro h
    have := crowd U (U.length + 1) (fun i => cand b (i + 2)) (fun i j _ _ e => by have := cand_inj e; omega) (fun i hi => by
      apply Classical.byContradiction
      intro hn
      exact h ⟨i + 2, by omega, by omega, hn⟩)
    omega
  have least : ∀ n k : Nat, k ≤ n → 2 ≤ k → k ≤ U.length + 2 → cand b k ∉ U → ∃ k : Nat, 2 ≤ k ∧ k ≤ U.length + 2 ∧ cand b k ∉ U ∧ ∀ j, 2 ≤ j → j < k → cand b j ∈ U := by
    intro n
    induction n with
    | zero => intro k hk h2; omega
    | succ n ih =>
      intro k hk h2 h3 h4
      by_cases h : ∃ j, 2 ≤ j ∧ j < k ∧ cand b j ∉ U
      · obtain ⟨j, g1, g2, g3⟩ := h
        exact ih j (by omega) g1 (by omega) g3
      · refine ⟨k, h2, h3, h4, fun j g1 g2 => ?_⟩
        apply Classical.byContradiction
        intro hn
        exact h ⟨j, g1, g2, hn⟩
  obtain ⟨k, h1, h2, h3⟩ := ex
  exact least k k (Nat.le_refl _) h1 h2 h3

/-! ### Maps -/
theorem find_put (s t : List UInt8) (v : D) : ∀ kvs : List (D × D), findKV .str (.str s) (putKV .str (.str t) v kvs) = if s = t then some v else findKV .str (.str s) kvs := by
  intro kvs
  induction kvs with
  | nil =>
    by_cases h : s = t
    · simp [putKV, findKV, eqD, D.toStr, h]
    · simp [putKV, findKV, eqD, D.toStr, h]
  | cons p r ih =>
    obtain ⟨a, w⟩ := p
    simp only [putKV]
    by_cases ht : t = a.toStr
    · rw [show eqD .str (.str t) a = true by simp [eqD, D.toStr, ht]]
      simp only [cond_true, findKV]
      by_cases h : s = t
      · rw [show eqD .str (.str s) a = true by simp only [eqD, D.toStr]; rw [h]; exact decide_eq_true ht]
        simp [h]
      · rw [show eqD .str (.str s) a = false by simp only [eqD, D.toStr]; exact decide_eq_false (fun e => h (e.trans ht.symm))]
        simp [h]
    · rw [show eqD .str (.str t) a = false by simp only [eqD, D.toStr]; exact decide_eq_false ht]
      simp only [cond_false, findKV, ih]
      by_cases hs : s = a.toStr
      · rw [show eqD .str (.str s) a = true by simp only [eqD, D.toStr]; exact decide_eq_true hs]
        have : s ≠ t := fun e => ht (by rw [← e, hs])
        simp [this]
      · rw [show eqD .str (.str s) a = false by simp only [eqD, D.toStr]; exact decide_eq_false hs]
        rfl
theorem r40 (n : Int) : RUN E 40 [.int n] = some [.str (Lib.itoa n)] := (RUN_eq _ _ _).trans (by kernel_rfl)

/-! ### A heading's text and base -/
noncomputable def T (x : D) : List UInt8 := D.toStr (((RUN E 38 [.list (kidsOf x)]).getD []).getD 0 .no)
noncomputable def S (x : D) : List UInt8 := D.toStr (((RUN E 7 [.str (T x)]).getD []).getD 0 .no)
noncomputable def B (x : D) : List UInt8 := bif decide (S x = []) then [115, 101, 99, 116, 105, 111, 110] else S x
theorem txt {x : D} (h : Hd x) : (T x).length ≤ 1048570 ∧ (S x).length ≤ 1048570 ∧ RUN E 38 [.list (kidsOf x)] = some [.str (T x)] ∧ RUN E 41 [x] = some [.str (T x)] ∧ RUN E 7 [.str (T x)] = some [.str (S x)] ∧ RUN E 8 [.str (T x)] = some [.str (S x)] := by
  obtain ⟨h1, h2, h3⟩ := h
  have hm : dmass.dmAll (kidsOf x) ≤ 1048570 := by
    cases h1 with
    | mk k v t d ti ks hks =>
      have hmx : dmass (.agg [.int k, .int v, .str t, .str d, .str ti, .list ks]) = 1 + (1 + (t.length + 1 + (d.length + 1 + (ti.length + 1 + (dmass.dmAll ks + 1 + 0))))) := rfl
      show dmass.dmAll ks ≤ 1048570
      omega
  obtain ⟨s, g1, g2, g3⟩ := plain (kidsOf x) h1.kids (by omega) 1 h3
  have hT : T x = s := by unfold T; rw [g1]; rfl
  have h41 : RUN E 41 [x] = some [.str s] := by
    rw [enter41]
    have := g3 [] (by simp; omega)
    show opt (RUN E 59 [D.list [], D.list (kidsOf x)]) _ = _
    rw [this]
    simp only [opt_s, List.getD_cons_zero, tL, List.nil_append, dBytes_bytesD]
  obtain ⟨r, q1, q2, q3⟩ := slugs.same s (by omega)
  have hS : S x = r := by unfold S; rw [hT, q2]; rfl
  rw [hT, hS]
  exact ⟨by omega, by omega, g1, h41, q2, q3⟩
theorem base_len {x : D} (h : Hd x) : (B x).length ≤ 1048577 := by
  have := (txt h).2.1
  unfold B
  cases decide (S x = []) with
  | true => simp
  | false => simp only [cond_false]; omega

/-! ### The program's ids -/
def Inv (U : List (List UInt8)) (m1 m2 : List (D × D)) : Prop :=
  (∀ s, D.toBool ((findKV .str (.str s) m1).getD (.bool false)) = decide (s ∈ U)) ∧
  ∀ b, D.toInt ((findKV .str (.str b) m2).getD (.int 0)) ≤ U.length + 2 ∧ ∀ j : Nat, 2 ≤ j → (j : Int) ≤ D.toInt ((findKV .str (.str b) m2).getD (.int 0)) → cand b j ∈ U
theorem inv_nil : Inv [] [] [] := by
  refine ⟨fun s => ?_, fun b => ⟨?_, fun j hj hl => ?_⟩⟩
  · simp [findKV, D.toBool]
  · show (0 : Int) ≤ _; simp
  · have : (j : Int) ≤ 0 := hl
    omega
theorem inv_add {U : List (List UInt8)} {m1 m2 : List (D × D)} (h : Inv U m1 m2) (id : List UInt8) : Inv (U ++ [id]) (putKV .str (.str id) (.bool true) m1) m2 := by
  refine ⟨fun s => ?_, fun b => ?_⟩
  · rw [find_put]
    by_cases hs : s = id
    · subst hs; rw [if_pos rfl]; simp [D.toBool]
    · rw [if_neg hs, h.1 s]; simp [hs]
  · obtain ⟨h1, h2⟩ := h.2 b
    refine ⟨by simp only [List.length_append, List.length_singleton]; omega, fun j hj hl => List.mem_append_left _ (h2 j hj hl)⟩
theorem inv_next {U : List (List UInt8)} {m1 m2 : List (D × D)} (h : Inv U m1 m2) {b : List UInt8} {k : Nat} (hk : k ≤ U.length + 2) (hall : ∀ j : Nat, 2 ≤ j → j ≤ k → cand b j ∈ U) : Inv U m1 (putKV .str (.str b) (.int k) m2) := by
  refine ⟨h.1, fun b' => ?_⟩
  rw [find_put]
  by_cases hb : b' = b
  · subst hb
    rw [if_pos rfl]
    show (k : Int) ≤ _ ∧ ∀ j : Nat, 2 ≤ j → (j : Int) ≤ (k : Int) → _
    exact ⟨by omega, fun j hj hl => hall j hj (by omega)⟩
  · rw [if_neg hb]; exact h.2 b'
/-- Picks, one after the other. -/
def Picks : List (List UInt8) → List D → List (List UInt8) → Prop
  | _, [], V => V = []
  | U, x :: r, V => ∃ id W, V = id :: W ∧ Pick U (B x) id ∧ Picks (U ++ [id]) r W
theorem map_snoc (U : List (List UInt8)) (t : List UInt8) : U.map D.str ++ [.str t] = (U ++ [t]).map .str := by simp
theorem numbered {hs : List D} {i : Nat} {U : List (List UInt8)} {m1 m2 : List (D × D)} (hI : Inv U m1 m2) (hil : i < hs.length) (hl : hs.length ≤ 1048576) (hU : U.length ≤ i) {b : List UInt8} (hb : b.length ≤ 1048577) {k : Nat} (h2 : 2 ≤ k) (hk : k ≤ U.length + 2) (hf : cand b k ∉ U) :
    ∀ n k0 : Nat, k0 + n = k → 2 ≤ k0 → (∀ j, k0 ≤ j → j < k → cand b j ∈ U) →
      L34c b (k0 : Int) hs (hs.length : Int) (i : Int) (U.map .str) m1 m2 = L34a hs (hs.length : Int) ((i + 1 : Nat) : Int) ((U ++ [cand b k]).map .str) (putKV .str (.str (cand b k)) (.bool true) m1) (putKV .str (.str b) (.int k) m2) := by
  have hil2 : ∀ q : Nat, q ≤ k → (Lib.itoa (q : Int)).length ≤ 20 := fun q hq => itoa_len (by omega) (by omega)
  have common : ∀ k0 : Nat, k0 ≤ k → L34c b (k0 : Int) hs (hs.length : Int) (i : Int) (U.map .str) m1 m2 =
      cond (decide (cand b k0 ∈ U)) (L34c b ((k0 + 1 : Nat) : Int) hs (hs.length : Int) (i : Int) (U.map .str) m1 m2)
        (L34a hs (hs.length : Int) ((i + 1 : Nat) : Int) ((U ++ [cand b k0]).map .str) (putKV .str (.str (cand b k0)) (.bool true) m1) (putKV .str (.str b) (.int k0) m2)) := by
    intro k0 hk0
    have hlen := hil2 k0 hk0
    rw [round34c, r40]
    simp only [opt_s, List.getD_cons_zero, tS]
    rw [lim_t (by simp only [List.length_append, List.length_cons, List.length_nil]; omega), lim_t (by simp only [List.length_append, List.length_cons, List.length_nil]; omega), lim_t (by simp only [List.length_append, List.length_cons, List.length_nil]; omega), lim_t (by simp only [List.length_append, List.length_cons, List.length_nil]; omega), fit_t (by simp; omega), nxt (i := k0) (by omega), nxt (i := i) (by omega)]
    have e : b ++ [45] ++ Lib.itoa (k0 : Int) = cand b k0 := by unfold cand; simp
    have e2 : b ++ ([45] ++ Lib.itoa (k0 : Int)) = cand b k0 := rfl
    rw [e, e2, hI.1, map_snoc]
    rfl
  intro n
  induction n with
  | zero =>
    intro k0 hk0 h20 hall
    have : k0 = k := by omega
    subst this
    rw [common k0 (Nat.le_refl _), dec_f hf]; rfl
  | succ n ih =>
    intro k0 hk0 h20 hall
    rw [common k0 (by omega), dec_t (hall k0 (Nat.le_refl _) (by omega)), cond_true]
    exact ih (k0 + 1) (by omega) (by omega) (fun j g1 g2 => hall j (by omega) g2)
theorem prog (hs : List D) (hl : hs.length ≤ 1048576) (hh : ∀ x ∈ hs, Hd x) : ∀ n i : Nat, i + n = hs.length → ∀ (U : List (List UInt8)) (m1 m2 : List (D × D)), U.length ≤ i → Inv U m1 m2 →
    ∃ V, Picks U (hs.drop i) V ∧ L34a hs (hs.length : Int) (i : Int) (U.map .str) m1 m2 = some [.list ((U ++ V).map .str)] := by
  intro n
  induction n with
  | zero =>
    intro i hi U m1 m2 hU hI
    have : i = hs.length := by omega
    subst this
    refine ⟨[], by rw [List.drop_length]; rfl, ?_⟩
    rw [round34a, dec_f (by omega), List.append_nil]; rfl
  | succ n ih =>
    intro i hi U m1 m2 hU hI
    have hil : i < hs.length := by omega
    have hg : hs.getD i .no = hs[i] := getD_eq hs i .no hil
    have hx := hh hs[i] (List.getElem_mem hil)
    obtain ⟨t1, t2, t3, t4, t5, t6⟩ := txt hx
    have hbl := base_len hx
    have toC : L34a hs (hs.length : Int) (i : Int) (U.map .str) m1 m2 = C34b (B hs[i]) hs (hs.length : Int) (i : Int) (U.map .str) m1 m2 := by
      rw [round34a, dec_t (by omega), inb_nat hil, Int.toNat_natCast, hg, t4]
      simp only [cond_true, opt_s, List.getD_cons_zero, tS]
      rw [t5]
      simp only [opt_s, List.getD_cons_zero, tS]
      unfold B
      cases decide (S hs[i] = []) <;> rfl
    rw [toC, round34b, hI.1, show hs.drop i = hs[i] :: hs.drop (i + 1) by rw [drop_cons .no hil, hg]]
    by_cases hm : B hs[i] ∈ U
    · obtain ⟨k, k1, k2, k3, k4⟩ := free U (B hs[i])
      obtain ⟨q1, q2⟩ := hI.2 (B hs[i])
      rw [dec_t hm, cond_true]
      have hstart : ∃ k0 : Nat, mmInt true (D.toInt ((findKV .str (.str (B hs[i])) m2).getD (.int 0))) 2 = (k0 : Int) ∧ 2 ≤ k0 ∧ k0 ≤ k := by
        generalize D.toInt ((findKV .str (.str (B hs[i])) m2).getD (.int 0)) = a at *
        unfold mmInt
        by_cases ha : a < 2
        · rw [dec_t ha]; exact ⟨2, rfl, by omega, k1⟩
        · rw [dec_f ha]
          refine ⟨a.toNat, by simp only [cond_true, cond_false]; omega, by omega, ?_⟩
          apply Classical.byContradiction
          intro hn
          exact k3 (q2 k k1 (by omega))
      obtain ⟨k0, e0, g1, g2⟩ := hstart
      rw [e0, numbered hI hil hl hU hbl k1 k2 k3 (k - k0) k0 (by omega) g1 (fun j h1 h2 => k4 j (by omega) h2)]
      have hI2 := inv_next (inv_add hI (cand (B hs[i]) k)) (b := B hs[i]) (k := k) (by simp only [List.length_append, List.length_singleton]; omega) (fun j h1 h2 => by
        by_cases hjk : j = k
        · subst hjk; simp
        · exact List.mem_append_left _ (k4 j h1 (by omega)))
      obtain ⟨V, v1, v2⟩ := ih (i + 1) (by omega) (U ++ [cand (B hs[i]) k]) _ _ (by simp; omega) hI2
      refine ⟨cand (B hs[i]) k :: V, ⟨_, V, rfl, .inr ⟨hm, k, k1, k2, rfl, k3, k4⟩, v1⟩, ?_⟩
      rw [v2]; simp
    · rw [dec_f hm, cond_false, fit_t (by simp; omega), cond_true, nxt (i := i) (by omega), map_snoc]
      obtain ⟨V, v1, v2⟩ := ih (i + 1) (by omega) (U ++ [B hs[i]]) _ _ (by simp; omega) (inv_add hI (B hs[i]))
      refine ⟨B hs[i] :: V, ⟨_, V, rfl, .inl ⟨hm, rfl⟩, v1⟩, ?_⟩
      rw [v2]; simp

/-! ### The reference's entries -/
noncomputable def ent (x : D) (id : List UInt8) : D := .agg [.int (D.toInt (D.cell x 1)), .str id, .str (T x)]
def idOf (e : D) : List UInt8 := D.toStr (D.cell e 1)
theorem taken (out : List D) (id : List UInt8) (hl : out.length ≤ 1048576) : RUN E 39 [.list out, .str id] = some [.bool (decide (id ∈ out.map idOf))] := by
  have key : ∀ n i : Nat, i + n = out.length → L39a id out (out.length : Int) (i : Int) = some [.bool (decide (id ∈ (out.drop i).map idOf))] := by
    intro n
    induction n with
    | zero =>
      intro i hi
      have : i = out.length := by omega
      subst this
      rw [round39a, dec_f (by omega), List.drop_length]; simp
    | succ n ih =>
      intro i hi
      have hil : i < out.length := by omega
      rw [round39a, dec_t (by omega), inb_nat hil, Int.toNat_natCast, nxt (by omega), ih (i + 1) (by omega), drop_cons .no hil, List.map_cons]
      show cond true (cond true (cond (decide (idOf (out.getD i .no) = id)) _ _) none) _ = _
      by_cases h : idOf (out.getD i .no) = id
      · have hm : decide (id ∈ idOf (out.getD i .no) :: (out.drop (i + 1)).map idOf) = true := dec_t (by rw [h]; exact List.mem_cons_self)
        rw [dec_t h, hm]; rfl
      · rw [dec_f h]
        simp only [cond_true, cond_false]
        by_cases h2 : id ∈ (out.drop (i + 1)).map idOf
        · rw [dec_t h2, dec_t (List.mem_cons_of_mem _ h2)]
        · rw [dec_f h2, dec_f (fun h3 => by rcases List.mem_cons.1 h3 with h3 | h3; exact h h3.symm; exact h2 h3)]
  rw [enter39]
  have := key out.length 0 (by omega)
  rwa [List.drop_zero] at this
theorem ref_num {hs : List D} {i : Nat} {out : List D} (hil : i < hs.length) (hl : hs.length ≤ 1048576) (ho : out.length ≤ i) {x : D} {b : List UInt8} (hb : b.length ≤ 1048577) {k : Nat} (hk : k ≤ 1048580) (hf : cand b k ∉ out.map idOf) :
    ∀ n k0 : Nat, k0 + n = k → (∀ j, k0 ≤ j → j < k → cand b j ∈ out.map idOf) → ∀ t,
      L14c t b (cand b k0) ((k0 + 1 : Nat) : Int) hs (hs.length : Int) (i : Int) out x = L14a hs (hs.length : Int) ((i + 1 : Nat) : Int) (out ++ [.agg [.int (D.toInt (D.cell x 1)), .str (cand b k), .str t]]) := by
  intro n
  induction n with
  | zero =>
    intro k0 hk0 hall t
    have : k0 = k := by omega
    subst this
    rw [round14c, taken out _ (by omega), dec_f hf]
    simp only [opt_s, List.getD_cons_zero, tB, cond_false]
    rw [nxt (i := i) (by omega)]
    show cond (fitL out.length [D.agg [.int (D.toInt (D.cell x 1)), .str (cand b k0), .str t]].length) _ none = _
    rw [fit_t (by simp; omega)]; rfl
  | succ n ih =>
    intro k0 hk0 hall t
    have hlen : (Lib.itoa ((k0 + 1 : Nat) : Int)).length ≤ 20 := itoa_len (by omega) (by omega)
    rw [round14c, taken out _ (by omega), dec_t (hall k0 (Nat.le_refl _) (by omega)), r40]
    simp only [opt_s, List.getD_cons_zero, tB, tS, cond_true]
    rw [lim_t (by simp only [List.length_append, List.length_cons, List.length_nil]; omega), lim_t (by simp only [List.length_append, List.length_cons, List.length_nil]; omega), nxt (i := k0 + 1) (by omega)]
    have e : b ++ [45] ++ Lib.itoa ((k0 + 1 : Nat) : Int) = cand b (k0 + 1) := by unfold cand; simp
    rw [e]
    exact ih (k0 + 1) (by omega) (fun j g1 g2 => hall j (by omega) g2) t
theorem ref_pick {hs : List D} {i : Nat} {out : List D} (hil : i < hs.length) (hl : hs.length ≤ 1048576) (ho : out.length ≤ i) {x : D} {b id : List UInt8} (hb : b.length ≤ 1048577) (hp : Pick (out.map idOf) b id) (t : List UInt8) :
    C14b t b hs (hs.length : Int) (i : Int) out x = L14a hs (hs.length : Int) ((i + 1 : Nat) : Int) (out ++ [.agg [.int (D.toInt (D.cell x 1)), .str id, .str t]]) := by
  rw [round14b]
  rcases hp with ⟨h1, rfl⟩ | ⟨h1, k, k1, k2, rfl, k3, k4⟩
  · rw [round14c, taken out _ (by omega), dec_f h1]
    simp only [opt_s, List.getD_cons_zero, tB, cond_false]
    rw [nxt (i := i) (by omega)]
    show cond (fitL out.length [D.agg [.int (D.toInt (D.cell x 1)), .str id, .str t]].length) _ none = _
    rw [fit_t (by simp; omega)]; rfl
  · rw [List.length_map] at k2
    have hlen : (Lib.itoa ((2 : Nat) : Int)).length ≤ 20 := itoa_len (by omega) (by omega)
    rw [round14c, taken out _ (by omega), dec_t h1, r40]
    simp only [opt_s, List.getD_cons_zero, tB, tS, cond_true]
    rw [show (2 : Int) = ((2 : Nat) : Int) from rfl, lim_t (by simp only [List.length_append, List.length_cons, List.length_nil]; omega), lim_t (by simp only [List.length_append, List.length_cons, List.length_nil]; omega), nxt (i := 2) (by omega)]
    have e : b ++ [45] ++ Lib.itoa ((2 : Nat) : Int) = cand b 2 := by unfold cand; simp
    rw [e]
    exact ref_num hil hl ho hb (by omega) k3 (k - 2) 2 (by omega) (fun j g1 g2 => k4 j g1 g2) t
noncomputable def ents : List D → List (List UInt8) → List D
  | x :: r, id :: W => ent x id :: ents r W
  | _, _ => []
theorem refE (hs : List D) (hl : hs.length ≤ 1048576) (hh : ∀ x ∈ hs, Hd x) : ∀ n i : Nat, i + n = hs.length → ∀ (out : List D) (V : List (List UInt8)), out.length ≤ i → Picks (out.map idOf) (hs.drop i) V →
    L14a hs (hs.length : Int) (i : Int) out = some [.list (out ++ ents (hs.drop i) V)] := by
  intro n
  induction n with
  | zero =>
    intro i hi out V ho hp
    have : i = hs.length := by omega
    subst this
    rw [round14a, dec_f (by omega), List.drop_length]; simp [ents]
  | succ n ih =>
    intro i hi out V ho hp
    have hil : i < hs.length := by omega
    have hg : hs.getD i .no = hs[i] := getD_eq hs i .no hil
    have hx := hh hs[i] (List.getElem_mem hil)
    obtain ⟨t1, t2, t3, t4, t5, t6⟩ := txt hx
    rw [show hs.drop i = hs[i] :: hs.drop (i + 1) by rw [drop_cons .no hil, hg]] at hp ⊢
    obtain ⟨id, W, rfl, p1, p2⟩ := hp
    have toC : L14a hs (hs.length : Int) (i : Int) out = C14b (T hs[i]) (B hs[i]) hs (hs.length : Int) (i : Int) out hs[i] := by
      rw [round14a, dec_t (by omega), inb_nat hil, Int.toNat_natCast, hg]
      show cond true (cond true (opt (RUN E 38 [.list (kidsOf hs[i])]) _) none) _ = _
      rw [t3]
      simp only [cond_true, opt_s, List.getD_cons_zero, tS]
      rw [t6]
      simp only [opt_s, List.getD_cons_zero, tS]
      unfold B
      cases decide (S hs[i] = []) <;> rfl
    rw [toC, ref_pick hil hl ho (base_len hx) p1]
    have := ih (i + 1) (by omega) (out ++ [ent hs[i] id]) W (by simp; omega) (by rw [List.map_append]; exact p2)
    unfold ent at this
    rw [this]
    simp [ents, ent]
theorem picks_len : ∀ (hs : List D) (U V : List (List UInt8)), Picks U hs V → V.length = hs.length := by
  intro hs
  induction hs with
  | nil => intro U V h; cases h; rfl
  | cons x r ih =>
    intro U V h
    obtain ⟨id, W, rfl, _, h2⟩ := h
    simp [ih _ _ h2]
end ids
end Go.Proofs.YthbncndefigidaaDoor.md

namespace Go.Proofs.YthbncndefigidaaDoor.md
open Go.Proofs.YthbncndefigidaaDoor.DS
namespace ids
open check hiding opt_s tB tI tS tL fit_t dBytes_bytesD bytesD_len bytesD_app
open heads

theorem same_str (l : List D) (hl : l.length ≤ 1048576) : RUN E 19 [.list l, .list l] = some [.bool true] := by
  have key : ∀ n i : Nat, i + n = l.length → L19a l l (l.length : Int) (i : Int) = some [.bool true] := by
    intro n
    induction n with
    | zero => intro i hi; rw [round19a, dec_f (by omega)]; rfl
    | succ n ih =>
      intro i hi
      rw [round19a, dec_t (by omega), inb_nat (show i < l.length by omega), nxt (by omega), ih (i + 1) (by omega), dec_t rfl]; rfl
  rw [enter19, dec_t rfl]
  exact key l.length 0 (by omega)
theorem same_ent (l : List D) (hl : l.length ≤ 1048576) : RUN E 18 [.list l, .list l] = some [.bool true] := by
  have es : ∀ (k : KT) (d : D), plainK k = true → eqD k d d = true := by
    intro k d hk
    cases k with | bool => simp [eqD] | int _ => simp [eqD] | str => simp [eqD] | _ => cases hk
  have key : ∀ n i : Nat, i + n = l.length → L18a l l (l.length : Int) (i : Int) = some [.bool true] := by
    intro n
    induction n with
    | zero => intro i hi; rw [round18a, dec_f (by omega)]; rfl
    | succ n ih =>
      intro i hi
      rw [round18a, dec_t (by omega), inb_nat (show i < l.length by omega), nxt (by omega), ih (i + 1) (by omega), es _ _ rfl, es _ _ rfl, es _ _ rfl]; rfl
  rw [enter18, dec_t rfl]
  exact key l.length 0 (by omega)
theorem ents_len : ∀ (hs : List D) (V : List (List UInt8)), V.length = hs.length → (ents hs V).length = hs.length := by
  intro hs
  induction hs with
  | nil => intro V _; cases V <;> rfl
  | cons x r ih =>
    intro V h
    cases V with
    | nil => simp at h
    | cons v W => simp only [ents, List.length_cons]; rw [ih W (by simpa using h)]
theorem idsOf (hs : List D) (V : List (List UInt8)) (hv : V.length = hs.length) (hl : hs.length ≤ 1048576) : RUN E 20 [.list (ents hs V)] = some [.list (V.map .str)] := by
  have hlen := ents_len hs V hv
  have hget : ∀ (hs : List D) (V : List (List UInt8)), V.length = hs.length → (ents hs V).map idOf = V := by
    intro hs
    induction hs with
    | nil => intro V h; cases V with
      | nil => rfl
      | cons _ _ => simp at h
    | cons x r ih =>
      intro V h
      cases V with
      | nil => simp at h
      | cons v W => simp only [ents, List.map_cons]; rw [ih W (by simpa using h)]; rfl
  have hV := hget hs V hv
  generalize ents hs V = es at *
  have key : ∀ n i : Nat, i + n = es.length → ∀ out : List D, out.length ≤ i → L20a es (es.length : Int) (i : Int) out = some [.list (out ++ ((es.drop i).map idOf).map .str)] := by
    intro n
    induction n with
    | zero =>
      intro i hi out ho
      have : i = es.length := by omega
      subst this
      rw [round20a, dec_f (by omega), List.drop_length]; simp
    | succ n ih =>
      intro i hi out ho
      have hil : i < es.length := by omega
      rw [round20a, dec_t (by omega), inb_nat hil, Int.toNat_natCast, nxt (by omega), fit_t (by simp; omega)]
      simp only [cond_true]
      rw [ih (i + 1) (by omega) _ (by simp; omega), drop_cons .no hil]
      simp [idOf]
  rw [enter20]
  have := key es.length 0 (by omega) [] (by simp)
  rw [List.drop_zero, hV] at this
  exact this
theorem conts (hs : List D) (V : List (List UInt8)) (hv : V.length = hs.length) (hl : hs.length ≤ 1048576) (hh : ∀ x ∈ hs, Hd x) : ∀ n i : Nat, i + n = hs.length → ∀ out : List D, out.length ≤ i →
    L17a (V.map .str) hs (hs.length : Int) (i : Int) out = some [.list (out ++ ents (hs.drop i) (V.drop i)), .int 0] := by
  intro n
  induction n with
  | zero =>
    intro i hi out ho
    have : i = hs.length := by omega
    subst this
    rw [round17a, dec_f (by omega), List.drop_length]; simp [ents]
  | succ n ih =>
    intro i hi out ho
    have hil : i < hs.length := by omega
    have hg : hs.getD i .no = hs[i] := getD_eq hs i .no hil
    obtain ⟨t1, t2, t3, t4, t5, t6⟩ := txt (hh hs[i] (List.getElem_mem hil))
    have hvi : (V.map D.str).getD i .no = .str (V.getD i []) := by
      rw [List.getD_eq_getElem?_getD, List.getElem?_map, List.getD_eq_getElem?_getD, List.getElem?_eq_getElem (show i < V.length by omega)]; rfl
    have e := ih (i + 1) (by omega) (out ++ [ent hs[i] (V.getD i [])]) (by simp; omega)
    unfold ent at e
    rw [round17a, dec_t (by omega), inb_nat hil, inb_nat (show i < (V.map D.str).length by simp; omega), Int.toNat_natCast, nxt (by omega), hg, t4, hvi]
    simp only [cond_true, opt_s, List.getD_cons_zero, tS]
    show cond (fitL out.length [D.agg [.int (D.toInt (D.cell hs[i] 1)), .str (V.getD i []), .str (T hs[i])]].length) (L17a (V.map .str) hs (hs.length : Int) ((i + 1 : Nat) : Int) (out ++ [D.agg [.int (D.toInt (D.cell hs[i] 1)), .str (V.getD i []), .str (T hs[i])]])) none = _
    rw [fit_t (by simp; omega), cond_true, e, drop_cons .no hil, hg, drop_cons [] (show i < V.length by omega)]
    simp [ents, ent]
/-- What both make of a valid document. -/
theorem both {l : List D} (hN : AllN l) (hb : dmass.dmAll l ≤ 1048576) (hv : RUN E 31 [.list l, .int 0] = some [.int 0]) : ∃ hs V, hs.length ≤ 1048576 ∧ (∀ x ∈ hs, Hd x) ∧ V.length = hs.length ∧ Picks [] hs V ∧
    RUN E 35 [.list l] = some [.list hs] ∧ RUN E 34 [.list l] = some [.list (V.map .str)] ∧ RUN E 14 [.list l] = some [.list (ents hs V)] := by
  obtain ⟨hs, h1, h2, h3, h4⟩ := heads.heads l hN hb 0 hv
  obtain ⟨V, v1, v2⟩ := prog hs (by omega) h2 hs.length 0 (by omega) [] [] [] (by simp) inv_nil
  rw [List.drop_zero] at v1
  have r := refE hs (by omega) h2 hs.length 0 (by omega) [] V (by simp) (by rw [List.drop_zero]; exact v1)
  rw [List.drop_zero, List.nil_append] at r
  refine ⟨hs, V, by omega, h2, picks_len hs [] V v1, v1, h3, ?_, ?_⟩
  · rw [enter34, h3]; exact v2
  · rw [enter14, h4]; exact r
theorem law {l : List D} (hN : AllN l) (hb : dmass.dmAll l ≤ 1048576) : RUN E 6 [.list l] = some [.bool true] := by
  obtain ⟨e, c1, c2, c3⟩ := check.check hN hb
  rw [enter6, enter16, enter17, c1, c2]
  simp only [opt_s, List.getD_cons_zero, tI]
  by_cases he : e = 0
  · subst he
    obtain ⟨hs, V, h1, h2, h3, h4, h5, h6, h7⟩ := both hN hb (c3 rfl)
    rw [dec_t rfl]
    simp only [cond_true, cond_false, h6, h5, h7, opt_s, List.getD_cons_zero, tL]
    have hc := conts hs V h3 h1 h2 hs.length 0 (by omega) [] (by simp)
    rw [List.drop_zero, List.drop_zero, List.nil_append] at hc
    have hc' : L17a (V.map .str) hs (hs.length : Int) 0 [] = _ := hc
    rw [hc']
    simp only [opt_s, List.getD_cons_zero, List.getD_cons_succ, tL, tI]
    rw [same_ent _ (by rw [ents_len hs V h3]; exact h1)]
    simp only [opt_s, List.getD_cons_zero, tB, cond_true]
    rw [idsOf hs V h3 h1]
    simp only [opt_s, List.getD_cons_zero, tL]
    rw [same_str _ (by simp; omega)]
    rfl
  · rw [dec_f he]
    simp [opt_s, tL, tI]
theorem lawR {M : Mem} {v : Value} {l : List D} (h : Rep E.tt M (.slice 33) v (.list l)) (hb : dmass.dmAll [.list l] ≤ 1048576) : RUN E 6 [.list l] = some [.bool true] := by
  simp only [mass_list, mass_nil] at hb
  exact law ((plains.nd_rep (show Rep tt M (.slice 33) v (.list l) from h)).2 rfl) (by omega)
theorem tab {W : World} (hL : laidMetH Tryd.prog Rows.markIdsUptoRow.laid W) : Lib.TabIs Tryd.prog W "internal/strconv.uint64pow10" .u64 Lib.pow10Tab := by
  rw [MakeChecks.laidMetH_plain _ _ _ (by kernel_rfl)] at hL
  have h1 : laidMet Tryd.prog (("internal/strconv.uint64pow10", Lib.tabData .u64 Lib.pow10Tab) :: [("unicode/utf8.acceptRanges", Rows.laid_unicode_utf8_acceptRanges), ("unicode/utf8.first", Rows.laid_unicode_utf8_first)]) W := laidMet.tail (laidMet.tail hL)
  exact Lib.tabIs_of_head (g := 2) (t := 111) (e := 95) (n := 20) (by kernel_rfl) (by kernel_rfl) (by kernel_rfl) (by kernel_rfl) (by kernel_rfl) (by kernel_rfl) h1
end ids
end Go.Proofs.YthbncndefigidaaDoor.md

namespace Go.Proofs.YthbncndefigidaaDoor.md
open Go.Proofs.YthbncndefigidaaDoor.DS
namespace secs
open check hiding opt_s tB tI tS tL fit_t dBytes_bytesD bytesD_len bytesD_app
open heads
open ids (ents idOf)

/-- clone gives the same document. -/
theorem clone : ∀ l, AllN l → dmass.dmAll l ≤ 1048576 → RUN E 36 [.list l] = some [.list l] := by
  refine doc_ind ?_
  intro l hN hk hb
  have hlen := len_le hN
  have loop : ∀ r i : Nat, i + r = l.length → L36a l l.length i (l.take i) = some [.list l] := by
    intro r
    induction r with
    | zero =>
      intro i hi
      rw [round36a, dec_f (by omega), List.take_of_length_le (by omega)]; rfl
    | succ r ih =>
      intro i hi
      have hil : i < l.length := by omega
      have hx := hN l[i] (List.getElem_mem hil)
      have hdm := drop_mass hil
      have hdl := drop_le l i
      have hkid := hk l[i] (List.getElem_mem hil)
      have hnext : IntKind.wrap .i64 ((i : Int) + 1) = ((i + 1 : Nat) : Int) := by rw [wrap_id (by omega) (by omega)]; omega
      have hg : l.getD i .no = l[i] := getD_eq l i .no hil
      have ht : l.take (i + 1) = l.take i ++ [l[i]] := by rw [List.take_succ_eq_append_getElem hil]
      have e1 := ih (i + 1) (by omega)
      rw [ht] at e1
      have hf : ∀ y : D, fitL (l.take i).length ([y]).length = true := fun y => fit_t (by simp; omega)
      generalize l[i] = x at *
      cases hx with
      | mk k v t d ti ks hks =>
        have hmx : dmass (.agg [.int k, .int v, .str t, .str d, .str ti, .list ks]) = 1 + (1 + (t.length + 1 + (d.length + 1 + (ti.length + 1 + (dmass.dmAll ks + 1 + 0))))) := rfl
        replace hkid := hkid (show dmass.dmAll ks ≤ 1048576 by omega)
        replace hkid : RUN E 36 [.list ks] = some [.list ks] := hkid
        rw [round36a, dec_t (by omega), inb_nat hil]
        simp only [cond_true, Int.toNat_natCast, hg, D.cell, D.cells, List.getD_cons_zero, List.getD_cons_succ, tI, tS, tL, hkid, opt_s, hnext, hf, e1]
  rw [enter36]
  exact loop l.length 0 (by omega)
/-- A document is the same as itself. -/
theorem same : ∀ l, AllN l → dmass.dmAll l ≤ 1048576 → RUN E 15 [.list l, .list l] = some [.bool true] := by
  refine doc_ind ?_
  intro l hN hk hb
  have hlen := len_le hN
  have loop : ∀ r i : Nat, i + r = l.length → L15a l l l.length i = some [.bool true] := by
    intro r
    induction r with
    | zero =>
      intro i hi
      rw [round15a, dec_f (by omega)]; rfl
    | succ r ih =>
      intro i hi
      have hil : i < l.length := by omega
      have hx := hN l[i] (List.getElem_mem hil)
      have hdm := drop_mass hil
      have hdl := drop_le l i
      have hmx := mass_nd hx
      have hkid := hk l[i] (List.getElem_mem hil) (by omega)
      have hnext : IntKind.wrap .i64 ((i : Int) + 1) = ((i + 1 : Nat) : Int) := by rw [wrap_id (by omega) (by omega)]; omega
      have hg : l.getD i .no = l[i] := getD_eq l i .no hil
      have hki : D.toList (D.cell l[i] 5) = kidsOf l[i] := rfl
      have e1 := ih (i + 1) (by omega)
      rw [round15a, dec_t (by omega), inb_nat hil]
      simp only [cond_true, Int.toNat_natCast, hg, hki, hkid, hnext, e1]
      simp [opt_s, tB, e1]
      try exact_mod_cast e1
  rw [enter15]
  simp only [dec_t, cond_true, cond_false]
  exact loop l.length 0 (by omega)
/-! ### Headings, node by node -/
noncomputable def Hn (x : D) : List D := (bif decide (D.toInt (D.cell x 0) = 1) then [x] else []) ++ D.toList (((RUN E 35 [.list (kidsOf x)]).getD []).getD 0 .no)
theorem hn_kids {x : D} (hx : Nd x) (hb : dmass x ≤ 1048576) (v2 : RUN E 31 [.list (kidsOf x), .int (D.toInt (D.cell x 0))] = some [.int 0]) :
    ∃ hk, RUN E 35 [.list (kidsOf x)] = some [.list hk] ∧ Hn x = (bif decide (D.toInt (D.cell x 0) = 1) then [x] else []) ++ hk ∧ (Hn x).length ≤ dmass x ∧ hk.length ≤ dmass x := by
  have hm := mass_nd hx
  obtain ⟨hk, h1, _, h3, _⟩ := heads.heads (kidsOf x) hx.kids (by omega) _ v2
  refine ⟨hk, h3, ?_, ?_, by omega⟩
  · unfold Hn; rw [h3]; rfl
  · unfold Hn; rw [h3]
    show ((bif decide (D.toInt (D.cell x 0) = 1) then [x] else []) ++ hk).length ≤ _
    rw [List.length_append]
    cases decide (D.toInt (D.cell x 0) = 1) with
    | true => simp only [cond_true, List.length_singleton]; omega
    | false => simp only [cond_false, List.length_nil]; omega
theorem flat {l : List D} (hN : AllN l) (hb : dmass.dmAll l ≤ 1048576) {p : Int} (hv0 : RUN E 31 [.list l, .int p] = some [.int 0]) : RUN E 35 [.list l] = some [.list (l.flatMap Hn)] := by
  have hlen := len_le hN
  have hv := valid hN hb hv0
  have loop : ∀ r i : Nat, i + r = l.length → ∀ out : List D, out.length + dmass.dmAll (l.drop i) ≤ 4194304 → L35a l l.length i out = some [.list (out ++ (l.drop i).flatMap Hn)] := by
    intro r
    induction r with
    | zero =>
      intro i hi out _
      have : i = l.length := by omega
      subst this
      rw [round35a, dec_f (by omega), List.drop_length]; simp
    | succ r ih =>
      intro i hi out ho
      have hil : i < l.length := by omega
      have hx := hN l[i] (List.getElem_mem hil)
      have hdm := drop_mass hil
      have hdl := drop_le l i
      obtain ⟨v1, v2⟩ := hv i hil
      have hg : l.getD i .no = l[i] := getD_eq l i .no hil
      obtain ⟨hk, k1, k2, k3, k4⟩ := hn_kids hx (by omega) v2
      rw [round35a, dec_t (by omega), inb_nat hil, Int.toNat_natCast, nxt (by omega), hg]
      show cond true (cond true (cond (decide (D.toInt (D.cell l[i] 0) = 1)) (cond (fitL out.length [l[i]].length) (opt (RUN E 35 [.list (kidsOf l[i])]) _) none) (opt (RUN E 35 [.list (kidsOf l[i])]) _)) none) _ = _
      rw [k1, show l.drop i = l[i] :: l.drop (i + 1) by rw [drop_cons .no hil, hg], List.flatMap_cons, k2]
      rw [k2] at k3
      cases h1 : decide (D.toInt (D.cell l[i] 0) = 1) with
      | true =>
        rw [h1] at k3
        simp only [cond_true, List.length_append, List.length_singleton] at k3
        simp only [cond_true, opt_s, List.getD_cons_zero, tL]
        rw [fit_t (by simp; omega), fit_t (by simp; omega)]
        simp only [cond_true]
        rw [ih (i + 1) (by omega) _ (by simp; omega)]
        simp
      | false =>
        simp only [cond_true, cond_false, opt_s, List.getD_cons_zero, tL]
        rw [fit_t (by omega)]
        simp only [cond_true]
        rw [ih (i + 1) (by omega) _ (by simp; omega)]
        simp
  rw [enter35]
  have := loop l.length 0 (by omega) [] (by simp; omega)
  rwa [List.drop_zero, List.nil_append] at this
/-- A row of valid nodes is valid. -/
theorem mk_valid {l : List D} (hl : l.length ≤ 1048576) {p : Int} (h : ∀ j (hj : j < l.length), RUN E 53 [l[j], .int p] = some [.int 0] ∧ RUN E 31 [.list (kidsOf l[j]), .int (D.toInt (D.cell l[j] 0))] = some [.int 0]) : RUN E 31 [.list l, .int p] = some [.int 0] := by
  have key : ∀ n i : Nat, i + n = l.length → L31a p l l.length i = some [.int 0] := by
    intro n
    induction n with
    | zero => intro i hi; rw [round31a, dec_f (by omega)]; rfl
    | succ n ih =>
      intro i hi
      have hil : i < l.length := by omega
      have hg : l.getD i .no = l[i] := getD_eq l i .no hil
      obtain ⟨v1, v2⟩ := h i hil
      rw [round31a, dec_t (by omega), inb_nat hil, Int.toNat_natCast, nxt (by omega), hg, v1]
      simp only [cond_true, cond_false, opt_s, List.getD_cons_zero, tI, decide_true]
      show opt (RUN E 31 [.list (kidsOf l[i]), .int (D.toInt (D.cell l[i] 0))]) _ = _
      rw [v2]
      simp only [cond_true, cond_false, opt_s, List.getD_cons_zero, tI, decide_true]
      exact ih (i + 1) (by omega)
  rw [enter31]
  exact key l.length 0 (by omega)
theorem mass_take (l : List D) : ∀ i, dmass.dmAll (l.take i) ≤ dmass.dmAll l := by
  induction l with
  | nil => intro i; simp
  | cons x r ih =>
    intro i
    cases i with
    | zero => simp [dmass.dmAll]
    | succ i => have := ih i; simp only [List.take_succ_cons, dmass.dmAll]; omega

/-! ### Where a part ends -/
theorem ends (doc : List D) (hl : doc.length ≤ 1048576) (x : D) (i : Nat) : ∀ n q : Nat, q + n = doc.length → i < q → ∃ k, i ≤ k ∧ k ≤ doc.length ∧
    L13b doc (i : Int) (q : Int) x = opt (RUN E 36 [.list (sub doc i k)]) (fun ρ => some [.list (D.toList (List.getD ρ 0 .no)), .int 0]) ∧
    ∀ l : List D, L5b doc l 0 (i : Int) (q : Int) x = opt (RUN E 15 [.list l, .list (sub doc i k)]) (fun ρ => some [.bool (D.toBool (List.getD ρ 0 .no))]) := by
  intro n
  induction n with
  | zero =>
    intro q hq hi
    have : q = doc.length := by omega
    subst this
    refine ⟨doc.length, by omega, Nat.le_refl _, ?_, fun l => ?_⟩
    · rw [round13b, dec_f (p := ((doc.length : Nat) : Int) < (doc.length : Int)) (by omega), inb_f (.inr (Int.le_refl _)), cutOk_both (by omega) (Nat.le_refl _), cut_both]
      cases decide (D.toInt (D.cell (doc.getD ((doc.length : Nat) : Int).toNat .no) 0) = 1) <;> rfl
    · rw [round5b, dec_f (p := ((doc.length : Nat) : Int) < (doc.length : Int)) (by omega), inb_f (.inr (Int.le_refl _)), cutOk_both (by omega) (Nat.le_refl _), cut_both]
      cases decide (D.toInt (D.cell (doc.getD ((doc.length : Nat) : Int).toNat .no) 0) = 1) <;> rfl
  | succ n ih =>
    intro q hq hi
    have hql : q < doc.length := by omega
    obtain ⟨k, k1, k2, k3, k4⟩ := ih (q + 1) (by omega) (by omega)
    cases ht : (bif decide (D.toInt (D.cell (doc.getD q .no) 0) = 1) then decide (D.toInt (D.cell (doc.getD q .no) 1) ≤ D.toInt (D.cell x 1)) else false) with
    | true =>
      refine ⟨q, by omega, by omega, ?_, fun l => ?_⟩
      · rw [round13b, dec_t (p := (q : Int) < (doc.length : Int)) (by omega), inb_nat hql, Int.toNat_natCast, cutOk_both (by omega) (by omega), cut_both, ht]; rfl
      · rw [round5b, dec_t (p := (q : Int) < (doc.length : Int)) (by omega), inb_nat hql, Int.toNat_natCast, cutOk_both (by omega) (by omega), cut_both, ht]; rfl
    | false =>
      refine ⟨k, k1, k2, ?_, fun l => ?_⟩
      · rw [round13b, dec_t (p := (q : Int) < (doc.length : Int)) (by omega), inb_nat hql, Int.toNat_natCast, nxt (by omega), ht, k3]; rfl
      · rw [round5b, dec_t (p := (q : Int) < (doc.length : Int)) (by omega), inb_nat hql, Int.toNat_natCast, nxt (by omega), ht, k4]; rfl
theorem mem_sub {l : List D} {i k : Nat} {x : D} (h : x ∈ sub l i k) : x ∈ l := List.mem_of_mem_take (List.mem_of_mem_drop h)
theorem ents_id (hs : List D) (V : List (List UInt8)) (hv : V.length = hs.length) {j : Nat} (hj : j < V.length) : D.toStr (D.cell ((ents hs V).getD j .no) 1) = V.getD j [] := by
  have key : ∀ (hs : List D) (V : List (List UInt8)), V.length = hs.length → ∀ j, j < V.length → D.toStr (D.cell ((ents hs V).getD j .no) 1) = V.getD j [] := by
    intro hs
    induction hs with
    | nil => intro V h j hj; simp at h; subst h; simp at hj
    | cons x r ih =>
      intro V h j hj
      cases V with
      | nil => simp at hj
      | cons v W =>
        cases j with
        | zero => rfl
        | succ j =>
          simp only [ents, List.getD_cons_succ]
          exact ih W (by simpa using h) j (by simpa using hj)
  exact key hs V hv j hj
section
variable {doc : List D} (hN : AllN doc) (hb : dmass.dmAll doc ≤ 1048576) (hv0 : RUN E 31 [.list doc, .int 0] = some [.int 0])
noncomputable def hcount (doc : List D) (i : Nat) : Nat := ((doc.take i).flatMap Hn).length
theorem hcount_succ {i : Nat} (hi : i < doc.length) : hcount doc (i + 1) = hcount doc i + (Hn (doc.getD i .no)).length := by
  unfold hcount
  rw [take_snoc .no hi, List.flatMap_append, List.length_append]
  simp
include hN hb hv0 in
theorem steps (id : List UInt8) {V : List (List UInt8)} (hV : V.length = (doc.flatMap Hn).length) : ∀ n i : Nat, i + n = doc.length → ∃ r e,
    L13a doc id ((V.drop (hcount doc i)).map .str) doc (doc.length : Int) (i : Int) = some [.list r, .int e] ∧ L5a doc id r e (ents (doc.flatMap Hn) V) doc (doc.length : Int) (i : Int) = some [.bool true] := by
  have hlen := len_le hN
  have hv := valid hN hb hv0
  intro n
  induction n with
  | zero =>
    intro i hi
    refine ⟨[], 7, ?_, ?_⟩
    · rw [round13a, dec_f (by omega)]; rfl
    · rw [round5a, dec_f (by omega)]; rfl
  | succ n ih =>
    intro i hi
    have hil : i < doc.length := by omega
    have hg : doc.getD i .no = doc[i] := getD_eq doc i .no hil
    have hx := hN doc[i] (List.getElem_mem hil)
    obtain ⟨v1, v2⟩ := hv i hil
    have hmem := mass_mem (List.getElem_mem hil : doc[i] ∈ doc)
    obtain ⟨hk, k1, k2, k3, k4⟩ := hn_kids hx (by omega) v2
    -- the headings of this node alone
    have h1 : RUN E 35 [.list [doc[i]]] = some [.list (Hn doc[i])] := by
      have hs : RUN E 31 [.list [doc[i]], .int 0] = some [.int 0] := mk_valid (by simp) (fun j hj => by
        have : j = 0 := by simp at hj; omega
        subst this
        exact ⟨v1, v2⟩)
      have := flat (l := [doc[i]]) (fun y hy => by rw [List.mem_singleton.1 hy]; exact hx) (by simp only [dmass.dmAll]; omega) hs
      simpa using this
    -- the entries ahead
    have h2 : ∃ es : List D, es.length = hcount doc i ∧ RUN E 14 [.list (doc.take i)] = some [.list es] := by
      have ht : RUN E 31 [.list (doc.take i), .int 0] = some [.int 0] := mk_valid (by simp; omega) (fun j hj => by
        have hj' : j < doc.length := by simp at hj; omega
        have := hv j hj'
        rw [List.getElem_take]; exact this)
      have hNt : AllN (doc.take i) := fun y hy => hN y (List.mem_of_mem_take hy)
      have hmt := mass_take doc i
      obtain ⟨hs', V', _, _, q3, _, q5, _, q7⟩ := ids.both hNt (by omega) ht
      have := flat hNt (by omega) ht
      rw [q5] at this
      injection this with this; injection this with this; injection this with this
      refine ⟨_, ?_, q7⟩
      rw [ids.ents_len _ _ q3, this]; rfl
    obtain ⟨es, es1, es2⟩ := h2
    have hc1 := hcount_succ (doc := doc) hil
    rw [hg] at hc1
    have htot : hcount doc (i + 1) ≤ V.length := by
      rw [hV]
      have : doc.flatMap Hn = (doc.take (i + 1)).flatMap Hn ++ (doc.drop (i + 1)).flatMap Hn := by rw [← List.flatMap_append, List.take_append_drop]
      rw [this, List.length_append]
      exact Nat.le_add_right _ _
    obtain ⟨r, e, f1, f2⟩ := ih (i + 1) (by omega)
    have hel := ids.ents_len (doc.flatMap Hn) V hV
    obtain ⟨k, kk1, kk2, kk3, kk4⟩ := ends doc (by omega) doc[i] i n (i + 1) (by omega) (by omega)
    have hdrop : (V.drop (hcount doc i)).map D.str = (V.drop (hcount doc i)).map D.str := rfl
    have l0 : hcount doc i < V.length → D.toStr (((V.drop (hcount doc i)).map D.str).getD 0 .no) = V.getD (hcount doc i) [] := by
      intro h
      rw [drop_cons [] h]; rfl
    have h13 : L13a doc id ((V.drop (hcount doc i)).map .str) doc (doc.length : Int) (i : Int) =
        cond (bif inb 0 ((V.drop (hcount doc i)).map D.str).length then true else bif bif decide (D.toInt (D.cell doc[i] 0) = 1) then true else false then false else true)
          (cond (bif decide (D.toInt (D.cell doc[i] 0) = 1) then decide (D.toStr (((V.drop (hcount doc i)).map D.str).getD 0 .no) = id) else false) (L13b doc (i : Int) ((i + 1 : Nat) : Int) doc[i])
            (L13a doc id ((V.drop (hcount doc (i + 1))).map .str) doc (doc.length : Int) ((i + 1 : Nat) : Int))) none := by
      rw [round13a, dec_t (by omega), inb_nat hil, Int.toNat_natCast, nxt (by omega), cutOk_both (by omega) (by omega), cut_both, sub_one .no hil, hg, h1]
      simp only [cond_true, opt_s, List.getD_cons_zero, tL]
      rw [cutOk_lo (by simp; omega), cut_lo, ← List.map_drop, List.drop_drop, ← hc1]; rfl
    have h5 : ∀ (r : List D) (e : Int), L5a doc id r e (ents (doc.flatMap Hn) V) doc (doc.length : Int) (i : Int) =
        cond (bif inb ((hcount doc i : Nat) : Int) (ents (doc.flatMap Hn) V).length then true else bif bif bif decide (D.toInt (D.cell doc[i] 0) = 1) then false else true then false else true then false else true)
          (cond (bif bif decide (D.toInt (D.cell doc[i] 0) = 1) then false else true then true else bif decide (D.toStr (D.cell ((ents (doc.flatMap Hn) V).getD (hcount doc i) .no) 1) = id) then false else true)
            (L5a doc id r e (ents (doc.flatMap Hn) V) doc (doc.length : Int) ((i + 1 : Nat) : Int)) (L5b doc r e (i : Int) ((i + 1 : Nat) : Int) doc[i])) none := by
      intro r e
      rw [round5a, dec_t (by omega), inb_nat hil, Int.toNat_natCast, nxt (by omega), cutOk_hi (by omega), cut_hi, hg, es2]
      simp only [cond_true, opt_s, List.getD_cons_zero, tL, es1, Int.toNat_natCast]
    cases hkd : decide (D.toInt (D.cell doc[i] 0) = 1) with
    | false =>
      refine ⟨r, e, ?_, ?_⟩
      · rw [h13, hkd]
        cases inb 0 ((V.drop (hcount doc i)).map D.str).length <;> exact f1
      · rw [h5, hkd]
        cases inb ((hcount doc i : Nat) : Int) (ents (doc.flatMap Hn) V).length <;> exact f2
    | true =>
      have hlt : hcount doc i < V.length := by
        rw [hkd] at k2
        have : (Hn doc[i]).length = 1 + hk.length := by rw [k2]; simp; omega
        omega
      have hin0 : inb 0 ((V.drop (hcount doc i)).map D.str).length = true := inb_nat (i := 0) (by simp; omega)
      have hin1 : inb ((hcount doc i : Nat) : Int) (ents (doc.flatMap Hn) V).length = true := inb_nat (by rw [hel, ← hV]; exact hlt)
      by_cases hid : V.getD (hcount doc i) [] = id
      · have hNs : AllN (sub doc i k) := fun y hy => hN y (mem_sub hy)
        have hms : dmass.dmAll (sub doc i k) ≤ 1048576 := by
          unfold sub
          have a := drop_le (doc.take k) i
          have b := mass_take doc k
          omega
        refine ⟨sub doc i k, 0, ?_, ?_⟩
        · rw [h13, hkd, hin0, l0 hlt, dec_t hid]
          simp only [cond_true]
          rw [kk3, clone _ hNs hms]; rfl
        · rw [h5, hkd, hin1, ents_id _ _ hV hlt, dec_t hid]
          simp only [cond_true, cond_false]
          rw [kk4, same _ hNs hms]; rfl
      · refine ⟨r, e, ?_, ?_⟩
        · rw [h13, hkd, hin0, l0 hlt, dec_f hid]
          simp only [cond_true, cond_false]
          exact f1
        · rw [h5, hkd, hin1, ents_id _ _ hV hlt, dec_f hid]
          simp only [cond_true, cond_false]
          exact f2
end
theorem law {l : List D} (hN : AllN l) (hb : dmass.dmAll l ≤ 1048576) (id : List UInt8) : RUN E 5 [.list l, .str id] = some [.bool true] := by
  obtain ⟨e, c1, c2, c3⟩ := check.check hN hb
  rw [enter5, enter13, c1, c2]
  simp only [opt_s, List.getD_cons_zero, tI]
  by_cases he : e = 0
  · subst he
    have hv := c3 rfl
    obtain ⟨hs, V, h1, h2, h3, h4, h5, h6, h7⟩ := ids.both hN hb hv
    have hf := flat hN hb hv
    rw [h5] at hf
    injection hf with hf; injection hf with hf; injection hf with hf
    subst hf
    obtain ⟨r, e, s1, s2⟩ := steps hN hb hv id h3 l.length 0 (by omega)
    have hc0 : hcount l 0 = 0 := rfl
    rw [hc0, List.drop_zero] at s1
    rw [dec_t rfl]
    simp only [cond_true, cond_false, h6, h7, opt_s, List.getD_cons_zero, tL]
    have s1' : L13a l id (V.map .str) l (l.length : Int) 0 = _ := s1
    rw [s1']
    simp only [opt_s, List.getD_cons_zero, List.getD_cons_succ, tL, tI]
    exact s2
  · rw [dec_f he]
    simp [opt_s, tL, tI]
theorem lawR {M M' : Mem} {v v' : Value} {l : List D} {s : List UInt8} (h : Rep E.tt M (.slice 33) v (.list l)) (_ : Rep E.tt M' .str v' (.str s)) (hb : dmass.dmAll [.list l, .str s] ≤ 1048576) : RUN E 5 [.list l, .str s] = some [.bool true] := by
  simp only [mass_list, mass_nil, mass_str] at hb
  exact law (l := l) ((plains.nd_rep (show Rep tt M (.slice 33) v (.list l) from h)).2 rfl) (by omega) s
theorem tab {W : World} (hL : laidMetH Tryd.prog Rows.markSectionsUptoRow.laid W) : Lib.TabIs Tryd.prog W "internal/strconv.uint64pow10" .u64 Lib.pow10Tab := by
  rw [MakeChecks.laidMetH_plain _ _ _ (by kernel_rfl)] at hL
  have h1 : laidMet Tryd.prog (("internal/strconv.uint64pow10", Lib.tabData .u64 Lib.pow10Tab) :: [("unicode/utf8.acceptRanges", Rows.laid_unicode_utf8_acceptRanges), ("unicode/utf8.first", Rows.laid_unicode_utf8_first)]) W := laidMet.tail (laidMet.tail hL)
  exact Lib.tabIs_of_head (g := 2) (t := 111) (e := 95) (n := 20) (by kernel_rfl) (by kernel_rfl) (by kernel_rfl) (by kernel_rfl) (by kernel_rfl) (by kernel_rfl) h1
end secs
end Go.Proofs.YthbncndefigidaaDoor.md
