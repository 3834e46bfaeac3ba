import Derived.Test.YtjofkhdnidjleaaDoorDxSecsB
import Derived.Lib.IndexMore
import Derived.Lib.LaidTab
import Derived.MakeChecks
set_option linter.unusedVariables false
set_option linter.unusedSimpArgs false
namespace Go.Proofs.YtjofkhdnidjleaaDoor.ps
open Go.Proofs.YtjofkhdnidjleaaDoor.DS
namespace secs

theorem r21 (n : Int) : RUN E 21 [.int n] = some [.str (Lib.itoa n)] := (RUN_eq _ _ _).trans (by kernel_rfl)
theorem r19e (s t : List UInt8) : RUN E 19 [.str s, .str t] = cond (decide (s.length < 4294967281)) (some [.int (Lib.index s t)]) none := (RUN_eq _ _ _).trans (by kernel_rfl)
theorem r19 {s : List UInt8} (h : s.length ≤ 1048576) (t : List UInt8) : RUN E 19 [.str s, .str t] = some [.int (Lib.index s t)] := by rw [r19e, dec_t (by omega)]; rfl
def lev (x : D) : Int := D.toInt (D.cell x 0)
def nam (x : D) : List UInt8 := D.toStr (D.cell x 1)
def sgn (x : D) : List UInt8 := [60, 104] ++ Lib.itoa (lev x) ++ [32, 105, 100, 61, 34] ++ nam x ++ [34, 62]
/-- An entry whose numbers and strings are no greater than a machine's. -/
def Ent (x : D) : Prop := (Lib.itoa (lev x)).length ≤ 20 ∧ (nam x).length ≤ 1048576
theorem sgn_ne (x : D) : sgn x ≠ [] := by simp [sgn]
theorem r18 (n : Int) : RUN E 18 [.int n] = some [.str (Lib.itoa n)] := by rw [enter18, r21]; rfl
theorem tag {β : Type} {x : D} (h : Ent x) (f : List UInt8 → Option β) :
    (opt (some [D.str (Lib.itoa (lev x))]) fun ρ2 =>
      cond (decide (List.length (Array.toList (ByteArray.data { data := #[60, 104] })) + List.length (D.toStr (List.getD ρ2 0 D.no)) ≤ lim))
        (cond (decide (List.length (Array.toList (ByteArray.data { data := #[60, 104] }) ++ D.toStr (List.getD ρ2 0 D.no)) + List.length (Array.toList (ByteArray.data { data := #[32, 105, 100, 61, 34] })) ≤ lim))
          (cond (decide (List.length (Array.toList (ByteArray.data { data := #[60, 104] }) ++ D.toStr (List.getD ρ2 0 D.no) ++ Array.toList (ByteArray.data { data := #[32, 105, 100, 61, 34] })) + List.length (nam x) ≤ lim))
            (cond (decide (List.length (Array.toList (ByteArray.data { data := #[60, 104] }) ++ D.toStr (List.getD ρ2 0 D.no) ++ Array.toList (ByteArray.data { data := #[32, 105, 100, 61, 34] }) ++ nam x) + List.length (Array.toList (ByteArray.data { data := #[34, 62] })) ≤ lim))
              (f (Array.toList (ByteArray.data { data := #[60, 104] }) ++ D.toStr (List.getD ρ2 0 D.no) ++ Array.toList (ByteArray.data { data := #[32, 105, 100, 61, 34] }) ++ nam x ++ Array.toList (ByteArray.data { data := #[34, 62] })))
              none) none) none) none) = f (sgn x) := by
  obtain ⟨h1, h2⟩ := h
  simp only [opt_s, List.getD_cons_zero, tS]
  rw [lim_t (by simp; omega), cond_true, lim_t (by simp; omega), cond_true, lim_t (by simp; omega), cond_true, lim_t (by simp; omega), cond_true]
  rfl
theorem r32 {x : D} (h : Ent x) : RUN E 32 [x] = some [.str (sgn x)] := by
  rw [enter32, r21]
  exact tag h fun s => (some [D.str s] : R)

section
variable (H : List UInt8) (id : List UInt8)
def inner (f : Nat) (x : D) : List D → List UInt8 × Bool
  | [] => (H.drop f, true)
  | y :: r => bif decide (lev x < lev y) then inner f x r else
    bif decide (Lib.index (H.drop (f + (sgn x).length)) (sgn y) < 0) then ([], false) else (sub H f (f + (sgn x).length + (Lib.index (H.drop (f + (sgn x).length)) (sgn y)).toNat), true)
def from1 (x : D) (r : List D) : List UInt8 × Bool := bif decide (Lib.index H (sgn x) < 0) then ([], false) else inner H (Lib.index H (sgn x)).toNat x r
def sec : List D → List UInt8 × Bool
  | [] => ([], false)
  | x :: r => bif decide (nam x = id) then from1 H x r else sec r
end
theorem take_drop' {α : Type} (H : List α) (f n : Nat) : (H.drop f).take n = sub H f (f + n) := by unfold sub; rw [List.drop_take]; congr 1; omega

section
variable (c : D) (id : List UInt8) (hH : (D.toStr (D.cell c 0)).length ≤ 1048576) (hl : (D.toList (D.cell c 3)).length ≤ 1048576) (hE : ∀ x ∈ D.toList (D.cell c 3), Ent x)

include hH in
theorem prog_in {x : D} (hx : Ent x) {f : Nat} (hf : f + (sgn x).length ≤ (D.toStr (D.cell c 0)).length) (v : List D) (hv : v.length ≤ 1048576) (hEv : ∀ y ∈ v, Ent y) : ∀ n j : Nat, j + n = v.length →
    L17b (f : Int) v (v.length : Int) (j : Int) c x = some [.str (inner (D.toStr (D.cell c 0)) f x (v.drop j)).1, .bool (inner (D.toStr (D.cell c 0)) f x (v.drop j)).2] := by
  intro n
  induction n with
  | zero =>
    intro j hj
    have : j = v.length := by omega
    subst this
    rw [round17b, dec_f (by omega), cond_false, cutOk_lo (by omega), cond_true, cut_lo, List.drop_length]; rfl
  | succ n ih =>
    intro j hj
    have hjl : j < v.length := by omega
    have hy : Ent (v.getD j .no) := by rw [List.getD_eq_getElem?_getD, List.getElem?_eq_getElem hjl]; exact hEv _ (List.getElem_mem hjl)
    have hw : IntKind.wrap IntKind.i64 ((f : Int) + ((sgn x).length : Int)) = ((f + (sgn x).length : Nat) : Int) := by rw [wrap_id (by omega) (by omega)]; omega
    rw [round17b, dec_t (by omega), cond_true, inb_nat hjl, cond_true, Int.toNat_natCast, nxt (by omega), ih (j + 1) (by omega), drop_cons D.no hjl, r32 hx, r32 hy]
    simp only [opt_s, List.getD_cons_zero, tS, inner, hw]
    show cond (decide (lev x < lev (v.getD j .no))) _ _ = _
    by_cases c1 : lev x < lev (v.getD j .no)
    · rw [dec_t c1]; rfl
    · rw [dec_f c1, cond_false, cond_false, cutOk_lo (by omega), cond_true, cut_lo, r19 (by rw [List.length_drop]; omega)]
      simp only [opt_s, List.getD_cons_zero, tI]
      by_cases c2 : Lib.index ((D.toStr (D.cell c 0)).drop (f + (sgn x).length)) (sgn (v.getD j .no)) < 0
      · rw [dec_t c2]; rfl
      · have hr := Lib.index_room ((D.toStr (D.cell c 0)).drop (f + (sgn x).length)) (sgn (v.getD j .no)) (by omega)
        obtain ⟨k, hk⟩ : ∃ k : Nat, Lib.index ((D.toStr (D.cell c 0)).drop (f + (sgn x).length)) (sgn (v.getD j .no)) = (k : Int) := ⟨(Lib.index ((D.toStr (D.cell c 0)).drop (f + (sgn x).length)) (sgn (v.getD j .no))).toNat, by omega⟩
        rw [hk] at c2 hr ⊢
        rw [Int.toNat_natCast]
        rw [List.length_drop] at hr
        have hw2 : IntKind.wrap IntKind.i64 (((f + (sgn x).length : Nat) : Int) + (k : Int)) = ((f + (sgn x).length + k : Nat) : Int) := by rw [wrap_id (by omega) (by omega)]; omega
        rw [dec_f c2, cond_false, hw2, cutOk_both (by omega) (by omega), cut_both]; rfl

include hH hl hE in
theorem prog : ∀ n i : Nat, i + n = (D.toList (D.cell c 3)).length →
    L17a id (D.toList (D.cell c 3)) ((D.toList (D.cell c 3)).length : Int) (i : Int) c = some [.str (sec (D.toStr (D.cell c 0)) id ((D.toList (D.cell c 3)).drop i)).1, .bool (sec (D.toStr (D.cell c 0)) id ((D.toList (D.cell c 3)).drop i)).2] := by
  intro n
  induction n with
  | zero =>
    intro i hi
    have : i = (D.toList (D.cell c 3)).length := by omega
    subst this
    rw [round17a, dec_f (by omega), cond_false, List.drop_length]; rfl
  | succ n ih =>
    intro i hi
    have hil : i < (D.toList (D.cell c 3)).length := by omega
    have hx : Ent ((D.toList (D.cell c 3)).getD i .no) := by rw [List.getD_eq_getElem?_getD, List.getElem?_eq_getElem hil]; exact hE _ (List.getElem_mem hil)
    rw [round17a, dec_t (by omega), cond_true, inb_nat hil, cond_true, Int.toNat_natCast, nxt (by omega), ih (i + 1) (by omega), drop_cons D.no hil, r32 hx]
    simp only [opt_s, List.getD_cons_zero, tS, sec]
    show cond (bif decide (nam ((D.toList (D.cell c 3)).getD i .no) = id) then false else true) _ _ = _
    by_cases c1 : nam ((D.toList (D.cell c 3)).getD i .no) = id
    · rw [dec_t c1, cond_true, cond_false, r19 hH]
      simp only [opt_s, List.getD_cons_zero, tI, cond_true, from1]
      by_cases c2 : Lib.index (D.toStr (D.cell c 0)) (sgn ((D.toList (D.cell c 3)).getD i .no)) < 0
      · rw [dec_t c2]; rfl
      · have hr := Lib.index_room (D.toStr (D.cell c 0)) (sgn ((D.toList (D.cell c 3)).getD i .no)) (by omega)
        obtain ⟨k, hk⟩ : ∃ k : Nat, Lib.index (D.toStr (D.cell c 0)) (sgn ((D.toList (D.cell c 3)).getD i .no)) = (k : Int) := ⟨(Lib.index (D.toStr (D.cell c 0)) (sgn ((D.toList (D.cell c 3)).getD i .no))).toNat, by omega⟩
        rw [hk] at c2 hr ⊢
        rw [Int.toNat_natCast]
        rw [dec_f c2, cond_false, cutOk_lo (by omega), cond_true, cut_lo]
        have := prog_in c hH hx (f := k) (by omega) ((D.toList (D.cell c 3)).drop (i + 1)) (by rw [List.length_drop]; omega) (fun y hy => hE y (List.mem_of_mem_drop hy)) ((D.toList (D.cell c 3)).drop (i + 1)).length 0 (by omega)
        simpa using this
    · rw [dec_f c1]; rfl

/-- The answer that the law asks for, at the end of its own walk. -/
theorem fin2 {s : List UInt8} {ok : Bool} {v : List D} {lv : Int} {x : D} {fr tq : List UInt8} {j : Int} (hj : ¬ j < (v.length : Int)) {r : List UInt8 × Bool} (hr : r = (s, ok))
    (h : (fr = [] ∧ r = ([], false)) ∨ (fr ≠ [] ∧ r = bif decide (Lib.index (D.toStr (D.cell c 0)) fr < 0) then ([], false) else
      bif decide (tq = []) then ((D.toStr (D.cell c 0)).drop (Lib.index (D.toStr (D.cell c 0)) fr).toNat, true) else
      bif decide (Lib.index ((D.toStr (D.cell c 0)).drop ((Lib.index (D.toStr (D.cell c 0)) fr).toNat + fr.length)) tq < 0) then ([], false) else
        (sub (D.toStr (D.cell c 0)) (Lib.index (D.toStr (D.cell c 0)) fr).toNat ((Lib.index (D.toStr (D.cell c 0)) fr).toNat + fr.length + (Lib.index ((D.toStr (D.cell c 0)).drop ((Lib.index (D.toStr (D.cell c 0)) fr).toNat + fr.length)) tq).toNat), true)))
    (hH : (D.toStr (D.cell c 0)).length ≤ 1048576) : L6a id s ok fr tq lv v (v.length : Int) j c = some [.bool true] := by
  rw [round6a, dec_f hj, cond_false, r19 hH]
  simp only [opt_s, List.getD_cons_zero, tI, emp]
  subst hr
  rcases h with ⟨rfl, h⟩ | ⟨hne, h⟩
  · injection h with h1 h2; subst h1 h2
    rw [dec_t (p := ([] : List UInt8) = []) rfl]; rfl
  · rw [dec_f hne, cond_false]
    by_cases c2 : Lib.index (D.toStr (D.cell c 0)) fr < 0
    · rw [dec_t c2] at h ⊢
      injection h with h1 h2; subst h1 h2
      rw [cond_true, dec_t rfl]; rfl
    · have hr := Lib.index_room (D.toStr (D.cell c 0)) fr (by omega)
      obtain ⟨k, hk⟩ : ∃ k : Nat, Lib.index (D.toStr (D.cell c 0)) fr = (k : Int) := ⟨(Lib.index (D.toStr (D.cell c 0)) fr).toNat, by omega⟩
      rw [hk] at c2 hr h ⊢
      rw [Int.toNat_natCast] at h
      rw [dec_f c2] at h ⊢
      rw [cond_false, cutOk_lo (by omega), cond_true, cut_lo]
      rw [cond_false] at h
      by_cases c3 : tq = []
      · rw [dec_t c3] at h ⊢
        injection h with h1 h2; subst h1 h2
        rw [cond_true, cond_false, dec_t rfl]; rfl
      · rw [dec_f c3] at h ⊢
        rw [cond_false] at h
        rw [cond_false, cond_true, cutOk_lo (by rw [List.length_drop]; omega), cond_true, cut_lo, List.drop_drop, r19 (by rw [List.length_drop]; omega)]
        simp only [opt_s, List.getD_cons_zero, tI]
        by_cases c4 : Lib.index ((D.toStr (D.cell c 0)).drop (k + fr.length)) tq < 0
        · rw [dec_t c4] at h ⊢
          injection h with h1 h2; subst h1 h2
          rw [cond_true, dec_t rfl]; rfl
        · have hr2 := Lib.index_room ((D.toStr (D.cell c 0)).drop (k + fr.length)) tq (by omega)
          obtain ⟨q, hq⟩ : ∃ q : Nat, Lib.index ((D.toStr (D.cell c 0)).drop (k + fr.length)) tq = (q : Int) := ⟨(Lib.index ((D.toStr (D.cell c 0)).drop (k + fr.length)) tq).toNat, by omega⟩
          rw [hq] at c4 hr2 h ⊢
          rw [Int.toNat_natCast] at h
          rw [List.length_drop] at hr2
          rw [dec_f c4] at h ⊢
          rw [cond_false] at h
          have hw : IntKind.wrap IntKind.i64 ((fr.length : Int) + (q : Int)) = ((fr.length + q : Nat) : Int) := by rw [wrap_id (by omega) (by omega)]; omega
          rw [cond_false, hw, cutOk_hi (by rw [List.length_drop]; omega), cond_true, cut_hi, take_drop', show k + (fr.length + q) = k + fr.length + q by omega]
          injection h with h1 h2; subst h1 h2
          rw [dec_t rfl]; rfl
theorem step6 {s : List UInt8} {ok : Bool} {v : List D} {lv : Int} {fr tq : List UInt8} {j : Nat} (hj : j < v.length) (hv : v.length ≤ 1048576) (hy : Ent (v.getD j .no)) :
    L6a id s ok fr tq lv v (v.length : Int) (j : Int) c = cond (decide (fr = []) && decide (nam (v.getD j .no) = id)) (L6a id s ok (sgn (v.getD j .no)) tq (lev (v.getD j .no)) v (v.length : Int) ((j + 1 : Nat) : Int) c)
      (cond (!decide (fr = []) && decide (tq = []) && decide (lev (v.getD j .no) ≤ lv)) (L6a id s ok fr (sgn (v.getD j .no)) lv v (v.length : Int) ((j + 1 : Nat) : Int) c) (L6a id s ok fr tq lv v (v.length : Int) ((j + 1 : Nat) : Int) c)) := by
  rw [round6a, dec_t (by omega), cond_true, inb_nat hj, cond_true, Int.toNat_natCast, nxt (by omega), r18]
  refine (tag hy fun tg => (cond (bif decide (fr = []) then decide (nam (v.getD j .no) = id) else false) (L6a id s ok tg tq (lev (v.getD j .no)) v (v.length : Int) ((j + 1 : Nat) : Int) c)
      (cond (bif bif bif decide (fr = []) then false else true then decide (tq = []) else false then decide (lev (v.getD j .no) ≤ lv) else false) (L6a id s ok fr tg lv v (v.length : Int) ((j + 1 : Nat) : Int) c) (L6a id s ok fr tq lv v (v.length : Int) ((j + 1 : Nat) : Int) c)) : R)).trans ?_
  cases decide (fr = []) <;> cases decide (nam (v.getD j .no) = id) <;> cases decide (tq = []) <;> cases decide (lev (v.getD j .no) ≤ lv) <;> rfl

theorem walk2 {s : List UInt8} {ok : Bool} {v : List D} {lv : Int} {fr tq : List UInt8} (hv : v.length ≤ 1048576) (hE : ∀ y ∈ v, Ent y) (hf : fr ≠ []) (ht : tq ≠ []) (hH : (D.toStr (D.cell c 0)).length ≤ 1048576)
    (h : (s, ok) = bif decide (Lib.index (D.toStr (D.cell c 0)) fr < 0) then ([], false) else
      bif decide (Lib.index ((D.toStr (D.cell c 0)).drop ((Lib.index (D.toStr (D.cell c 0)) fr).toNat + fr.length)) tq < 0) then ([], false) else
        (sub (D.toStr (D.cell c 0)) (Lib.index (D.toStr (D.cell c 0)) fr).toNat ((Lib.index (D.toStr (D.cell c 0)) fr).toNat + fr.length + (Lib.index ((D.toStr (D.cell c 0)).drop ((Lib.index (D.toStr (D.cell c 0)) fr).toNat + fr.length)) tq).toNat), true)) :
    ∀ n j : Nat, j + n = v.length → L6a id s ok fr tq lv v (v.length : Int) (j : Int) c = some [.bool true] := by
  intro n
  induction n with
  | zero =>
    intro j hj
    refine fin2 c id (x := .no) (by omega) rfl (.inr ⟨hf, ?_⟩) hH
    rw [dec_f ht]; exact h
  | succ n ih =>
    intro j hj
    have hjl : j < v.length := by omega
    have hy : Ent (v.getD j .no) := by rw [List.getD_eq_getElem?_getD, List.getElem?_eq_getElem hjl]; exact hE _ (List.getElem_mem hjl)
    rw [step6 c id hjl hv hy, dec_f hf, dec_f ht]
    exact ih (j + 1) (by omega)
theorem walk1 {s : List UInt8} {ok : Bool} {v : List D} {x : D} (hv : v.length ≤ 1048576) (hE : ∀ y ∈ v, Ent y) (hH : (D.toStr (D.cell c 0)).length ≤ 1048576) :
    ∀ n j : Nat, j + n = v.length → (s, ok) = from1 (D.toStr (D.cell c 0)) x (v.drop j) → L6a id s ok (sgn x) [] (lev x) v (v.length : Int) (j : Int) c = some [.bool true] := by
  intro n
  induction n with
  | zero =>
    intro j hj h
    refine fin2 c id (x := .no) (by omega) rfl (.inr ⟨sgn_ne x, ?_⟩) hH
    rw [show v.drop j = [] from List.drop_eq_nil_of_le (by omega)] at h
    rw [dec_t (p := ([] : List UInt8) = []) rfl]; exact h
  | succ n ih =>
    intro j hj h
    have hjl : j < v.length := by omega
    have hy : Ent (v.getD j .no) := by rw [List.getD_eq_getElem?_getD, List.getElem?_eq_getElem hjl]; exact hE _ (List.getElem_mem hjl)
    rw [step6 c id hjl hv hy, dec_f (sgn_ne x), dec_t (p := ([] : List UInt8) = []) rfl]
    rw [drop_cons D.no hjl] at h
    unfold from1 at h
    simp only [inner] at h
    by_cases c1 : lev x < lev (v.getD j .no)
    · rw [dec_f (p := lev (v.getD j .no) ≤ lev x) (by omega)]
      rw [dec_t c1] at h
      exact ih (j + 1) (by omega) h
    · rw [dec_t (p := lev (v.getD j .no) ≤ lev x) (by omega)]
      rw [dec_f c1] at h
      exact walk2 c id hv hE (sgn_ne x) (sgn_ne _) hH h n (j + 1) (by omega)
theorem walk0 {s : List UInt8} {ok : Bool} {v : List D} (hv : v.length ≤ 1048576) (hE : ∀ y ∈ v, Ent y) (hH : (D.toStr (D.cell c 0)).length ≤ 1048576) :
    ∀ n j : Nat, j + n = v.length → (s, ok) = sec (D.toStr (D.cell c 0)) id (v.drop j) → L6a id s ok [] [] 0 v (v.length : Int) (j : Int) c = some [.bool true] := by
  intro n
  induction n with
  | zero =>
    intro j hj h
    rw [show v.drop j = [] from List.drop_eq_nil_of_le (by omega)] at h
    exact fin2 c id (x := .no) (by omega) rfl (.inl ⟨rfl, h⟩) hH
  | succ n ih =>
    intro j hj h
    have hjl : j < v.length := by omega
    have hy : Ent (v.getD j .no) := by rw [List.getD_eq_getElem?_getD, List.getElem?_eq_getElem hjl]; exact hE _ (List.getElem_mem hjl)
    rw [step6 c id hjl hv hy, dec_t (p := ([] : List UInt8) = []) rfl]
    rw [drop_cons D.no hjl] at h
    simp only [sec] at h
    by_cases c1 : nam (v.getD j .no) = id
    · rw [dec_t c1] at h ⊢
      exact walk1 c id hv hE hH n (j + 1) (by omega) h
    · rw [dec_f c1] at h ⊢
      exact ih (j + 1) (by omega) h
include hH hl hE in
theorem law : RUN E 6 [c, .str id] = some [.bool true] := by
  have h17 : RUN E 17 [c, .str id] = some [.str (sec (D.toStr (D.cell c 0)) id (D.toList (D.cell c 3))).1, .bool (sec (D.toStr (D.cell c 0)) id (D.toList (D.cell c 3))).2] := by
    rw [enter17]; exact prog c id hH hl hE _ 0 (Nat.zero_add _)
  rw [enter6, h17]
  exact walk0 c id hl hE hH _ 0 (Nat.zero_add _) rfl
end
theorem len_mass : ∀ l : List D, (∀ x ∈ l, 1 ≤ dmass x) → l.length ≤ dmass.dmAll l := by
  intro l
  induction l with
  | nil => intro _; exact Nat.zero_le _
  | cons x l ih =>
    intro h
    have h1 := h x List.mem_cons_self
    have h2 := ih fun y hy => h y (List.mem_cons_of_mem _ hy)
    simp only [dmass.dmAll, List.length_cons]; omega
theorem ent_rep {M : Mem} {v : Value} {x : D} (h : Rep tt M (.agg 41) v x) (hm : dmass x ≤ 1048576) : Ent x ∧ 1 ≤ dmass x := by
  have h41 : lk 41 tt = some (⟨.agg 41, [.int .i64, .str, .str], [(0, 3), (1, 9), (2, 9)], 40⟩ : TI) := by kernel_rfl
  obtain ⟨ti, cs, _, ex, ht, _, hcs, hd, hr⟩ := Rep.inv_agg h
  rw [h41] at ht; injection ht with ht; subst ht
  have r0 := hr 0 (by decide) (by rw [hcs]; decide) (by rw [hd]; decide)
  obtain ⟨_, e0, hw⟩ := Rep.inv_int (k := .i64) r0
  refine ⟨⟨?_, Nat.le_trans (cellS_le x 1) hm⟩, ?_⟩
  rotate_left
  · have h1 := mass_mem (List.getElem_mem (show 0 < x.cells.length by rw [hd]; decide))
    rw [e0] at h1
    rw [ex]
    exact h1
  obtain ⟨b0, b1⟩ := int_wf hw
  have : lev x = D.toInt (x.cells[0]'(by rw [hd]; decide)) := by
    unfold lev D.cell
    rw [List.getD_eq_getElem?_getD, List.getElem?_eq_getElem (by rw [hd]; decide)]; rfl
  rw [this]
  exact itoa_len b0 b1
theorem lawR {M M' : Mem} {v v' : Value} {c : D} {id : List UInt8} (h : Rep E.tt M (.agg 37) v c) (_ : Rep E.tt M' .str v' (.str id)) (hb : dmass.dmAll [c, .str id] ≤ 1048576) : RUN E 6 [c, .str id] = some [.bool true] := by
  have h37 : lk 37 tt = some (⟨.agg 37, [.str, .str, .str, .slice 41, .int .i64, .slice 9, .slice 9], [(0, 9), (1, 9), (2, 9), (3, 35), (4, 3), (5, 23), (6, 23)], 128⟩ : TI) := by kernel_rfl
  have h41 : lk 41 tt = some (⟨.agg 41, [.int .i64, .str, .str], [(0, 3), (1, 9), (2, 9)], 40⟩ : TI) := by kernel_rfl
  have hc : dmass c ≤ 1048576 := by simp only [dmass.dmAll] at hb; omega
  obtain ⟨ti, cs, _, _, ht, _, hcs, hd, hr⟩ := Rep.inv_agg h
  have ht : lk 37 tt = some ti := ht
  rw [h37] at ht; injection ht with ht; subst ht
  have e3 : D.cell c 3 = c.cells[3]'(by rw [hd]; decide) := by
    unfold D.cell
    rw [List.getD_eq_getElem?_getD, List.getElem?_eq_getElem (by rw [hd]; decide)]; rfl
  have m3 := Nat.le_trans (toList_le (D.cell c 3)) (Nat.le_trans (mass_cell c 3) hc)
  have key : ∀ x ∈ D.toList (D.cell c 3), Ent x ∧ 1 ≤ dmass x := by
    intro x hx
    have r3 := hr 3 (by decide) (by rw [hcs]; decide) (by rw [hd]; decide)
    obtain ⟨a, cap, _, _, _, _, hp⟩ := Rep.inv_slice (e := 41) r3
    rw [← e3] at hp
    obtain ⟨i, hi, rfl⟩ := List.getElem_of_mem hx
    obtain ⟨ei, ad, vs, _, he, _, _, _, hq⟩ := hp (by omega)
    have he : lk 41 tt = some ei := he
    rw [h41] at he; injection he with he; subst he
    exact ent_rep (hq i hi) (Nat.le_trans (mass_mem (List.getElem_mem hi)) m3)
  exact law c id (Nat.le_trans (cellS_le c 0) hc) (Nat.le_trans (len_mass _ fun x hx => (key x hx).2) m3) fun x hx => (key x hx).1
theorem tab {W : World} (hs : W.ShapedOpen Tryd.prog) (hL : laidMetH Tryd.prog Rows.pageSectionsUptoRow.laid W) : Lib.TabIs Tryd.prog W "internal/strconv.uint64pow10" .u64 Lib.pow10Tab ∧ ∃ m, W.cell? ⟨0, 0, none⟩ = some (.int .i64 m) := by
  rw [MakeChecks.laidMetH_plain _ _ _ (by kernel_rfl)] at hL
  have h1 : laidMet Tryd.prog (("internal/strconv.uint64pow10", Lib.tabData .u64 Lib.pow10Tab) :: []) W := laidMet.tail (laidMet.tail hL)
  exact ⟨Lib.tabIs_of_head (g := 1) (t := 77) (e := 69) (n := 20) (by kernel_rfl) (by kernel_rfl) (by kernel_rfl) (by kernel_rfl) (by kernel_rfl) (by kernel_rfl) h1, Tryd.laysM143.s1_3 W hs⟩
end secs
end Go.Proofs.YtjofkhdnidjleaaDoor.ps
