/- A part of the proof. -/
import Derived.Test.YtcmeincdmphaoabDoorDxBfB
import Derived.Test.YtcmeincdmphaoabDoorF8
import Derived.Lib.LaidTab
import Derived.MakeChecks
set_option linter.unusedVariables false
set_option linter.unusedSimpArgs false
namespace Go.Proofs.YtcmeincdmphaoabDoor.bf
open Go.Proofs.YtcmeincdmphaoabDoor.DS
namespace fct

theorem inb_t {i n : Nat} (h : i < n) : inb (i : Int) n = true := inb_nat h
abbrev it (v : D) : List D := D.toList (D.cell v 4)
abbrev ks (v : D) : List D := D.toList (D.cell v 5)
/-- A value whose rows are of a size that a run may handle. -/
inductive BV : D → Prop
  | mk (v : D) (h1 : (it v).length ≤ 4294967296) (h2 : (ks v).length ≤ 4294967296) (hi : ∀ x ∈ it v, BV x) : BV v
theorem getD_mem {l : List D} {i : Nat} (h : i < l.length) : l.getD i .no ∈ l := by rw [List.getD_eq_getElem?_getD, List.getElem?_eq_getElem h]; exact List.getElem_mem h

/-! ### Keys -/
theorem keys (a b : D) (hl : (ks a).length = (ks b).length) (hb : (ks a).length ≤ 4294967296) :
    ∀ n i : Nat, i + n = (ks a).length → ∃ r, L6a ((ks a).length : Int) (i : Int) a b = cond r (L6b ((it a).length : Int) 0 a b) (some [.bool false]) ∧
      L9a ((ks a).length : Int) (i : Int) a b = cond r (L9b ((it a).length : Int) 0 a b) (some [.bool false]) ∧ (ks a = ks b → r = true) := by
  intro n
  induction n with
  | zero =>
    intro i hi
    refine ⟨true, ?_, ?_, fun _ => rfl⟩
    · rw [round6a, dec_f (by omega)]; rfl
    · rw [round9a, dec_f (by omega)]; rfl
  | succ n ih =>
    intro i hi
    obtain ⟨r, h6, h9, hr⟩ := ih (i + 1) (by omega)
    rw [round6a, round9a, dec_t (by omega), inb_t (show i < (ks a).length by omega), inb_t (show i < (ks b).length by omega), Int.toNat_natCast, nxt (by omega), h6, h9]
    simp only [cond_true]
    by_cases he : D.toStr ((ks a).getD i .no) = D.toStr ((ks b).getD i .no)
    · rw [dec_t he]
      exact ⟨r, rfl, rfl, hr⟩
    · rw [dec_f he]
      exact ⟨false, rfl, rfl, fun h => absurd (by rw [h]) he⟩

/-! ### Items -/
theorem items (a b : D) (hl : (it a).length = (it b).length) (hb : (it a).length ≤ 4294967296)
    (hI : ∀ i, i < (it a).length → ∃ r, RUN E 6 [(it a).getD i .no, (it b).getD i .no] = some [.bool r] ∧ RUN E 9 [(it a).getD i .no, (it b).getD i .no] = some [.bool r]) :
    ∀ n i : Nat, i + n = (it a).length → ∃ r, L6b ((it a).length : Int) (i : Int) a b = some [.bool r] ∧ L9b ((it a).length : Int) (i : Int) a b = some [.bool r] ∧
      ((∀ j, j < (it a).length → RUN E 6 [(it a).getD j .no, (it b).getD j .no] = some [.bool true]) → r = true) := by
  intro n
  induction n with
  | zero =>
    intro i hi
    refine ⟨true, ?_, ?_, fun _ => rfl⟩
    · rw [round6b, dec_f (by omega)]; rfl
    · rw [round9b, dec_f (by omega)]; rfl
  | succ n ih =>
    intro i hi
    obtain ⟨r, h6, h9, hr⟩ := ih (i + 1) (by omega)
    obtain ⟨q, q6, q9⟩ := hI i (by omega)
    rw [round6b, round9b, dec_t (by omega), inb_t (show i < (it a).length by omega), inb_t (show i < (it b).length by omega), Int.toNat_natCast, nxt (by omega), h6, h9, q6, q9]
    simp only [cond_true, opt_s, List.getD_cons_zero, tB]
    cases q with
    | true => exact ⟨r, rfl, rfl, hr⟩
    | false =>
      refine ⟨false, rfl, rfl, fun h => ?_⟩
      have := h i (by omega)
      rw [q6] at this
      injection this with this
      injection this with this
      injection this

/-- The first test of the two: not of the same shape. -/
theorem both (a b : D) (h1 : (it a).length ≤ 4294967296) (h2 : (ks a).length ≤ 4294967296)
    (hI : (it a).length = (it b).length → ∀ i, i < (it a).length → ∃ r, RUN E 6 [(it a).getD i .no, (it b).getD i .no] = some [.bool r] ∧ RUN E 9 [(it a).getD i .no, (it b).getD i .no] = some [.bool r]) :
    ∃ r, RUN E 6 [a, b] = some [.bool r] ∧ RUN E 9 [a, b] = some [.bool r] ∧
      (D.toInt (D.cell a 0) = D.toInt (D.cell b 0) → D.toBool (D.cell a 1) = D.toBool (D.cell b 1) → D.toInt (D.cell a 2) = D.toInt (D.cell b 2) → D.toStr (D.cell a 3) = D.toStr (D.cell b 3) →
        ks a = ks b → (it a).length = (it b).length → (∀ j, j < (it a).length → RUN E 6 [(it a).getD j .no, (it b).getD j .no] = some [.bool true]) → r = true) := by
  rw [enter6, enter9]
  by_cases e0 : D.toInt (D.cell a 0) = D.toInt (D.cell b 0)
  rotate_left
  · rw [dec_f e0]; exact ⟨false, rfl, rfl, fun h => absurd h e0⟩
  by_cases e1 : D.toBool (D.cell a 1) = D.toBool (D.cell b 1)
  rotate_left
  · rw [dec_t e0, show (D.toBool (D.cell a 1) == D.toBool (D.cell b 1)) = false by simpa using e1]; exact ⟨false, rfl, rfl, fun _ h => absurd h e1⟩
  by_cases e2 : D.toInt (D.cell a 2) = D.toInt (D.cell b 2)
  rotate_left
  · rw [dec_t e0, show (D.toBool (D.cell a 1) == D.toBool (D.cell b 1)) = true by simpa using e1, dec_f e2]; exact ⟨false, rfl, rfl, fun _ _ h => absurd h e2⟩
  by_cases e3 : D.toStr (D.cell a 3) = D.toStr (D.cell b 3)
  rotate_left
  · rw [dec_t e0, show (D.toBool (D.cell a 1) == D.toBool (D.cell b 1)) = true by simpa using e1, dec_t e2, dec_f e3]; exact ⟨false, rfl, rfl, fun _ _ _ h => absurd h e3⟩
  rw [dec_t e0, show (D.toBool (D.cell a 1) == D.toBool (D.cell b 1)) = true by simpa using e1, dec_t e2, dec_t e3]
  by_cases e4 : (it a).length = (it b).length
  rotate_left
  · rw [dec_f (p := ((D.toList (D.cell a 4)).length : Int) = ((D.toList (D.cell b 4)).length : Int)) (fun h => e4 (by exact_mod_cast h))]
    cases decide ((↑(List.length (D.toList (D.cell a 5))) : Int) = (↑(List.length (D.toList (D.cell b 5))) : Int)) <;> exact ⟨false, rfl, rfl, fun _ _ _ _ _ h => absurd h e4⟩
  rw [dec_t (p := ((D.toList (D.cell a 4)).length : Int) = ((D.toList (D.cell b 4)).length : Int)) (by exact_mod_cast e4)]
  by_cases e5 : (ks a).length = (ks b).length
  rotate_left
  · rw [dec_f (p := ((D.toList (D.cell a 5)).length : Int) = ((D.toList (D.cell b 5)).length : Int)) (fun h => e5 (by exact_mod_cast h))]
    exact ⟨false, rfl, rfl, fun _ _ _ _ h => absurd (by rw [h]) e5⟩
  rw [dec_t (p := ((D.toList (D.cell a 5)).length : Int) = ((D.toList (D.cell b 5)).length : Int)) (by exact_mod_cast e5)]
  obtain ⟨r, k6, k9, kr⟩ := keys a b e5 h2 (ks a).length 0 (by omega)
  obtain ⟨q, i6, i9, iq⟩ := items a b e4 h1 (hI e4) (it a).length 0 (by omega)
  refine ⟨r && q, ?_, ?_, fun _ _ _ _ h5 _ hj => by rw [kr h5, iq hj]; rfl⟩
  · refine Eq.trans (show _ = L6a ((ks a).length : Int) ((0 : Nat) : Int) a b from rfl) ?_
    rw [k6]
    cases r with
    | false => rfl
    | true => exact i6
  · refine Eq.trans (show _ = L9a ((ks a).length : Int) ((0 : Nat) : Int) a b from rfl) ?_
    rw [k9]
    cases r with
    | false => rfl
    | true => exact i9

/-- (i) The program's and the reference's answer alike. -/
theorem alike {a : D} (ha : BV a) : ∀ b, ∃ r, RUN E 6 [a, b] = some [.bool r] ∧ RUN E 9 [a, b] = some [.bool r] := by
  induction ha with
  | mk v h1 h2 hi ih =>
    intro b
    obtain ⟨r, r6, r9, -⟩ := both v b h1 h2 (fun _ i hil => ih _ (getD_mem hil) _)
    exact ⟨r, r6, r9⟩
/-- (ii) What is like in its cells and has like items is like. -/
theorem same_of {a b : D} (ha : BV a) (e0 : D.toInt (D.cell a 0) = D.toInt (D.cell b 0)) (e1 : D.toBool (D.cell a 1) = D.toBool (D.cell b 1)) (e2 : D.toInt (D.cell a 2) = D.toInt (D.cell b 2)) (e3 : D.toStr (D.cell a 3) = D.toStr (D.cell b 3))
    (e5 : ks a = ks b) (e4 : (it a).length = (it b).length) (hj : ∀ j, j < (it a).length → RUN E 6 [(it a).getD j .no, (it b).getD j .no] = some [.bool true]) : RUN E 6 [a, b] = some [.bool true] := by
  cases ha with
  | mk _ h1 h2 hi =>
    obtain ⟨r, r6, -, hr⟩ := both a b h1 h2 (fun _ i hil => alike (hi _ (getD_mem hil)) _)
    rw [r6, hr e0 e1 e2 e3 e5 e4 hj]
theorem refl {a : D} (ha : BV a) : RUN E 6 [a, a] = some [.bool true] := by
  induction ha with
  | mk v h1 h2 hi ih => exact same_of (.mk v h1 h2 hi) rfl rfl rfl rfl rfl rfl (fun j hj => ih _ (getD_mem hj))

/-! ### Clones -/
theorem loop13 (v : D) (hl : (it v).length ≤ 4294967296) (c0 : Int) (c1 : Bool) (c2 : Int) (c3 : List UInt8) (c4 : List D) (e0 : Int) (e1 : Bool) (e2 : Int) (e3 : List UInt8) (x0 x1 x2 : List D)
    (hC : ∀ x ∈ it v, ∃ u, RUN E 13 [x] = some [u] ∧ BV u ∧ RUN E 6 [u, x] = some [.bool true]) :
    ∀ n i : Nat, i + n = (it v).length → ∀ us : List D, us.length = i → (∀ j, j < i → BV (us.getD j .no) ∧ RUN E 6 [us.getD j .no, (it v).getD j .no] = some [.bool true]) →
      ∃ ws : List D, L13a (it v) ((it v).length : Int) (i : Int) us c0 c1 c2 c3 c4 e0 e1 e2 e3 x0 x1 x2 = some [.agg [.int c0, .bool c1, .int c2, .str c3, .list ws, .list x0]] ∧
        ws.length = (it v).length ∧ ∀ j, j < ws.length → BV (ws.getD j .no) ∧ RUN E 6 [ws.getD j .no, (it v).getD j .no] = some [.bool true] := by
  intro n
  induction n with
  | zero =>
    intro i hi us hus hg
    refine ⟨us, ?_, by omega, by rw [hus]; exact hg⟩
    rw [round13a, dec_f (by omega)]; rfl
  | succ n ih =>
    intro i hi us hus hg
    have hil : i < (it v).length := by omega
    obtain ⟨u, h13, hu, h6⟩ := hC _ (getD_mem hil)
    obtain ⟨ws, h, hw, hgw⟩ := ih (i + 1) (by omega) (us ++ [u]) (by simp; omega) (by
      intro j hj
      by_cases hji : j < i
      · have : (us ++ [u]).getD j .no = us.getD j .no := by simp [List.getD_eq_getElem?_getD, List.getElem?_append_left (show j < us.length by omega)]
        rw [this]; exact hg j hji
      · have hje : j = us.length := by omega
        have : (us ++ [u]).getD j .no = u := by rw [hje]; simp [List.getD_eq_getElem?_getD]
        rw [this, hje, hus]; exact ⟨hu, h6⟩)
    refine ⟨ws, ?_, hw, hgw⟩
    rw [round13a, dec_t (by omega), inb_t hil, Int.toNat_natCast, h13]
    simp only [cond_true, opt_s, List.getD_cons_zero]
    rw [fit_t (by simp; omega), cond_true, nxt (by omega)]
    exact h
theorem clone {v : D} (hv : BV v) : ∃ u, RUN E 13 [v] = some [u] ∧ BV u ∧ RUN E 6 [u, v] = some [.bool true] := by
  induction hv with
  | mk v h1 h2 hi ih =>
    obtain ⟨ws, h, hw, hg⟩ := loop13 v h1 (D.toInt (D.cell v 0)) (D.toBool (D.cell v 1)) (D.toInt (D.cell v 2)) (D.toStr (D.cell v 3)) (D.toList (D.cell v 4)) 0 false 0 [] (D.toList (D.cell v 5)) [] [] ih (it v).length 0 (by omega) [] rfl (fun j h => absurd h (Nat.not_lt_zero _))
    have hb : BV (.agg [.int (D.toInt (D.cell v 0)), .bool (D.toBool (D.cell v 1)), .int (D.toInt (D.cell v 2)), .str (D.toStr (D.cell v 3)), .list ws, .list (D.toList (D.cell v 5))]) := by
      refine .mk _ (show ws.length ≤ _ by omega) (show (D.toList (D.cell v 5)).length ≤ _ from h2) (fun x hx => ?_)
      obtain ⟨j, hj, rfl⟩ := List.getElem_of_mem (show x ∈ ws from hx)
      have := (hg j hj).1
      rwa [List.getD_eq_getElem?_getD, List.getElem?_eq_getElem hj] at this
    refine ⟨_, ?_, hb, ?_⟩
    · rw [enter13, fit_t (by have : (D.toList (D.cell v 5)).length ≤ _ := h2; omega), cond_true]
      exact h
    · exact same_of hb rfl rfl rfl rfl rfl hw (fun j hj => (hg j hj).2)
theorem bv_flat (a b c d : D) {l k : List D} (hk : k.length ≤ 4294967296) (hl : l.length ≤ 4294967296) (h : ∀ x ∈ l, BV x) : BV (.agg [a, b, c, d, .list l, .list k]) := .mk _ hl hk h

/-! ### Contents -/
theorem tab3 (l : List D) : RUN E 14 [.str [105, 100, 32, 108, 101, 118, 101, 108, 32, 116, 101, 120, 116], .list l] = RUN E 18 [.list [.str [105, 100], .str [108, 101, 118, 101, 108], .str [116, 101, 120, 116]], .list l] := by
  have h : RUN E 34 [.str [105, 100, 32, 108, 101, 118, 101, 108, 32, 116, 101, 120, 116]] = some [.list [.str [105, 100], .str [108, 101, 118, 101, 108], .str [116, 101, 120, 116]]] := (RUN_eq _ _ _).trans (by kernel_rfl)
  rw [enter14, enter18, h]; rfl
theorem tab5 (l : List D) : RUN E 14 [.str [99, 111, 110, 116, 101, 110, 116, 115, 32, 104, 116, 109, 108, 32, 112, 108, 97, 105, 110, 32, 115, 117, 109, 109, 97, 114, 121, 32, 119, 111, 114, 100, 115], .list l] =
    RUN E 18 [.list [.str [99, 111, 110, 116, 101, 110, 116, 115], .str [104, 116, 109, 108], .str [112, 108, 97, 105, 110], .str [115, 117, 109, 109, 97, 114, 121], .str [119, 111, 114, 100, 115]], .list l] := by
  have h : RUN E 34 [.str [99, 111, 110, 116, 101, 110, 116, 115, 32, 104, 116, 109, 108, 32, 112, 108, 97, 105, 110, 32, 115, 117, 109, 109, 97, 114, 121, 32, 119, 111, 114, 100, 115]] = some [.list [.str [99, 111, 110, 116, 101, 110, 116, 115], .str [104, 116, 109, 108], .str [112, 108, 97, 105, 110], .str [115, 117, 109, 109, 97, 114, 121], .str [119, 111, 114, 100, 115]]] := (RUN_eq _ _ _).trans (by kernel_rfl)
  rw [enter14, enter18, h]; rfl
theorem content (c : D) (hl : (D.toList (D.cell c 3)).length ≤ 4294967296) : ∃ x, RUN E 7 [c] = some [x] ∧ RUN E 8 [c] = some [x] ∧ BV x := by
  have key : ∀ n i : Nat, i + n = (D.toList (D.cell c 3)).length → ∀ us : List D, us.length = i → (∀ u ∈ us, BV u) →
      ∃ x, L7a (D.toList (D.cell c 3)) ((D.toList (D.cell c 3)).length : Int) (i : Int) c 0 false 0 [] 5 false 0 [] [] [] us [] = some [x] ∧
        L8a (D.toList (D.cell c 3)) ((D.toList (D.cell c 3)).length : Int) (i : Int) c 0 false 0 [] 5 false 0 [] [] [] us [] = some [x] ∧ BV x := by
    intro n
    induction n with
    | zero =>
      intro i hi us hus hb
      rw [round7a, round8a, dec_f (by omega)]
      simp only [cond_false, enter15, enter16, enter17, enter19, enter20, enter21, opt_s, List.getD_cons_zero, tab5, enter18]
      refine ⟨_, rfl, rfl, ?_⟩
      have n0 : ∀ x ∈ ([] : List D), BV x := fun x hx => (by cases hx)
      refine bv_flat _ _ _ _ (by decide) (by simp) (fun x hx => ?_)
      simp only [List.mem_cons, List.not_mem_nil, or_false] at hx
      rcases hx with rfl | rfl | rfl | rfl | rfl
      · exact bv_flat _ _ _ _ (by decide) (by omega) hb
      all_goals exact bv_flat _ _ _ _ (by decide) (by decide) n0
    | succ n ih =>
      intro i hi us hus hb
      have n0 : ∀ x ∈ ([] : List D), BV x := fun x hx => (by cases hx)
      rw [round7a, round8a, dec_t (by omega), inb_t (by omega), Int.toNat_natCast, nxt (by omega)]
      simp only [cond_true, enter15, enter16, enter17, enter19, enter20, enter21, opt_s, List.getD_cons_zero, tab3, enter18]
      rw [fit_t (by simp; omega)]
      simp only [cond_true]
      refine ih (i + 1) (by omega) _ (by simp; omega) (fun u hu => ?_)
      rw [List.mem_append] at hu
      rcases hu with hu | hu
      · exact hb u hu
      · simp only [List.mem_cons, List.not_mem_nil, or_false] at hu
        subst hu
        refine bv_flat _ _ _ _ (by decide) (by simp) (fun x hx => ?_)
        simp only [List.mem_cons, List.not_mem_nil, or_false] at hx
        rcases hx with rfl | rfl | rfl <;> exact bv_flat _ _ _ _ (by decide) (by decide) n0
  rw [enter7, enter8]
  exact key (D.toList (D.cell c 3)).length 0 (by omega) [] rfl (fun u hu => (by cases hu))

/-! ### The facts -/
def val (f : D) : D := .agg ((f.cells.drop 1).take 6)
theorem part_val (f : D) : partD (Env.tt E) f (0 + Prod.fst (1, 29)) (KT.agg 29) = val f := by
  have h : lk 29 (Env.tt E) = some (⟨.agg 29, [.int .i64, .bool, .int .i64, .str, .slice 29, .slice 9], [(0, 3), (1, 4), (2, 3), (3, 9), (4, 27), (5, 24)], 88⟩ : TI) := by kernel_rfl
  simp [partD, h, val]
section
variable (fs : List D) (nm : List UInt8) (hl : fs.length ≤ 1073741824)
include hl in
/-- Past the first. -/
theorem past (ok : Bool) (c a b v w : D) : ∀ n i : Nat, i + n = fs.length → L3ax nm ok true fs (fs.length : Int) (i : Int) c a b v w = L3ax nm ok true fs (fs.length : Int) (fs.length : Int) c a b v w := by
  intro n
  induction n with
  | zero => intro i hi; rw [show i = fs.length by omega]
  | succ n ih =>
    intro i hi
    rw [round3ax, dec_t (by omega), inb_t (by omega), nxt (by omega), ih (i + 1) (by omega)]
    cases decide (D.toStr (D.cell (fs.getD (Int.toNat (i : Int)) D.no) 0) = nm) <;> rfl
include hl in
theorem find (hb : ∀ f ∈ fs, BV (val f)) : ∀ n i : Nat, i + n = fs.length →
    (∃ f u, f ∈ fs ∧ L5a nm fs (fs.length : Int) (i : Int) 0 false 0 [] [] [] = some [u, .bool true] ∧ BV u ∧ RUN E 6 [u, val f] = some [.bool true] ∧
      ∀ ok c a b v, L3a nm ok false fs (fs.length : Int) (i : Int) c a b v 0 false 0 [] [] [] = L3ax nm ok true fs (fs.length : Int) (fs.length : Int) c a b v (val f)) ∨
    (L5a nm fs (fs.length : Int) (i : Int) 0 false 0 [] [] [] = some [.agg [.int 0, .bool false, .int 0, .str [], .list [], .list []], .bool false] ∧
      ∀ ok c a b v, L3a nm ok false fs (fs.length : Int) (i : Int) c a b v 0 false 0 [] [] [] = L3a nm ok false fs (fs.length : Int) (fs.length : Int) c a b v 0 false 0 [] [] []) := by
  intro n
  induction n with
  | zero =>
    intro i hi
    have : i = fs.length := by omega
    subst this
    refine .inr ⟨?_, fun _ _ _ _ _ => rfl⟩
    rw [round5a, dec_f (by omega)]; rfl
  | succ n ih =>
    intro i hi
    have hil : i < fs.length := by omega
    by_cases he : D.toStr (D.cell (fs.getD i .no) 0) = nm
    · obtain ⟨u, hu, hbu, h6⟩ := clone (hb _ (getD_mem hil))
      refine .inl ⟨fs.getD i .no, u, getD_mem hil, ?_, hbu, h6, fun ok c a b v => ?_⟩
      · rw [round5a, dec_t (by omega), inb_t hil, Int.toNat_natCast, dec_t he]
        simp only [cond_true]
        rw [show RUN E 13 [D.agg (List.take (List.length (TI.cells { kt := KT.agg 29, cells := [KT.int IntKind.i64, KT.bool, KT.int IntKind.i64, KT.str, KT.slice 29, KT.slice 9], fields := [(0, 3), (1, 4), (2, 3), (3, 9), (4, 27), (5, 24)], bytes := 88 })) (List.drop (0 + Prod.fst (1, 29)) (D.cells (List.getD fs i D.no))))] = some [u] from hu]
        rfl
      · rw [round3a, dec_t (by omega), inb_t hil, Int.toNat_natCast, dec_t he, nxt (by omega), part_val]
        simp only [cond_true, cond_false]
        exact past fs nm hl ok c a b v _ n (i + 1) (by omega)
    · have s5 : L5a nm fs (fs.length : Int) (i : Int) 0 false 0 [] [] [] = L5a nm fs (fs.length : Int) ((i + 1 : Nat) : Int) 0 false 0 [] [] [] := by
        rw [round5a, dec_t (by omega), inb_t hil, Int.toNat_natCast, dec_f he, nxt (by omega)]; rfl
      have s3 : ∀ ok c a b v, L3a nm ok false fs (fs.length : Int) (i : Int) c a b v 0 false 0 [] [] [] = L3a nm ok false fs (fs.length : Int) ((i + 1 : Nat) : Int) c a b v 0 false 0 [] [] [] := by
        intro ok c a b v
        rw [round3a, dec_t (by omega), inb_t hil, Int.toNat_natCast, dec_f he, nxt (by omega)]; rfl
      rw [s5]
      simp only [s3]
      exact ih (i + 1) (by omega)
end
/-- The law. -/
theorem law {fs : List D} {nm : List UInt8} {c a b : D} (hl : fs.length ≤ 1073741824) (hb : ∀ f ∈ fs, BV (val f)) (hc : (D.toList (D.cell c 3)).length ≤ 4294967296) (ha : BV a) :
    RUN E 3 [.list fs, .str nm, c, a, b] = some [.bool true] := by
  obtain ⟨x, x7, x8, hx⟩ := content c hc
  have hxx := refl hx
  obtain ⟨r, r6, r9⟩ := alike ha b
  rw [enter3, enter5]
  rcases find fs nm hl hb fs.length 0 (by omega) with ⟨f, u, -, h5, hu, h6, h3⟩ | ⟨h5, h3⟩
  · rw [show L5a nm fs (fs.length : Int) 0 0 false 0 [] [] [] = _ from h5]
    simp only [opt_s, List.getD_cons_zero, List.getD_cons_succ, tB]
    refine Eq.trans (h3 true c a b u) ?_
    rw [round3ax, dec_f (by omega), h6, x7, x8]
    simp only [cond_true, cond_false, opt_s, List.getD_cons_zero, tB, hxx, r6, r9, beq_self_eq_true]
  · rw [show L5a nm fs (fs.length : Int) 0 0 false 0 [] [] [] = _ from h5]
    simp only [opt_s, List.getD_cons_zero, List.getD_cons_succ, tB]
    refine Eq.trans (h3 false c a b _) ?_
    have hz := refl (bv_flat (.int 0) (.bool false) (.int 0) (.str []) (l := []) (k := []) (by decide) (by decide) (fun x hx => (by cases hx)))
    rw [round3a, dec_f (by omega), hz, x7, x8]
    simp only [cond_true, cond_false, opt_s, List.getD_cons_zero, tB, hxx, r6, r9, beq_self_eq_true]
end fct
end Go.Proofs.YtcmeincdmphaoabDoor.bf
