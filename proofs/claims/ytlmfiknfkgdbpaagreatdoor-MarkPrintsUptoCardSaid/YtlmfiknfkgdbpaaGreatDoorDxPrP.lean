/- Printing: blocks without blocks below them; rows of a table. -/
import Derived.Test.YtlmfiknfkgdbpaaGreatDoorDxPrN
set_option linter.unusedVariables false
set_option linter.unusedSimpArgs false
namespace Go.Proofs.YtlmfiknfkgdbpaaGreatDoor.pr
open Go.Proofs.YtlmfiknfkgdbpaaGreatDoor.DS
namespace prt
open check chk

/-! ### strings.Builder -/
theorem r38 (l : List D) : RUN E 38 [.agg [.no, .list l]] = some [.agg [.no, .list l]] := (RUN_eq _ _ _).trans (by kernel_rfl)
theorem r23 (l : List UInt8) : RUN E 23 [.agg [.no, .list (bytesD l)]] = some [.str l] := by
  have : RUN E 23 [.agg [.no, .list (bytesD l)]] = some [.str (dBytes (bytesD l))] := (RUN_eq _ _ _).trans (by kernel_rfl)
  rw [this, dBytes_bytesD]
theorem r21 (x s : List UInt8) (h : x.length + s.length ≤ 68719476736) : RUN E 21 [.agg [.no, .list (bytesD x)], .str s] = some [.int s.length, .no, .agg [.no, .list (bytesD (x ++ s))]] := by
  rw [enter21, r38, opt_s]
  show cond (fitL (bytesD x).length (bytesD s).length) (some [_, _, D.agg [D.no, D.list (bytesD x ++ bytesD s)]]) none = _
  rw [fitL_le (by rw [bytesD_len, bytesD_len]; exact h), ← bytesD_append]; rfl
theorem r20 (x : List UInt8) (h : x.length + 1 ≤ 68719476736) : RUN E 20 [.agg [.no, .list (bytesD x)], .int 10] = some [.no, .agg [.no, .list (bytesD (x ++ [10]))]] := by
  rw [enter20, r38, opt_s]
  show cond (fitL (bytesD x).length (bytesD [10]).length) (some [_, D.agg [D.no, D.list (bytesD x ++ bytesD [10])]]) none = _
  rw [fitL_le (by rw [bytesD_len, bytesD_len]; exact h), ← bytesD_append]; rfl

/-! ### Lines -/
def unl (ls : List (List UInt8)) : List UInt8 := ls.flatMap (· ++ [10])
theorem unl_nil : unl [] = [] := rfl
theorem unl_cons (x : List UInt8) (r : List (List UInt8)) : unl (x :: r) = x ++ 10 :: unl r := by simp [unl]
theorem unl_app (a b : List (List UInt8)) : unl (a ++ b) = unl a ++ unl b := by simp [unl]
theorem unl_len (x : List UInt8) (r : List (List UInt8)) : (unl (x :: r)).length = x.length + 1 + (unl r).length := by rw [unl_cons]; simp; omega
theorem unl_ne {ls : List (List UInt8)} (h : ls ≠ []) : unl ls ≠ [] := by
  cases ls with
  | nil => exact absurd rfl h
  | cons x r => rw [unl_cons]; simp
theorem len_unl (ls : List (List UInt8)) : ls.length ≤ (unl ls).length := by
  induction ls with
  | nil => simp
  | cons x r ih => rw [unl_len]; simp; omega
theorem mem_unl {ls : List (List UInt8)} {x : List UInt8} (h : x ∈ ls) : x.length + 1 ≤ (unl ls).length := by
  induction ls with
  | nil => cases h
  | cons y r ih =>
    rw [unl_len]
    rcases List.mem_cons.1 h with rfl | h
    · omega
    · have := ih h; omega
theorem unl_last {ls : List (List UInt8)} (h : ls ≠ []) : (unl ls).getLast? = some 10 := by
  induction ls with
  | nil => exact absurd rfl h
  | cons x r ih =>
    rw [unl_cons]
    by_cases hr : r = []
    · subst hr; simp [unl_nil]
    · have := ih hr
      rw [List.getLast?_append, List.getLast?_cons, this]; simp
theorem split_unl : ∀ (ls : List (List UInt8)), ls ≠ [] → (∀ x ∈ ls, (10 : UInt8) ∉ x) → splitC 10 ((unl ls).dropLast) = ls := by
  intro ls
  induction ls with
  | nil => intro h _; exact absurd rfl h
  | cons x r ih =>
    intro _ hx
    have h1 := hx x List.mem_cons_self
    rw [unl_cons]
    by_cases hr : r = []
    · subst hr
      rw [unl_nil, show x ++ [10] = x ++ [(10 : UInt8)] from rfl, List.dropLast_concat]
      exact splitC_none h1
    · have hne := unl_ne hr
      rw [List.dropLast_append_of_ne_nil (by simp), List.dropLast_cons_of_ne_nil hne, splitC_one _ h1, ih hr fun y hy => hx y (List.mem_cons_of_mem _ hy)]
theorem unl_split (u : List UInt8) : unl (splitC 10 u) = u ++ [10] := by
  have key : ∀ n (u : List UInt8), u.length ≤ n → unl (splitC 10 u) = u ++ [10] := by
    intro n
    induction n with
    | zero =>
      intro u hu
      have : u = [] := List.length_eq_zero_iff.1 (by omega)
      subst this; rfl
    | succ n ih =>
      intro u hu
      rcases idx_cases 10 u with ⟨_, h⟩ | ⟨pre, post, rfl, h, _⟩
      · rw [splitC_none h, unl_cons, unl_nil]
      · rw [splitC_one _ h, unl_cons, ih post (by simp at hu; omega)]; simp
  exact key u.length u (Nat.le_refl _)
theorem split_no (u : List UInt8) : ∀ x ∈ splitC 10 u, (10 : UInt8) ∉ x := by
  have key : ∀ n (u : List UInt8), u.length ≤ n → ∀ x ∈ splitC 10 u, (10 : UInt8) ∉ x := by
    intro n
    induction n with
    | zero =>
      intro u hu x hx
      have : u = [] := List.length_eq_zero_iff.1 (by omega)
      subst this
      rw [splitC_none (by simp)] at hx
      simp at hx; subst hx; simp
    | succ n ih =>
      intro u hu x hx
      rcases idx_cases 10 u with ⟨_, h⟩ | ⟨pre, post, rfl, h, _⟩
      · rw [splitC_none h] at hx
        simp at hx; subst hx; exact h
      · rw [splitC_one _ h] at hx
        rcases List.mem_cons.1 hx with rfl | hx
        · exact h
        · exact ih post (by simp at hu; omega) x hx
  exact key u.length u (Nat.le_refl _)
/-! ### Cutting into lines -/
theorem b88 (s : List UInt8) (c : UInt8) : RUN E 88 [.str s, .str [c]] = some [.int (Lib.indexByte s c)] := (RUN_eq _ _ _).trans (by kernel_rfl)
theorem b87 (s : List UInt8) (c : UInt8) : RUN E 87 [.str s, .str [c]] = some [.int (Lib.countByte s c : Int)] := (RUN_eq _ _ _).trans (by kernel_rfl)
theorem b31 (s : List UInt8) (h : s.length ≤ 1000000000) (c : UInt8) : RUN E 31 [.str s, .str [c]] = some [.list ((splitC c s).map .str)] := by
  have hc : s.count c ≤ s.length := List.count_le_length
  have n1 : IntKind.wrap IntKind.i64 ((s.count c : Int) + 1) = ((s.count c + 1 : Nat) : Int) := nxt (by omega)
  have n2 : IntKind.wrap IntKind.i64 ((s.length : Int) + 1) = ((s.length + 1 : Nat) : Int) := nxt (by omega)
  have mm : mmInt false ((s.count c + 1 : Nat) : Int) ((s.length + 1 : Nat) : Int) = ((s.count c + 1 : Nat) : Int) := by
    unfold mmInt; rw [dec_f (p := ((s.length + 1 : Nat) : Int) < ((s.count c + 1 : Nat) : Int)) (by omega)]; rfl
  have n3 : IntKind.wrap IntKind.i64 (((s.count c + 1 : Nat) : Int) - 1) = ((0 + s.count c : Nat) : Int) := by rw [wrap_id (by omega) (by omega)]; omega
  have lp := split_loop (L := fun s n i a => L55b s [c] 0 n i a) (X := fun s => RUN E 88 [.str s, .str [c]]) (c := c) (fun s _ => b88 s c) (fun s n i a => round55b s [c] 0 n i a) s.length s (Nat.le_refl _) (by omega) 0 (List.replicate (s.count c + 1) (.str [])) (by omega) (by simp)
  have e50 : RUN E 55 [.str s, .str [c], .int 0, .int (-1)] = some [.list ((splitC c s).map .str)] := by
    rw [enter55, dec_f (by omega), dec_f (by simp), dec_t (by omega), b87]
    simp only [cond_true, cond_false, opt_s, List.getD_cons_zero, tI, Lib.countByte, n1]
    rw [round55a, n2, mm, n3, dec_t (by omega), dec_t (by omega), dec_t (by rw [lim_val]; omega), Int.toNat_natCast]
    simpa using lp
  rw [enter31, e50]; rfl
theorem b78 (s : List UInt8) (h : s.length ≤ 1000000000) : RUN E 78 [.str s, .str [10]] = some [.bool (decide (s.getLast? = some 10))] := by
  rw [enter78, suf_eq (by omega) (by decide), suf_last]
/-- The program's lines. -/
theorem b63 (ls : List (List UInt8)) (h : (unl ls).length ≤ 1000000000) (hn : ∀ x ∈ ls, (10 : UInt8) ∉ x) : RUN E 63 [.str (unl ls)] = some [.list (ls.map .str)] := by
  rw [enter63]
  by_cases h0 : ls = []
  · subst h0; rfl
  · have hne := unl_ne h0
    have hpos : 0 < (unl ls).length := List.length_pos_iff.2 hne
    have e1 : IntKind.wrap IntKind.i64 (((unl ls).length : Int) - (([10] : List UInt8).length : Int)) = (((unl ls).length - 1 : Nat) : Int) := by
      rw [wrap_id (by simp; omega) (by simp; omega)]; simp; omega
    rw [dec_f hne, enter92, enter111, b78 _ h, unl_last h0]
    simp only [cond_false, opt_s, List.getD_cons_zero, tB, decide_true, cond_true]
    rw [e1, cutOk_hi (by omega), cut_hi]
    simp only [cond_true, opt_s, List.getD_cons_zero, tS]
    rw [← List.dropLast_eq_take, b31 _ (by rw [List.length_dropLast]; omega), split_unl ls h0 hn]
    rfl
/-- The reference's lines of a fence's text. -/
theorem b30 (t : List UInt8) (h : t.length ≤ 1048576) (ht : t = [] ∨ t.getLast? = some 10) : ∃ ls : List (List UInt8), RUN E 30 [.str t] = some [.list (ls.map .str)] ∧ unl ls = t ∧ ∀ x ∈ ls, (10 : UInt8) ∉ x := by
  rw [enter30, enter47, b78 _ (by omega)]
  rcases ht with rfl | ht
  · exact ⟨[], rfl, rfl, fun x hx => by cases hx⟩
  · have hne : t ≠ [] := fun e => by subst e; cases ht
    have hpos : 0 < t.length := List.length_pos_iff.2 hne
    have e1 : IntKind.wrap IntKind.i64 ((t.length : Int) - 1) = ((t.length - 1 : Nat) : Int) := by rw [wrap_id (by omega) (by omega)]; omega
    rw [ht]
    simp only [opt_s, List.getD_cons_zero, tB, decide_true, cond_true]
    rw [e1, cutOk_hi (by omega), cut_hi]
    simp only [cond_true]
    rw [← List.dropLast_eq_take, b31 _ (by rw [List.length_dropLast]; omega)]
    refine ⟨_, rfl, ?_, split_no _⟩
    rw [unl_split]
    rcases List.eq_nil_or_concat t with rfl | ⟨a, c, rfl⟩
    · exact absurd rfl hne
    · rw [List.concat_eq_append] at ht ⊢
      simp at ht; subst ht
      simp

/-! ### Prefixes -/
def pre (first empty other : List UInt8) : List (List UInt8) → List (List UInt8)
  | [] => []
  | x :: r => (first ++ x) :: r.map fun y => (if y = [] then empty else other) ++ y
theorem pre_len (first empty other : List UInt8) (ls : List (List UInt8)) : (pre first empty other ls).length = ls.length := by cases ls <;> simp [pre]
theorem pre_unl {first empty other : List UInt8} {m : Nat} (h1 : first.length ≤ m) (h2 : empty.length ≤ m) (h3 : other.length ≤ m) (ls : List (List UInt8)) : (unl (pre first empty other ls)).length ≤ (unl ls).length + m * ls.length := by
  have key : ∀ r : List (List UInt8), (unl (r.map fun y => (if y = [] then empty else other) ++ y)).length ≤ (unl r).length + m * r.length := by
    intro r
    induction r with
    | nil => simp [unl]
    | cons y r ih =>
      rw [List.map_cons, unl_len, unl_len, List.length_cons, Nat.mul_succ, List.length_append]
      have : (if y = [] then empty else other).length ≤ m := by split <;> omega
      omega
  cases ls with
  | nil => simp [pre, unl]
  | cons x r =>
    have := key r
    simp only [pre]
    rw [unl_len, unl_len, List.length_cons, Nat.mul_succ, List.length_append]
    omega
theorem pre_no {first empty other : List UInt8} (h1 : (10 : UInt8) ∉ first) (h2 : (10 : UInt8) ∉ empty) (h3 : (10 : UInt8) ∉ other) {ls : List (List UInt8)} (h : ∀ x ∈ ls, (10 : UInt8) ∉ x) : ∀ x ∈ pre first empty other ls, (10 : UInt8) ∉ x := by
  intro x hx
  cases ls with
  | nil => cases hx
  | cons y r =>
    rcases List.mem_cons.1 hx with rfl | hx
    · intro hm
      rcases List.mem_append.1 hm with hm | hm
      · exact h1 hm
      · exact h y List.mem_cons_self hm
    · obtain ⟨z, hz, rfl⟩ := List.mem_map.1 hx
      intro hm
      rcases List.mem_append.1 hm with hm | hm
      · split at hm
        · exact h2 hm
        · exact h3 hm
      · exact h z (List.mem_cons_of_mem _ hz) hm
theorem getD_map_str {ls : List (List UInt8)} {i : Nat} (h : i < ls.length) : D.toStr ((ls.map D.str).getD i .no) = ls[i] := by
  rw [List.getD_eq_getElem?_getD, List.getElem?_map, List.getElem?_eq_getElem h]; rfl
/-- The program's prefixed. -/
theorem b41 (first empty other : List UInt8) (ls : List (List UInt8)) (h : (unl ls).length ≤ 1000000000) (h1 : first.length ≤ 1000) (h2 : empty.length ≤ 1000) (h3 : other.length ≤ 1000) (hl : ls.length ≤ 8388608) (hn : ∀ x ∈ ls, (10 : UInt8) ∉ x) :
    RUN E 41 [.str (unl ls), .str first, .str empty, .str other] = some [.str (unl (pre first empty other ls))] := by
  rw [enter41, b63 ls h hn]
  simp only [opt_s, List.getD_cons_zero, tL]
  have step : ∀ i (hi : i < ls.length) (o : List UInt8), o.length ≤ 60000000000 → L41a first empty other (ls.map .str) ((ls.map D.str).length : Int) i (bytesD o) =
      L41a first empty other (ls.map .str) ((ls.map D.str).length : Int) ((i + 1 : Nat) : Int) (bytesD (o ++ ((if i = 0 then first else if ls[i] = [] then empty else other) ++ ls[i] ++ [10]))) := by
    intro i hi o ho
    have hx : ls[i].length + 1 ≤ (unl ls).length := mem_unl (List.getElem_mem hi)
    rw [round41a, dec_t (by rw [List.length_map]; omega), inb_nat (by rw [List.length_map]; exact hi), Int.toNat_natCast, getD_map_str hi, nxt (by omega), show decide ((i : Int) = 0) = decide (i = 0) from decide_eq_decide.2 (by omega)]
    simp only [cond_true]
    have fin : ∀ p : List UInt8, p.length ≤ 1000 → (opt (RUN E 21 [D.agg [D.no, D.list (bytesD o)], D.str p]) fun ρ3 =>
        opt (RUN E 21 [D.agg [D.no, D.list (D.toList (D.cell (List.getD ρ3 2 D.no) 1))], D.str ls[i]]) fun ρ4 =>
          opt (RUN E 20 [D.agg [D.no, D.list (D.toList (D.cell (List.getD ρ4 2 D.no) 1))], D.int 10]) fun ρ5 =>
            L41a first empty other (ls.map .str) ((ls.map D.str).length : Int) ((i + 1 : Nat) : Int) (D.toList (D.cell (List.getD ρ5 1 D.no) 1))) =
        L41a first empty other (ls.map .str) ((ls.map D.str).length : Int) ((i + 1 : Nat) : Int) (bytesD (o ++ (p ++ ls[i] ++ [10]))) := by
      intro p hp
      rw [r21 o p (by omega)]
      simp only [opt_s, D.cell, D.cells, List.getD_cons_zero, List.getD_cons_succ, tL]
      rw [r21 (o ++ p) ls[i] (by rw [List.length_append]; omega)]
      simp only [opt_s, D.cells, List.getD_cons_zero, List.getD_cons_succ, tL]
      rw [r20 (o ++ p ++ ls[i]) (by simp only [List.length_append]; omega)]
      simp only [opt_s, D.cells, List.getD_cons_zero, List.getD_cons_succ, tL]
      rw [show o ++ (p ++ ls[i] ++ [10]) = o ++ p ++ ls[i] ++ [10] by simp]
    by_cases h0 : i = 0
    · rw [dec_t h0, if_pos h0]
      exact fin first h1
    · rw [dec_f h0, if_neg h0]
      simp only [cond_false]
      by_cases he : ls[i] = []
      · rw [dec_t he, if_pos he]; exact fin empty h2
      · rw [dec_f he, if_neg he]; exact fin other h3
  have rest : ∀ n i : Nat, i + n = ls.length → 0 < i → ∀ o : List UInt8, o.length + (unl (ls.drop i)).length + 1000 * n ≤ 60000000000 → L41a first empty other (ls.map .str) ((ls.map D.str).length : Int) i (bytesD o) =
      some [.str (o ++ unl ((ls.drop i).map fun y => (if y = [] then empty else other) ++ y))] := by
    intro n
    induction n with
    | zero =>
      intro i hi _ o _
      have : i = ls.length := by omega
      subst this
      rw [round41a, dec_f (by rw [List.length_map]; omega), r23, List.drop_length]
      simp [opt_s, unl, tS]
    | succ n ih =>
      intro i hi h0 o ho
      have hil : i < ls.length := by omega
      have hp : (if ls[i] = [] then empty else other).length ≤ 1000 := by split <;> omega
      rw [List.drop_eq_getElem_cons hil, unl_len] at ho
      rw [step i hil o (by omega), if_neg (by omega : ¬ i = 0), ih (i + 1) (by omega) (by omega) _ (by simp only [List.length_append, List.length_cons, List.length_nil]; omega), List.drop_eq_getElem_cons hil, List.map_cons, unl_cons]
      simp
  cases ls with
  | nil =>
    have e : RUN E 23 [.agg [.no, .list []]] = some [.str []] := r23 []
    rw [show ((List.map D.str ([] : List (List UInt8))).length : Int) = 0 from rfl, round41a, dec_f (by omega), e]; rfl
  | cons x r =>
    have hs := step 0 (by simp) [] (by simp)
    rw [show (bytesD [] : List D) = [] from rfl, show ((0 : Nat) : Int) = 0 from rfl] at hs
    rw [hs]
    have hx : x.length + 1 ≤ (unl (x :: r)).length := mem_unl List.mem_cons_self
    rw [unl_len] at h
    simp only [List.length_cons] at hl
    rw [if_pos rfl, rest r.length 1 (by simp; omega) (by omega) _ (by simp; omega)]
    simp [pre, unl]
end prt
end Go.Proofs.YtlmfiknfkgdbpaaGreatDoor.pr

namespace Go.Proofs.YtlmfiknfkgdbpaaGreatDoor.pr
open Go.Proofs.YtlmfiknfkgdbpaaGreatDoor.DS
namespace prt
open check chk

theorem b28 (s : List UInt8) (n : Nat) (h : s.length * n ≤ 1000000) : RUN E 28 [.str s, .int (n : Int)] = some [.str (Lib.repeatL s n)] := by
  have e : RUN E 28 [.str s, .int (n : Int)] = xRepeat [.str s, .int (n : Int)] := (RUN_eq _ _ _).trans (by kernel_rfl)
  rw [e]
  unfold xRepeat
  simp only
  rw [Int.toNat_natCast, dec_t (p := (0 : Int) ≤ (n : Int)) (by omega), dec_t (by omega)]
  rfl
theorem rep_len (s : List UInt8) (n : Nat) : (Lib.repeatL s n).length = n * s.length := Lib.repeatL_length s n
theorem rep_mem {s : List UInt8} {x : UInt8} : ∀ {n : Nat}, x ∈ Lib.repeatL s n → x ∈ s := by
  intro n
  induction n with
  | zero => intro h; cases h
  | succ n ih =>
    intro h
    rcases List.mem_append.1 (show x ∈ s ++ Lib.repeatL s n from h) with h | h
    · exact h
    · exact ih h
theorem b56 (n : Int) : RUN E 56 [.int n] = some [.str (Lib.itoa n)] := (RUN_eq _ _ _).trans (by kernel_rfl)
theorem dec_no (u : Nat) : (10 : UInt8) ∉ Lib.decDigits u := by
  have hd : ∀ d : Nat, d < 10 → UInt8.ofNat (48 + d) ≠ 10 := by
    intro d hd e
    have := congrArg UInt8.toNat e
    simp at this
    omega
  induction u using Nat.strongRecOn with
  | _ u ih =>
    rw [Lib.decDigits]
    split
    · rename_i h
      intro hm
      rw [List.mem_singleton] at hm
      exact hd u h hm.symm
    · rename_i h
      intro hm
      rcases List.mem_append.1 hm with hm | hm
      · exact ih (u / 10) (by omega) hm
      · rw [List.mem_singleton] at hm
        exact hd (u % 10) (by omega) hm.symm
theorem itoa_no {n : Int} (h : 0 ≤ n) : (10 : UInt8) ∉ Lib.itoa n := by
  unfold Lib.itoa
  rw [if_neg (by omega)]
  exact dec_no _

def El (x : D) (c : Nat) : Prop := ∃ xs : List (List UInt8), RUN E 22 [x] = some [.str (unl xs)] ∧ (∀ y ∈ xs, (10 : UInt8) ∉ y) ∧ xs.length + 1 ≤ 4 * dmass x ∧ (unl xs).length + 1 ≤ (8 + 48 * c) * dmass x ∧
  ∀ (l : List D) (i : Nat) (out : List D), i ≤ 1048576 → out.length ≤ 8388608 → C15b l (l.length : Int) i out x = L15a l (l.length : Int) ((i + 1 : Nat) : Int) (out ++ xs.map .str)

theorem line39 {kk : List D} {ln : Bool} (hI : Inl kk ln) (hm : dmass.dmAll kk ≤ 1048576) (para : Bool) : ∃ o : List UInt8, RUN E 29 [.list kk, .bool para, .bool para] = some [.str o] ∧ RUN E 39 [.list kk, .bool para] = some [.str o] ∧ o.length ≤ 4 * dmass.dmAll kk ∧ (ln = false → (10 : UInt8) ∉ o) := by
  obtain ⟨o, o1, o2, o3, _, o5⟩ := hI para para
  obtain ⟨f, hf⟩ := o5 [] (by simp; omega)
  refine ⟨o, o1, ?_, o2, o3⟩
  rw [show (para && para) = para by cases para <;> rfl, show (bytesD [] : List D) = [] from rfl, List.nil_append] at hf
  rw [enter39, hf]
  simp [opt_s, D.cell, D.cells, tL, dBytes_bytesD]
theorem bound {c m n : Nat} (h : n ≤ 8 * m) : n ≤ (8 + 48 * c) * m := by
  rw [Nat.add_mul]
  exact Nat.le_trans h (Nat.le_add_right _ _)

theorem el1 {l0 : Int} {t d ti : List UInt8} {kk : List D} (hm : dmass (.agg [.int 1, .int l0, .str t, .str d, .str ti, .list kk]) ≤ 1048576) (c : Nat) (h1 : 1 ≤ l0) (h6 : l0 ≤ 6) (hI : Inl kk false) : El (.agg [.int 1, .int l0, .str t, .str d, .str ti, .list kk]) c := by
  obtain ⟨n, rfl⟩ := Int.eq_ofNat_of_zero_le (show 0 ≤ l0 by omega)
  simp only [dmass, dmass.dmAll] at hm
  obtain ⟨o, o1, o2, o3, o4⟩ := line39 hI (by omega) false
  have e28 := b28 [35] n (by simp; omega)
  have hr := rep_len [35] n
  simp only [List.length_cons, List.length_nil] at hr
  refine ⟨[Lib.repeatL [35] n ++ [32] ++ o], ?_, ?_, ?_, ?_, ?_⟩
  · rw [enter22]
    simp only [D.cell, D.cells, List.getD_cons_zero, List.getD_cons_succ, tI, tS, tL, decide_true]
    rw [e28, o2]
    simp only [opt_s, List.getD_cons_zero, tS]
    rw [lim_t (n := (Lib.repeatL [35] n).length) (m := ([32] : List UInt8).length) (by simp; omega), lim_t (n := (Lib.repeatL [35] n ++ ([32] : List UInt8)).length) (m := o.length) (by simp; omega), lim_t (n := (Lib.repeatL [35] n ++ ([32] : List UInt8) ++ o).length) (m := ([10] : List UInt8).length) (by simp; omega)]
    rw [unl_cons, unl_nil]
    rfl
  · intro y hy hm
    simp only [List.mem_singleton] at hy
    subst hy
    simp only [List.mem_append, List.mem_singleton] at hm
    rcases hm with (hm | hm) | hm
    · have := rep_mem hm; simp at this
    · cases hm
    · exact o4 rfl hm
  · simp only [List.length_singleton, dmass, dmass.dmAll]; omega
  · refine bound ?_
    rw [unl_len, unl_nil]
    simp only [List.length_append, List.length_cons, List.length_nil, dmass, dmass.dmAll]
    omega
  · intro l i out hi ho
    rw [round15b]
    simp only [D.cell, D.cells, List.getD_cons_zero, List.getD_cons_succ, tI, tS, tL, decide_true, nxt (show i ≤ 4611686018427387904 by omega)]
    rw [e28, o1]
    simp only [opt_s, List.getD_cons_zero, tS]
    rw [lim_t (n := (Lib.repeatL [35] n).length) (m := ([32] : List UInt8).length) (by simp; omega), lim_t (n := (Lib.repeatL [35] n ++ ([32] : List UInt8)).length) (m := o.length) (by simp; omega), fit_t (n := out.length) (m := [D.str (Lib.repeatL [35] n ++ ([32] : List UInt8) ++ o)].length) (by simp; omega)]
    rfl
theorem el7 {l0 : Int} {t d ti : List UInt8} {kk : List D} (c : Nat) : El (.agg [.int 7, .int l0, .str t, .str d, .str ti, .list kk]) c := by
  refine ⟨[[45, 45, 45]], by rw [enter22]; rfl, by decide, by simp only [List.length_singleton, dmass, dmass.dmAll]; omega, bound (by simp only [unl_len, unl_nil, List.length_cons, List.length_nil, dmass, dmass.dmAll]; omega), fun l i out hi ho => ?_⟩
  rw [round15b]
  simp only [D.cell, D.cells, List.getD_cons_zero, List.getD_cons_succ, tI, nxt (show i ≤ 4611686018427387904 by omega)]
  rw [fit_t (n := out.length) (m := [D.str ([45, 45, 45] : List UInt8)].length) (by simp; omega)]
  rfl
theorem el3 {l0 : Int} {t d ti : List UInt8} {kk : List D} (hm : dmass (.agg [.int 3, .int l0, .str t, .str d, .str ti, .list kk]) ≤ 1048576) (c : Nat) (hd : (10 : UInt8) ∉ d) (ht : t = [] ∨ t.getLast? = some 10) : El (.agg [.int 3, .int l0, .str t, .str d, .str ti, .list kk]) c := by
  simp only [dmass, dmass.dmAll] at hm
  obtain ⟨ls, h1, h2, h3⟩ := b30 t (by omega) ht
  have hl := len_unl ls
  rw [h2] at hl
  refine ⟨([96, 96, 96] ++ d) :: (ls ++ [[96, 96, 96]]), ?_, ?_, ?_, ?_, ?_⟩
  · rw [enter22]
    simp only [D.cell, D.cells, List.getD_cons_zero, List.getD_cons_succ, tI, tS, tL, decide_true]
    rw [lim_t (n := ([96, 96, 96] : List UInt8).length) (m := d.length) (by simp; omega), lim_t (n := (([96, 96, 96] : List UInt8) ++ d).length) (m := ([10] : List UInt8).length) (by simp; omega), lim_t (n := (([96, 96, 96] : List UInt8) ++ d ++ ([10] : List UInt8)).length) (m := t.length) (by simp; omega), lim_t (n := (([96, 96, 96] : List UInt8) ++ d ++ ([10] : List UInt8) ++ t).length) (m := ([96, 96, 96, 10] : List UInt8).length) (by simp; omega)]
    rw [unl_cons, unl_app, h2, unl_cons, unl_nil]
    rw [show ([96, 96, 96] : List UInt8) ++ d ++ 10 :: (t ++ ([96, 96, 96] ++ 10 :: [])) = ([96, 96, 96] : List UInt8) ++ d ++ ([10] : List UInt8) ++ t ++ ([96, 96, 96, 10] : List UInt8) by simp]
    rfl
  · intro y hy hm
    rcases List.mem_cons.1 hy with rfl | hy
    · rcases List.mem_append.1 hm with hm | hm
      · revert hm; decide
      · exact hd hm
    · rcases List.mem_append.1 hy with hy | hy
      · exact h3 y hy hm
      · simp only [List.mem_singleton] at hy
        subst hy
        revert hm; decide
  · simp only [List.length_cons, List.length_append, List.length_nil, dmass, dmass.dmAll]; omega
  · refine bound ?_
    simp only [unl_len, unl_app, h2, unl_nil, List.length_append, List.length_cons, List.length_nil, dmass, dmass.dmAll]
    omega
  · intro l i out hi ho
    rw [round15b]
    simp only [D.cell, D.cells, List.getD_cons_zero, List.getD_cons_succ, tI, tS, tL, decide_true, nxt (show i ≤ 4611686018427387904 by omega)]
    rw [h1]
    simp only [opt_s, List.getD_cons_zero, tL]
    rw [lim_t (n := ([96, 96, 96] : List UInt8).length) (m := d.length) (by simp; omega), fit_t (n := out.length) (m := [D.str (([96, 96, 96] : List UInt8) ++ d)].length) (by simp; omega), fit_t (n := (ls.map D.str).length) (m := [D.str ([96, 96, 96] : List UInt8)].length) (by simp; omega),
      fit_t (n := (out ++ [D.str (([96, 96, 96] : List UInt8) ++ d)]).length) (m := (ls.map D.str ++ [D.str ([96, 96, 96] : List UInt8)]).length) (by simp; omega)]
    rw [show out ++ (([96, 96, 96] ++ d) :: (ls ++ [[96, 96, 96]])).map D.str = out ++ [D.str (([96, 96, 96] : List UInt8) ++ d)] ++ (ls.map D.str ++ [D.str ([96, 96, 96] : List UInt8)]) by simp]
    rfl
theorem el2 {l0 : Int} {t d ti : List UInt8} {kk : List D} (hm : dmass (.agg [.int 2, .int l0, .str t, .str d, .str ti, .list kk]) ≤ 1048576) (c : Nat) (hI : Inl kk true) : El (.agg [.int 2, .int l0, .str t, .str d, .str ti, .list kk]) c := by
  simp only [dmass, dmass.dmAll] at hm
  obtain ⟨o, o1, o2, o3, _⟩ := line39 hI (by omega) true
  have hu := unl_split o
  have hl := len_unl (splitC 10 o)
  rw [hu, List.length_append, List.length_singleton] at hl
  refine ⟨splitC 10 o, ?_, split_no o, ?_, ?_, ?_⟩
  · rw [enter22]
    simp only [D.cell, D.cells, List.getD_cons_zero, List.getD_cons_succ, tI, tS, tL, decide_true]
    rw [o2]
    simp only [opt_s, List.getD_cons_zero, tS]
    rw [lim_t (n := o.length) (m := ([10] : List UInt8).length) (by simp; omega), hu]
    rfl
  · simp only [dmass, dmass.dmAll]; omega
  · refine bound ?_
    rw [hu, List.length_append, List.length_singleton]
    simp only [dmass, dmass.dmAll]
    omega
  · intro l i out hi ho
    rw [round15b]
    simp only [D.cell, D.cells, List.getD_cons_zero, List.getD_cons_succ, tI, tS, tL, decide_true, nxt (show i ≤ 4611686018427387904 by omega)]
    rw [o1]
    simp only [opt_s, List.getD_cons_zero, tS]
    rw [b31 o (by omega)]
    simp only [opt_s, List.getD_cons_zero, tL]
    rw [fit_t (n := out.length) (m := ((splitC 10 o).map D.str).length) (by simp; omega)]
    rfl

/-! ### Rows -/
/-- What is said of a row of a table. -/
def RowOk (r : D) : Prop := Nd r ∧ D.toInt (D.cell r 0) = 9 ∧ kidsOf r ≠ [] ∧ ∀ x ∈ kidsOf r, Inl (kidsOf x) false
def jn (sep : List UInt8) : List (List UInt8) → List UInt8
  | [] => []
  | x :: r => x ++ r.flatMap fun y => sep ++ y
theorem join_jn (sep : List UInt8) (xs : List (List UInt8)) : Lib.join xs sep = jn sep xs := by
  cases xs with
  | nil => rfl
  | cons x r =>
    rw [Lib.join_cons]
    simp only [jn]
    congr 1
theorem b32 (xs : List (List UInt8)) (sep : List UInt8) (h1 : xs.length ≤ 140737488355328) (h2 : (jn sep xs).length ≤ 140737488355328) : RUN E 32 [.list (xs.map .str), .str sep] = some [.str (jn sep xs)] := by
  have e : RUN E 32 [.list (xs.map .str), .str sep] = xJoin [.list (xs.map .str), .str sep] := (RUN_eq _ _ _).trans (by kernel_rfl)
  rw [e]
  have hm : (xs.map D.str).map D.toStr = xs := by rw [List.map_map]; simp [Function.comp_def, D.toStr]
  unfold xJoin
  simp only
  rw [hm, join_jn, List.length_map, dec_t h1, dec_t h2]; rfl
def rowLine (os : List (List UInt8)) : List UInt8 := [124, 32] ++ jn [32, 124, 32] os ++ [32, 124]

theorem row {r : D} (hr : RowOk r) (hm : dmass r ≤ 1048576) : ∃ os : List (List UInt8), os ≠ [] ∧ os.length ≤ dmass.dmAll (kidsOf r) ∧ (jn [32, 124, 32] os).length ≤ 4 * dmass.dmAll (kidsOf r) ∧ (∀ o ∈ os, (10 : UInt8) ∉ o) ∧
    (∀ (l : List D) (i : Nat) (out : List D), i ≤ 1048576 → out.length ≤ 8388608 → C15b l (l.length : Int) i out r = L15a l (l.length : Int) ((i + 1 : Nat) : Int) (out ++ [.str (rowLine os)])) ∧
    ∀ (l : List D) (i : Nat) (o : List UInt8), i ≤ 1048576 → o.length ≤ 30000000000 → L22b l (l.length : Int) i (kidsOf r) ((kidsOf r).length : Int) 0 (bytesD o) = L22a l (l.length : Int) ((i + 1 : Nat) : Int) (bytesD (o ++ (rowLine os ++ [10]))) := by
  obtain ⟨hN, hk, hne, hI⟩ := hr
  have hkN := hN.kids
  have hmk := mass_nd hN
  have hlen := len_le hkN
  generalize hks : kidsOf r = ks at *
  have hcell : ∀ j (hj : j < ks.length), ∃ o : List UInt8, RUN E 29 [.list (kidsOf ks[j]), .bool false, .bool false] = some [.str o] ∧ RUN E 39 [.list (kidsOf ks[j]), .bool false] = some [.str o] ∧ o.length + 4 ≤ 4 * dmass ks[j] ∧ (10 : UInt8) ∉ o := by
    intro j hj
    have hx := hkN ks[j] (List.getElem_mem hj)
    have h1 := mass_nd hx
    have h2 : dmass ks[j] ≤ dmass.dmAll ks := mass_mem (List.getElem_mem hj)
    obtain ⟨o, o1, o2, o3, o4⟩ := line39 (hI ks[j] (List.getElem_mem hj)) (by omega) false
    exact ⟨o, o1, o2, by omega, o4 rfl⟩
  have hki : ∀ j, D.toList (D.cell (ks.getD j .no) 5) = kidsOf (ks.getD j .no) := fun _ => rfl
  -- the cells from one on
  have loop : ∀ n j : Nat, j + n = ks.length → ∃ os : List (List UInt8), os.length = n ∧ (os.flatMap fun y => [32, 124, 32] ++ y).length ≤ 4 * dmass.dmAll (ks.drop j) ∧ (∀ o ∈ os, (10 : UInt8) ∉ o) ∧
      (∀ (l : List D) (i : Nat) (out : List D) (cs : List (List UInt8)), i ≤ 1048576 → cs.length = j → out.length ≤ 8388608 → (jn [32, 124, 32] (cs ++ os)).length ≤ 8388608 → L15c l (l.length : Int) i ks (ks.length : Int) j out (cs.map .str) = L15a l (l.length : Int) ((i + 1 : Nat) : Int) (out ++ [.str (rowLine (cs ++ os))])) ∧
      (0 < j → ∀ (l : List D) (i : Nat) (o : List UInt8), i ≤ 1048576 → o.length + 4 * dmass.dmAll (ks.drop j) ≤ 40000000000 → L22b l (l.length : Int) i ks (ks.length : Int) j (bytesD o) = L22a l (l.length : Int) ((i + 1 : Nat) : Int) (bytesD (o ++ (os.flatMap fun y => [32, 124, 32] ++ y) ++ [32, 124, 10]))) := by
    intro n
    induction n with
    | zero =>
      intro j hj
      have : j = ks.length := by omega
      subst this
      refine ⟨[], rfl, by simp, (fun o ho => by cases ho), fun l i out cs hi hcs ho hjn => ?_, fun _ l i o hi ho => ?_⟩
      · rw [List.append_nil] at hjn ⊢
        rw [round15c, dec_f (by omega), b32 cs _ (by omega) (by omega)]
        simp only [cond_false, opt_s, List.getD_cons_zero, tS]
        rw [lim_t (n := ([124, 32] : List UInt8).length) (m := (jn [32, 124, 32] cs).length) (by simp; omega), lim_t (n := (([124, 32] : List UInt8) ++ jn [32, 124, 32] cs).length) (m := ([32, 124] : List UInt8).length) (by simp; omega), fit_t (n := out.length) (m := [D.str (([124, 32] : List UInt8) ++ jn [32, 124, 32] cs ++ ([32, 124] : List UInt8))].length) (by simp; omega), nxt (by omega)]
        rfl
      · rw [round22b, dec_f (by omega), r21 o [32, 124, 10] (by simp; omega)]
        simp only [cond_false, opt_s, List.getD_cons_zero, List.getD_cons_succ, D.cell, D.cells, tL, nxt (show i ≤ 4611686018427387904 by omega)]
        simp
    | succ n ih =>
      intro j hj
      have hjl : j < ks.length := by omega
      have hdm := drop_mass hjl
      have hg : ks.getD j .no = ks[j] := getD_eq ks j .no hjl
      obtain ⟨o, o1, o2, o3, o4⟩ := hcell j hjl
      obtain ⟨os, p1, p2, p3, p4, p5⟩ := ih (j + 1) (by omega)
      refine ⟨o :: os, by simp [p1], ?_, ?_, fun l i out cs hi hcs ho hjn => ?_, fun h0 l i o' hi ho' => ?_⟩
      · rw [List.flatMap_cons, List.length_append, List.length_append]
        simp only [List.length_cons, List.length_nil]
        omega
      · intro y hy
        rcases List.mem_cons.1 hy with rfl | hy
        · exact o4
        · exact p3 y hy
      · rw [round15c, dec_t (by omega), inb_nat hjl, Int.toNat_natCast, hki, hg, o1, nxt (by omega)]
        simp only [cond_true, opt_s, List.getD_cons_zero, tS]
        rw [fit_t (n := (cs.map D.str).length) (m := [D.str o].length) (by simp; omega)]
        have := p4 l i out (cs ++ [o]) hi (by simp [hcs]) ho (by rw [List.append_assoc]; exact hjn)
        rw [List.append_assoc, List.map_append] at this
        exact this
      · rw [round22b, dec_t (by omega), inb_nat hjl, Int.toNat_natCast, hki, hg, o2, nxt (by omega), dec_f (p := (j : Int) = 0) (by omega), r21 o' [32, 124, 32] (by simp; omega)]
        simp only [cond_true, cond_false, opt_s, List.getD_cons_zero, List.getD_cons_succ, D.cell, D.cells, tL, tS]
        rw [r21 (o' ++ [32, 124, 32]) o (by simp; omega)]
        simp only [opt_s, List.getD_cons_zero, List.getD_cons_succ, D.cells, tL]
        rw [p5 (by omega) l i _ hi (by simp; omega)]
        simp
  cases hc : ks with
  | nil => exact absurd hc hne
  | cons x xs =>
    have h0 : 0 < ks.length := by rw [hc]; simp
    obtain ⟨o, o1, o2, o3, o4⟩ := hcell 0 h0
    obtain ⟨os, p1, p2, p3, p4, p5⟩ := loop (ks.length - 1) 1 (by omega)
    have hdm := drop_mass h0
    have hg : ks.getD 0 .no = ks[0] := getD_eq ks 0 .no h0
    simp only [List.drop_zero, Nat.zero_add] at hdm
    have hj : (jn [32, 124, 32] (o :: os)).length ≤ 4 * dmass.dmAll ks := by
      simp only [jn, List.length_append]
      omega
    rw [← hc]
    refine ⟨o :: os, by simp, by simp [p1]; omega, hj, ?_, fun l i out hi ho => ?_, fun l i o' hi ho' => ?_⟩
    · intro y hy
      rcases List.mem_cons.1 hy with rfl | hy
      · exact o4
      · exact p3 y hy
    · have hr9 : C15b l (l.length : Int) i out r = L15c l (l.length : Int) i ks (ks.length : Int) 0 out [] := by
        rw [round15b, hk, show D.toList (D.cell r 5) = ks from hks]
        rfl
      rw [hr9, show ((0 : Int)) = ((0 : Nat) : Int) from rfl, round15c, dec_t (by omega), inb_nat h0, Int.toNat_natCast, hki, hg, o1, nxt (by omega)]
      simp only [cond_true, opt_s, List.getD_cons_zero, tS]
      rw [fit_t (n := ([] : List D).length) (m := [D.str o].length) (by simp)]
      exact p4 l i out [o] hi rfl ho (by show (jn [32, 124, 32] (o :: os)).length ≤ _; omega)
    · rw [show ((0 : Int)) = ((0 : Nat) : Int) from rfl, round22b, dec_t (by omega), inb_nat h0, Int.toNat_natCast, hki, hg, o2, nxt (by omega), dec_t (p := ((0 : Nat) : Int) = 0) rfl, r21 o' [124, 32] (by simp; omega)]
      simp only [cond_true, opt_s, List.getD_cons_zero, List.getD_cons_succ, D.cell, D.cells, tL, tS]
      rw [r21 (o' ++ [124, 32]) o (by simp; omega)]
      simp only [opt_s, List.getD_cons_zero, List.getD_cons_succ, D.cells, tL]
      rw [p5 (by omega) l i _ hi (by simp only [List.length_append, List.length_cons, List.length_nil]; omega)]
      simp [rowLine, jn]
theorem jn_no {sep : List UInt8} (hs : (10 : UInt8) ∉ sep) {os : List (List UInt8)} (h : ∀ o ∈ os, (10 : UInt8) ∉ o) : (10 : UInt8) ∉ jn sep os := by
  cases os with
  | nil => simp [jn]
  | cons x r =>
    simp only [jn]
    intro hm
    rcases List.mem_append.1 hm with hm | hm
    · exact h x List.mem_cons_self hm
    · obtain ⟨y, hy, hm⟩ := List.mem_flatMap.1 hm
      rcases List.mem_append.1 hm with hm | hm
      · exact hs hm
      · exact h y (List.mem_cons_of_mem _ hy) hm
theorem rowLine_no {os : List (List UInt8)} (h : ∀ o ∈ os, (10 : UInt8) ∉ o) : (10 : UInt8) ∉ rowLine os := by
  unfold rowLine
  intro hm
  simp only [List.mem_append] at hm
  rcases hm with (hm | hm) | hm
  · revert hm; decide
  · exact jn_no (by decide) h hm
  · revert hm; decide
/-- A table. -/
theorem el8 {l0 : Int} {t d ti : List UInt8} {kk : List D} (hm : dmass (.agg [.int 8, .int l0, .str t, .str d, .str ti, .list kk]) ≤ 1048576) (c : Nat) (hN : AllN kk) (hR : ∀ r ∈ kk, RowOk r) : El (.agg [.int 8, .int l0, .str t, .str d, .str ti, .list kk]) c := by
  simp only [dmass, dmass.dmAll] at hm
  have hlen := len_le hN
  have loop : ∀ n i : Nat, i + n = kk.length → ∃ ls : List (List UInt8), ls.length = n ∧ (∀ y ∈ ls, (10 : UInt8) ∉ y) ∧ (unl ls).length ≤ 8 * dmass.dmAll (kk.drop i) ∧
      (∀ out : List D, out.length + n ≤ 8388608 → L15a kk (kk.length : Int) i out = some [.list (out ++ ls.map .str)]) ∧
      ∀ o : List UInt8, o.length + 8 * dmass.dmAll (kk.drop i) ≤ 20000000000 → L22a kk (kk.length : Int) i (bytesD o) = some [.str (o ++ unl ls)] := by
    intro n
    induction n with
    | zero =>
      intro i hi
      have : i = kk.length := by omega
      subst this
      refine ⟨[], rfl, (fun y hy => by cases hy), by simp [unl], fun out _ => ?_, fun o _ => ?_⟩
      · rw [round15a, dec_f (by omega)]; simp
      · rw [round22a, dec_f (by omega), r23]; simp [opt_s, unl, tS]
    | succ n ih =>
      intro i hi
      have hil : i < kk.length := by omega
      have hdm := drop_mass hil
      have hg : kk.getD i .no = kk[i] := getD_eq kk i .no hil
      have hr := hR kk[i] (List.getElem_mem hil)
      have hmr : dmass kk[i] ≤ dmass.dmAll kk := mass_mem (List.getElem_mem hil)
      have hmn := mass_nd hr.1
      obtain ⟨os, q1, q2, q3, q4, q5, q6⟩ := row hr (by omega)
      obtain ⟨ls, p1, p2, p3, p4, p5⟩ := ih (i + 1) (by omega)
      refine ⟨rowLine os :: ls, by simp [p1], ?_, ?_, fun out ho => ?_, fun o ho => ?_⟩
      · intro y hy
        rcases List.mem_cons.1 hy with rfl | hy
        · exact rowLine_no q4
        · exact p2 y hy
      · rw [unl_len]
        simp only [rowLine, List.length_append, List.length_cons, List.length_nil]
        have h6 : 6 + dmass.dmAll (kidsOf kk[i]) ≤ dmass kk[i] := by
          have hx := hr.1
          generalize kk[i] = x at *
          cases hx with
          | mk k l t d ti ks h => simp only [kidsOf, D.cell, D.cells, List.getD_cons_succ, List.getD_cons_zero, D.toList, dmass, dmass.dmAll]; omega
        omega
      · rw [round15a, dec_t (by omega), inb_nat hil, Int.toNat_natCast, hg, hr.2.1]
        have hb : (bif bif decide ((0 : Int) < (i : Int)) then bif decide ((9 : Int) = 6) then false else true else false then bif decide ((9 : Int) = 9) then false else true else false) = false := by
          cases decide ((0 : Int) < (i : Int)) <;> rfl
        rw [hb]
        simp only [cond_true, cond_false]
        rw [q5 kk i out (by omega) (by omega), p4 _ (by simp; omega)]
        simp
      · rw [round22a, dec_t (by omega), inb_nat hil, Int.toNat_natCast, hg]
        simp only [cond_true]
        have hj := q6 kk i o (by omega) (by omega)
        rw [show D.toList (D.cell kk[i] 5) = kidsOf kk[i] from rfl, hj, p5 _ (by
          simp only [rowLine, List.length_append, List.length_cons, List.length_nil]
          omega), unl_cons]
        simp
  obtain ⟨ls, p1, p2, p3, p4, p5⟩ := loop kk.length 0 (by omega)
  rw [List.drop_zero] at p3 p5
  have e22 : L22a kk (kk.length : Int) 0 [] = some [.str (unl ls)] := p5 [] (by simp; omega)
  have e15 : RUN E 15 [.list kk] = some [.list (ls.map .str)] := by rw [enter15]; exact p4 [] (by simp; omega)
  refine ⟨ls, ?_, p2, ?_, ?_, fun l i out hi ho => ?_⟩
  · rw [enter22]
    simp only [D.cell, D.cells, List.getD_cons_zero, List.getD_cons_succ, tI, tS, tL, decide_true]
    rw [e22]
    rfl
  · simp only [dmass, dmass.dmAll]; omega
  · refine bound ?_
    simp only [dmass, dmass.dmAll]
    omega
  · rw [round15b]
    simp only [D.cell, D.cells, List.getD_cons_zero, List.getD_cons_succ, tI, tS, tL, decide_true, nxt (show i ≤ 4611686018427387904 by omega)]
    rw [e15]
    simp only [opt_s, List.getD_cons_zero, tL]
    rw [fit_t (n := out.length) (m := (ls.map D.str).length) (by simp; omega)]
    rfl
end prt
end Go.Proofs.YtlmfiknfkgdbpaaGreatDoor.pr
