/- Pieces joined: the program's builder and the reference's rows of strings make the same bytes. -/
import Derived.Test.YtbinmfenhbpdnaaDxJoinsB
set_option linter.unusedVariables false
set_option linter.unusedSimpArgs false
namespace Go.Proofs.Ytbinmfenhbpdnaa.tj
open Go.Proofs.Ytbinmfenhbpdnaa.DS
namespace joins

theorem r50 (l : List D) : RUN E 50 [.agg [.no, .list l]] = some [.agg [.no, .list l]] := (RUN_eq _ _ _).trans (by kernel_rfl)
theorem r29 (l : List D) : RUN E 29 [.agg [.no, .list l]] = some [.str (dBytes l)] := (RUN_eq _ _ _).trans (by kernel_rfl)
theorem r28 (x s : List UInt8) (h : x.length + s.length ≤ 68719476736) : RUN E 28 [.agg [.no, .list (bytesD x)], .str s] = some [.int s.length, .no, .agg [.no, .list (bytesD (x ++ s))]] := by
  rw [enter28, r50, opt_s]
  show cond (fitL (bytesD x).length (bytesD s).length) (some [_, _, D.agg [D.no, D.list (bytesD x ++ bytesD s)]]) none = _
  rw [fit_t (by rw [bytesD_len, bytesD_len]; exact h), ← bytesD_append]; rfl
theorem r31 (x : List UInt8) (c : UInt8) (h : x.length + 1 ≤ 68719476736) : RUN E 31 [.agg [.no, .list (bytesD x)], .int c.toNat] = some [.no, .agg [.no, .list (bytesD (x ++ [c]))]] := by
  rw [enter31, r50, opt_s]
  show cond (fitL (bytesD x).length [D.int (c.toNat : Int)].length) (some [_, D.agg [D.no, D.list (bytesD x ++ bytesD [c])]]) none = _
  rw [fit_t (by rw [bytesD_len]; exact h), ← bytesD_append]; rfl
theorem join_flat (xs : List (List UInt8)) : Lib.join xs [] = xs.flatten := by
  cases xs with
  | nil => rfl
  | cons x r =>
    rw [Lib.join_cons]
    unfold Lib.joinTail
    simp
theorem r30 (xs : List (List UInt8)) (h1 : xs.length ≤ 140737488355328) (h2 : xs.flatten.length ≤ 140737488355328) : RUN E 30 [.list (xs.map .str), .str []] = some [.str xs.flatten] := by
  have e : RUN E 30 [.list (xs.map .str), .str []] = xJoin [.list (xs.map .str), .str []] := (RUN_eq _ _ _).trans (by kernel_rfl)
  rw [e]
  show cond (decide ((xs.map D.str).length ≤ 140737488355328) && decide ((Lib.join ((xs.map D.str).map D.toStr) []).length ≤ 140737488355328)) (some [D.str (Lib.join ((xs.map D.str).map D.toStr) [])]) none = _
  have hm : (xs.map D.str).map D.toStr = xs := by rw [List.map_map]; simp [Function.comp_def, D.toStr]
  rw [hm, join_flat, List.length_map, dec_t h1, dec_t h2]; rfl

/-! ### A loop of pieces -/
/-- A builder's loop over pieces, where a round writes what f says. -/
theorem build_loop {L : Int → List D → R} {F : List UInt8 → R} {l : List D} {f : D → List UInt8} (hend : ∀ x : List UInt8, x.length ≤ 68719476736 → L (l.length : Nat) (bytesD x) = F x)
    (hL : ∀ (i : Nat) (x : List UInt8), i < l.length → x.length + (f (l.getD i .no)).length ≤ 68719476736 → L i (bytesD x) = L ((i + 1 : Nat) : Int) (bytesD (x ++ f (l.getD i .no)))) (hl : (l.flatMap f).length ≤ 68719476736) : L 0 [] = F (l.flatMap f) := by
  have key : ∀ n i : Nat, i + n = l.length → ∀ x : List UInt8, x.length + ((l.drop i).flatMap f).length ≤ 68719476736 → L i (bytesD x) = F (x ++ (l.drop i).flatMap f) := by
    intro n
    induction n with
    | zero =>
      intro i hi x hx
      have : i = l.length := by omega
      subst this
      rw [List.drop_length] at hx ⊢
      simp at hx
      rw [hend x (by omega)]; simp
    | succ n ih =>
      intro i hi x hx
      have hil : i < l.length := by omega
      rw [drop_cons .no hil] at hx ⊢
      rw [List.flatMap_cons, List.length_append] at hx
      rw [hL i x hil (by omega), ih (i + 1) (by omega) _ (by rw [List.length_append]; omega), List.flatMap_cons]
      simp
  have := key l.length 0 (by omega) [] (by simpa using hl)
  simpa [bytesD] using this
/-- The reference's loop: a row of strings, then joined. -/
theorem row_loop {L : Int → List D → R} {F : List UInt8 → R} {l : List D} {f : D → List UInt8} (hend : ∀ xs : List (List UInt8), xs.length ≤ l.length → xs.flatten.length ≤ 68719476736 → L (l.length : Nat) (xs.map .str) = F xs.flatten)
    (hL : ∀ (i : Nat) (xs : List (List UInt8)), i < l.length → xs.length ≤ i → L i (xs.map .str) = L ((i + 1 : Nat) : Int) ((xs ++ [f (l.getD i .no)]).map .str)) (hl : (l.flatMap f).length ≤ 68719476736) : L 0 [] = F (l.flatMap f) := by
  have key : ∀ n i : Nat, i + n = l.length → ∀ xs : List (List UInt8), xs.length ≤ i → xs.flatten.length + ((l.drop i).flatMap f).length ≤ 68719476736 → L i (xs.map .str) = F (xs.flatten ++ (l.drop i).flatMap f) := by
    intro n
    induction n with
    | zero =>
      intro i hi xs hxs hx
      have : i = l.length := by omega
      subst this
      rw [List.drop_length] at hx ⊢
      rw [hend xs hxs (by omega)]; simp
    | succ n ih =>
      intro i hi xs hxs hx
      have hil : i < l.length := by omega
      rw [drop_cons .no hil] at hx ⊢
      rw [List.flatMap_cons, List.length_append] at hx
      have hfl : (xs ++ [f (l.getD i .no)]).flatten.length = xs.flatten.length + (f (l.getD i .no)).length := by rw [List.flatten_append, List.length_append, List.flatten_singleton]
      rw [hL i xs hil hxs, ih (i + 1) (by omega) _ (by simp; omega) (by omega), List.flatMap_cons]
      simp
  have := key l.length 0 (by omega) [] (by simp) (by simpa using hl)
  simpa using this
def txt (d : D) : List UInt8 := D.toStr (D.cell d 1)
def kd (d : D) : Int := D.toInt (D.cell d 0)
/-- What a skeleton shows of a piece. -/
def sk (d : D) : List UInt8 := bif decide (kd d = 1) || decide (kd d = 2) || decide (kd d = 3) then [120] else bif decide (kd d = 4) then [47] else bif decide (kd d = 5) then [48] else txt d
theorem flat_le (f : D → List UInt8) (hf : ∀ d, (f d).length ≤ dmass d + 1) : ∀ l : List D, (l.flatMap f).length ≤ dmass.dmAll l + l.length := by
  intro l
  induction l with
  | nil => simp
  | cons d r ih =>
    have := hf d
    simp only [List.flatMap_cons, List.length_append, List.length_cons, dmass.dmAll]; omega
theorem txt_le (d : D) : (txt d).length ≤ dmass d + 1 := by have := cellS_le d 1; unfold txt; omega
theorem sk_le (d : D) : (sk d).length ≤ dmass d + 1 := by
  have := txt_le d
  unfold sk
  cases decide (kd d = 1) || decide (kd d = 2) || decide (kd d = 3) with
  | true => simp
  | false => cases decide (kd d = 4) with
    | true => simp
    | false => cases decide (kd d = 5) with
      | true => simp
      | false => simpa using this
theorem r12 (l : List D) (hl : l.length ≤ 1048576) (h : (l.flatMap txt).length ≤ 4194304) : RUN E 12 [.list l] = some [.str (l.flatMap txt)] := by
  rw [enter12]
  refine build_loop (L := fun i x => L12a l (l.length : Int) i x) (F := fun x => some [.str x]) (f := txt) (fun x hx => ?_) (fun i x hi hx => ?_) (by omega)
  · show L12a l (l.length : Int) (l.length : Nat) (bytesD x) = _
    rw [round12a, dec_f (by omega), cond_false, r29, dBytes_bytesD]; rfl
  · show L12a l (l.length : Int) (i : Nat) (bytesD x) = _
    rw [round12a, dec_t (by omega), inb_nat hi, Int.toNat_natCast, nxt (by omega)]
    have := r28 x (txt (l.getD i .no)) hx
    show opt (RUN E 28 [D.agg [D.no, D.list (bytesD x)], D.str (txt (l.getD i .no))]) _ = _
    rw [this]; rfl
theorem r14 (l : List D) (hl : l.length ≤ 1048576) (h : (l.flatMap sk).length ≤ 4194304) : RUN E 14 [.list l] = some [.str (l.flatMap sk)] := by
  rw [enter14]
  refine build_loop (L := fun i x => L14a l (l.length : Int) i x) (F := fun x => some [.str x]) (f := sk) (fun x hx => ?_) (fun i x hi hx => ?_) (by omega)
  · show L14a l (l.length : Int) (l.length : Nat) (bytesD x) = _
    rw [round14a, dec_f (by omega), cond_false, r29, dBytes_bytesD]; rfl
  · show L14a l (l.length : Int) (i : Nat) (bytesD x) = _
    rw [round14a, dec_t (by omega), inb_nat hi, Int.toNat_natCast, nxt (by omega)]
    have e1 := fun h => r31 x 120 h
    have e2 := fun h => r31 x 47 h
    have e3 := fun h => r31 x 48 h
    have e4 := fun h => r28 x (txt (l.getD i .no)) h
    unfold sk at hx ⊢
    show cond true (cond (decide (kd (l.getD i .no) = 1)) (cond (decide (kd (l.getD i .no) = 1)) _ _) (cond (decide (kd (l.getD i .no) = 2)) (cond (decide (kd (l.getD i .no) = 2)) _ _) (cond (decide (kd (l.getD i .no) = 3)) (opt (RUN E 31 [D.agg [D.no, D.list (bytesD x)], D.int ((120 : UInt8).toNat : Int)]) _)
      (cond (decide (kd (l.getD i .no) = 4)) (opt (RUN E 31 [D.agg [D.no, D.list (bytesD x)], D.int ((47 : UInt8).toNat : Int)]) _) (cond (decide (kd (l.getD i .no) = 5)) (opt (RUN E 31 [D.agg [D.no, D.list (bytesD x)], D.int ((48 : UInt8).toNat : Int)]) _)
        (opt (RUN E 28 [D.agg [D.no, D.list (bytesD x)], D.str (txt (l.getD i .no))]) _)))))) none = _
    cases h1 : decide (kd (l.getD i .no) = 1) with
    | true =>
      rw [h1] at hx
      show opt (RUN E 31 [D.agg [D.no, D.list (bytesD x)], D.int ((120 : UInt8).toNat : Int)]) _ = _
      rw [e1 (by simpa using hx)]; rfl
    | false =>
      rw [h1] at hx
      cases h2 : decide (kd (l.getD i .no) = 2) with
      | true =>
        rw [h2] at hx
        show opt (RUN E 31 [D.agg [D.no, D.list (bytesD x)], D.int ((120 : UInt8).toNat : Int)]) _ = _
        rw [e1 (by simpa using hx)]; rfl
      | false =>
        rw [h2] at hx
        cases h3 : decide (kd (l.getD i .no) = 3) with
        | true => rw [h3] at hx; simp only [cond_true, cond_false]; rw [e1 (by simpa using hx)]; rfl
        | false =>
          rw [h3] at hx
          cases h4 : decide (kd (l.getD i .no) = 4) with
          | true => rw [h4] at hx; simp only [cond_true, cond_false]; rw [e2 (by simpa using hx)]; rfl
          | false =>
            rw [h4] at hx
            cases h5 : decide (kd (l.getD i .no) = 5) with
            | true => rw [h5] at hx; simp only [cond_true, cond_false]; rw [e3 (by simpa using hx)]; rfl
            | false => rw [h5] at hx; simp only [cond_true, cond_false]; rw [e4 (by simpa using hx)]; rfl
theorem map_snoc (xs : List (List UInt8)) (t : List UInt8) : xs.map D.str ++ [.str t] = (xs ++ [t]).map .str := by simp
theorem r13 (l : List D) (hl : l.length ≤ 1048576) (h : (l.flatMap txt).length ≤ 4194304) : RUN E 13 [.list l] = some [.str (l.flatMap txt)] := by
  rw [enter13]
  refine row_loop (L := fun i x => L13a l (l.length : Int) i x) (F := fun x => some [.str x]) (f := txt) (fun xs hxs hx => ?_) (fun i xs hi hxs => ?_) (by omega)
  · show L13a l (l.length : Int) (l.length : Nat) (xs.map .str) = _
    rw [round13a, dec_f (by omega), cond_false, r30 xs (by omega) (by omega)]; rfl
  · show L13a l (l.length : Int) (i : Nat) (xs.map .str) = _
    rw [round13a, dec_t (by omega), inb_nat hi, Int.toNat_natCast, nxt (by omega), fit_t (by simp; omega), map_snoc]; rfl
theorem r15 (l : List D) (hl : l.length ≤ 1048576) (h : (l.flatMap sk).length ≤ 4194304) : RUN E 15 [.list l] = some [.str (l.flatMap sk)] := by
  rw [enter15]
  refine row_loop (L := fun i x => L15a l (l.length : Int) i x) (F := fun x => some [.str x]) (f := sk) (fun xs hxs hx => ?_) (fun i xs hi hxs => ?_) (by omega)
  · show L15a l (l.length : Int) (l.length : Nat) (xs.map .str) = _
    rw [round15a, dec_f (by omega), cond_false, r30 xs (by omega) (by omega)]; rfl
  · show L15a l (l.length : Int) (i : Nat) (xs.map .str) = _
    have f1 : ∀ t : D, fitL (xs.map D.str).length [t].length = true := fun t => fit_t (by simp; omega)
    rw [round15a, dec_t (by omega), inb_nat hi, Int.toNat_natCast, nxt (by omega)]
    simp only [f1, map_snoc]
    unfold sk kd
    cases decide (D.toInt (D.cell (l.getD i .no) 0) = 1) <;> cases decide (D.toInt (D.cell (l.getD i .no) 0) = 2) <;> cases decide (D.toInt (D.cell (l.getD i .no) 0) = 3) <;> cases decide (D.toInt (D.cell (l.getD i .no) 0) = 4) <;> cases decide (D.toInt (D.cell (l.getD i .no) 0) = 5) <;> rfl
theorem lawS (l : List D) (hl : l.length ≤ 1048576) (hm : dmass.dmAll l ≤ 1048576) : RUN E 4 [.list l] = some [.bool true] := by
  have h1 := flat_le txt txt_le l
  have h2 := flat_le sk sk_le l
  rw [enter4, r12 l hl (by omega), r13 l hl (by omega), r14 l hl (by omega), r15 l hl (by omega)]
  simp [opt_s, tS]
theorem lawR {M : Mem} {v : Value} {l : List D} (h : Rep E.tt M (.slice 49) v (.list l)) (hb : dmass.dmAll [.list l] ≤ 1048576) : RUN E 4 [.list l] = some [.bool true] := by
  simp only [mass_list, mass_nil] at hb
  have := rep_len (by kernel_rfl) h
  exact lawS l (by omega) (by omega)
end joins
end Go.Proofs.Ytbinmfenhbpdnaa.tj
