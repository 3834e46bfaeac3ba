import Derived.Test.YtjofkhdnidjleabDoorDxQuotD
set_option linter.unusedVariables false
set_option linter.unusedSimpArgs false
namespace Go.Proofs.YtjofkhdnidjleabDoor.qt
open Go.Proofs.YtjofkhdnidjleabDoor.DS
namespace quot

/-! ### Text in quotes -/
set_option maxRecDepth 100000 in
theorem digs : ∀ n : Fin 256, inb (Int.fdiv ((n.val : Nat) : Int) (2 ^ min (Int.toNat 4) (IntKind.bits IntKind.u8))) ([48, 49, 50, 51, 52, 53, 54, 55, 56, 57, 97, 98, 99, 100, 101, 102] : List UInt8).length = true ∧ inb (IntKind.wrap IntKind.u8 ((BitVec.toNat (BitVec.ofInt (IntKind.bits IntKind.u8) ((n.val : Nat) : Int) &&& BitVec.ofInt (IntKind.bits IntKind.u8) 15) : Nat) : Int)) ([48, 49, 50, 51, 52, 53, 54, 55, 56, 57, 97, 98, 99, 100, 101, 102] : List UInt8).length = true ∧ cutOk ([48, 49, 50, 51, 52, 53, 54, 55, 56, 57, 97, 98, 99, 100, 101, 102] : List UInt8).length (some (IntKind.wrap IntKind.u8 (Int.tdiv ((n.val : Nat) : Int) 16))) (some (IntKind.wrap IntKind.u8 (IntKind.wrap IntKind.u8 (Int.tdiv ((n.val : Nat) : Int) 16) + 1))) = true ∧ cutL ([48, 49, 50, 51, 52, 53, 54, 55, 56, 57, 97, 98, 99, 100, 101, 102] : List UInt8) (some (IntKind.wrap IntKind.u8 (Int.tdiv ((n.val : Nat) : Int) 16))) (some (IntKind.wrap IntKind.u8 (IntKind.wrap IntKind.u8 (Int.tdiv ((n.val : Nat) : Int) 16) + 1))) = [([48, 49, 50, 51, 52, 53, 54, 55, 56, 57, 97, 98, 99, 100, 101, 102] : List UInt8).getD (Int.toNat (Int.fdiv ((n.val : Nat) : Int) (2 ^ min (Int.toNat 4) (IntKind.bits IntKind.u8)))) 0] ∧
    cutOk ([48, 49, 50, 51, 52, 53, 54, 55, 56, 57, 97, 98, 99, 100, 101, 102] : List UInt8).length (some (Int.tmod ((n.val : Nat) : Int) 16)) (some (IntKind.wrap IntKind.u8 (Int.tmod ((n.val : Nat) : Int) 16 + 1))) = true ∧ cutL ([48, 49, 50, 51, 52, 53, 54, 55, 56, 57, 97, 98, 99, 100, 101, 102] : List UInt8) (some (Int.tmod ((n.val : Nat) : Int) 16)) (some (IntKind.wrap IntKind.u8 (Int.tmod ((n.val : Nat) : Int) 16 + 1))) = [([48, 49, 50, 51, 52, 53, 54, 55, 56, 57, 97, 98, 99, 100, 101, 102] : List UInt8).getD (Int.toNat (IntKind.wrap IntKind.u8 ((BitVec.toNat (BitVec.ofInt (IntKind.bits IntKind.u8) ((n.val : Nat) : Int) &&& BitVec.ofInt (IntKind.bits IntKind.u8) 15) : Nat) : Int))) 0] := by decide +kernel
theorem digc (c : UInt8) : inb (Int.fdiv ((c.toNat : Nat) : Int) (2 ^ min (Int.toNat 4) (IntKind.bits IntKind.u8))) ([48, 49, 50, 51, 52, 53, 54, 55, 56, 57, 97, 98, 99, 100, 101, 102] : List UInt8).length = true ∧ inb (IntKind.wrap IntKind.u8 ((BitVec.toNat (BitVec.ofInt (IntKind.bits IntKind.u8) ((c.toNat : Nat) : Int) &&& BitVec.ofInt (IntKind.bits IntKind.u8) 15) : Nat) : Int)) ([48, 49, 50, 51, 52, 53, 54, 55, 56, 57, 97, 98, 99, 100, 101, 102] : List UInt8).length = true ∧ cutOk ([48, 49, 50, 51, 52, 53, 54, 55, 56, 57, 97, 98, 99, 100, 101, 102] : List UInt8).length (some (IntKind.wrap IntKind.u8 (Int.tdiv ((c.toNat : Nat) : Int) 16))) (some (IntKind.wrap IntKind.u8 (IntKind.wrap IntKind.u8 (Int.tdiv ((c.toNat : Nat) : Int) 16) + 1))) = true ∧ cutL ([48, 49, 50, 51, 52, 53, 54, 55, 56, 57, 97, 98, 99, 100, 101, 102] : List UInt8) (some (IntKind.wrap IntKind.u8 (Int.tdiv ((c.toNat : Nat) : Int) 16))) (some (IntKind.wrap IntKind.u8 (IntKind.wrap IntKind.u8 (Int.tdiv ((c.toNat : Nat) : Int) 16) + 1))) = [([48, 49, 50, 51, 52, 53, 54, 55, 56, 57, 97, 98, 99, 100, 101, 102] : List UInt8).getD (Int.toNat (Int.fdiv ((c.toNat : Nat) : Int) (2 ^ min (Int.toNat 4) (IntKind.bits IntKind.u8)))) 0] ∧
    cutOk ([48, 49, 50, 51, 52, 53, 54, 55, 56, 57, 97, 98, 99, 100, 101, 102] : List UInt8).length (some (Int.tmod ((c.toNat : Nat) : Int) 16)) (some (IntKind.wrap IntKind.u8 (Int.tmod ((c.toNat : Nat) : Int) 16 + 1))) = true ∧ cutL ([48, 49, 50, 51, 52, 53, 54, 55, 56, 57, 97, 98, 99, 100, 101, 102] : List UInt8) (some (Int.tmod ((c.toNat : Nat) : Int) 16)) (some (IntKind.wrap IntKind.u8 (Int.tmod ((c.toNat : Nat) : Int) 16 + 1))) = [([48, 49, 50, 51, 52, 53, 54, 55, 56, 57, 97, 98, 99, 100, 101, 102] : List UInt8).getD (Int.toNat (IntKind.wrap IntKind.u8 ((BitVec.toNat (BitVec.ofInt (IntKind.bits IntKind.u8) ((c.toNat : Nat) : Int) &&& BitVec.ofInt (IntKind.bits IntKind.u8) 15) : Nat) : Int))) 0] := digs ⟨c.toNat, c.toNat_lt⟩
def h1 (c : UInt8) : UInt8 := ([48, 49, 50, 51, 52, 53, 54, 55, 56, 57, 97, 98, 99, 100, 101, 102] : List UInt8).getD (Int.toNat (Int.fdiv ((c.toNat : Nat) : Int) (2 ^ min (Int.toNat 4) (IntKind.bits IntKind.u8)))) 0
def h2 (c : UInt8) : UInt8 := ([48, 49, 50, 51, 52, 53, 54, 55, 56, 57, 97, 98, 99, 100, 101, 102] : List UInt8).getD (Int.toNat (IntKind.wrap IntKind.u8 ((BitVec.toNat (BitVec.ofInt (IntKind.bits IntKind.u8) ((c.toNat : Nat) : Int) &&& BitVec.ofInt (IntKind.bits IntKind.u8) 15) : Nat) : Int))) 0
def numb (c : UInt8) : Bool := bif decide ((c.toNat : Int) < 32) then true else decide (0 ≤ Lib.indexByte [60, 62, 38, 39] c)
theorem u8_back (c : UInt8) : (Int.toNat ((c.toNat : Nat) : Int)).toUInt8 = c := by simp
theorem r39 (a : List UInt8) (c : UInt8) : RUN E 39 [.str a, .int (c.toNat : Int)] = some [.int (Lib.indexByte a c)] := by
  have : RUN E 39 [.str a, .int (c.toNat : Int)] = some [.int (Lib.indexByte a (Int.toNat ((c.toNat : Nat) : Int)).toUInt8)] := (RUN_eq _ _ _).trans (by kernel_rfl)
  rw [this, u8_back]
theorem r72 (c : UInt8) : RUN E 72 [.int (c.toNat : Int)] = some [.bool (numb c)] := by
  rw [enter72, r39]
  unfold numb
  cases decide ((c.toNat : Int) < 32) <;> rfl
def esc (c : UInt8) : List UInt8 := bif (bif decide ((c.toNat : Int) = 34) then true else decide ((c.toNat : Int) = 92)) then [92, c] else bif numb c then [92, 117, 48, 48, h1 c, h2 c] else [c]
theorem esc_len (c : UInt8) : (esc c).length ≤ 6 := by
  unfold esc
  cases (bif decide ((c.toNat : Int) = 34) then true else decide ((c.toNat : Int) = 92)) <;> cases numb c <;> simp
def qs (s : List UInt8) : List UInt8 := [34] ++ s.flatMap esc ++ [34]
theorem flat_len : ∀ s : List UInt8, (s.flatMap esc).length ≤ 6 * s.length := by
  intro s
  induction s with
  | nil => simp
  | cons c r ih => have := esc_len c; simp only [List.flatMap_cons, List.length_append, List.length_cons]; omega
theorem qs_len (s : List UInt8) : (qs s).length ≤ 6 * s.length + 2 := by
  have := flat_len s
  simp only [qs, List.length_append, List.length_singleton]; omega
section
variable (s : List UInt8)
theorem s53 {i : Nat} (hi : i < s.length) (hs : s.length ≤ 2097152) {o : List D} (ho : o.length ≤ 34359738368) : L53a s i o = L53a s ((i + 1 : Nat) : Int) (o ++ bytesD (esc (s.getD i 0))) := by
  obtain ⟨g1, g2, -⟩ := digc (s.getD i 0)
  have f2 : ∀ a b : D, fitL o.length [a, b].length = true := fun a b => fit_t (by simp; omega)
  have f6 : ∀ a b c d e f : D, fitL o.length [a, b, c, d, e, f].length = true := fun a b c d e f => fit_t (by simp; omega)
  have f1 : ∀ a : D, fitL o.length [a].length = true := fun a => fit_t (by simp; omega)
  rw [round53a, dec_t (by omega), inb_nat hi, Int.toNat_natCast, nxt (by omega), r72, g1, g2]
  simp only [f1, f2, f6, opt_s, List.getD_cons_zero, tB, cond_true]
  unfold esc
  generalize s.getD i 0 = c
  cases (bif decide ((c.toNat : Int) = 34) then true else decide ((c.toNat : Int) = 92)) with
  | true => rfl
  | false => cases numb c <;> rfl
theorem e53 {o : List D} (ho : o.length ≤ 34359738368) : L53a s (s.length : Nat) o = some [.list (o ++ [.int 34])] := by
  rw [round53a, dec_f (by omega), cond_false, fit_t (by simp; omega)]; rfl
theorem s37 {i : Nat} (hi : i < s.length) (hs : s.length ≤ 2097152) {o : List UInt8} (ho : o.length ≤ 34359738368) : L37a s o i = L37a s (o ++ esc (s.getD i 0)) ((i + 1 : Nat) : Int) := by
  obtain ⟨-, -, g1, g2, g3, g4⟩ := digc (s.getD i 0)
  rw [round37a, dec_t (by omega), inb_nat hi, Int.toNat_natCast, nxt (by omega), r39, g1, g2, g3, g4, cutOk_both (by omega) (by omega), cut_both, sub_one 0 hi]
  rw [lim_t (by simp), lim_t (by simp; omega), lim_t (by simp), lim_t (by simp), lim_t (by simp; omega), lim_t (by simp; omega)]
  simp only [opt_s, List.getD_cons_zero, tI, cond_true]
  unfold esc numb
  generalize s.getD i 0 = c
  cases (bif decide ((c.toNat : Int) = 34) then true else decide ((c.toNat : Int) = 92)) with
  | true => rfl
  | false =>
    cases decide ((c.toNat : Int) < 32) with
    | true => rfl
    | false =>
      simp only [cond_true, cond_false, opt_s, List.getD_cons_zero, tI]
      cases decide (0 ≤ Lib.indexByte [60, 62, 38, 39] c) <;> rfl
end
theorem r53 (o : List D) (s : List UInt8) (ho : o.length ≤ 17179869184) (hs : s.length ≤ 2097152) : RUN E 53 [.list o, .str s] = some [.list (o ++ bytesD (qs s))] := by
  have key : ∀ n i : Nat, i + n = s.length → ∀ o : List D, o.length ≤ 17179869185 + 6 * i → L53a s i o = some [.list (o ++ bytesD ((s.drop i).flatMap esc ++ [34]))] := by
    intro n
    induction n with
    | zero =>
      intro i hi o ho
      have : i = s.length := by omega
      subst this
      rw [e53 s (by omega), List.drop_length]; rfl
    | succ n ih =>
      intro i hi o ho
      have hil : i < s.length := by omega
      have he := esc_len (s.getD i 0)
      rw [s53 s hil hs (by omega), ih (i + 1) (by omega) _ (by rw [List.length_append, bytesD_len]; omega), drop_cons 0 hil]
      simp [bytesD_append]
  have := key s.length 0 (by omega) (o ++ [.int 34]) (by simp; omega)
  rw [List.drop_zero] at this
  rw [enter53, fit_t (by simp; omega), cond_true]
  refine this.trans ?_
  unfold qs
  rw [bytesD_append, bytesD_append, bytesD_append, List.append_assoc, List.append_assoc]; rfl
theorem r37 (s : List UInt8) (hs : s.length ≤ 2097152) : RUN E 37 [.str s] = some [.str (qs s)] := by
  have key : ∀ n i : Nat, i + n = s.length → ∀ o : List UInt8, o.length ≤ 1 + 6 * i → L37a s o i = some [.str (o ++ ((s.drop i).flatMap esc ++ [34]))] := by
    intro n
    induction n with
    | zero =>
      intro i hi o ho
      have : i = s.length := by omega
      subst this
      rw [round37a, dec_f (by omega), cond_false, lim_t (by simp; omega), List.drop_length]; rfl
    | succ n ih =>
      intro i hi o ho
      have hil : i < s.length := by omega
      have he := esc_len (s.getD i 0)
      rw [s37 s hil hs (by omega), ih (i + 1) (by omega) _ (by rw [List.length_append]; omega), drop_cons 0 hil]
      simp
  have := key s.length 0 (by omega) [34] (by simp)
  rw [List.drop_zero] at this
  rw [enter37]
  refine this.trans ?_
  unfold qs
  rw [List.append_assoc]
theorem r38 (ps : List (List UInt8)) (sep : List UInt8) (h1 : ps.length ≤ 1048576) (h2 : (Lib.join ps sep).length ≤ 1073741824) : RUN E 38 [.list (ps.map .str), .str sep] = some [.str (Lib.join ps sep)] := by
  have : RUN E 38 [.list (ps.map .str), .str sep] = cond (decide ((ps.map D.str).length ≤ 140737488355328) && decide ((Lib.join ((ps.map D.str).map D.toStr) sep).length ≤ 140737488355328)) (some [.str (Lib.join ((ps.map D.str).map D.toStr) sep)]) none := (RUN_eq _ _ _).trans (by kernel_rfl)
  have e : (ps.map D.str).map D.toStr = ps := by rw [List.map_map]; exact (List.map_congr_left (fun x _ => rfl)).trans (List.map_id ps)
  rw [this, e, dec_t (by simp; omega), dec_t (by omega)]; rfl

/-! ### Values -/
def it (v : D) : List D := D.toList (D.cell v 4)
def ks (v : D) : List D := D.toList (D.cell v 5)
def tx (v : D) : List UInt8 := D.toStr (D.cell v 3)
inductive TV : D → Prop
  | mk (v : D) (hn : (Lib.itoa (D.toInt (D.cell v 2))).length ≤ 20) (hm : dmass.dmAll (it v) + dmass.dmAll (ks v) + (tx v).length + 6 ≤ dmass v) (hi : ∀ x ∈ it v, TV x) : TV v
theorem shownB {v : D} (hn : (Lib.itoa (D.toInt (D.cell v 2))).length ≤ 20) : ∃ s e, RUN E 52 [v] = some [.str s, .int e] ∧ RUN E 36 [v] = some [.str s, .int e] ∧ s.length ≤ 20 + (tx v).length ∧
    ((bif decide (D.toInt (D.cell v 0) = 1) then true else decide (D.toInt (D.cell v 0) = 2)) = true → e = 0) := by
  obtain ⟨sb, hb, hbl⟩ : ∃ s, RUN E 54 [.bool (D.toBool (D.cell v 1))] = some [.str s] ∧ s.length ≤ 20 := by
    rw [enter54, enter73]; cases D.toBool (D.cell v 1) <;> exact ⟨_, rfl, by decide⟩
  have ht : (D.toStr (D.cell v 3)).length ≤ 20 + (tx v).length := by unfold tx; omega
  rw [enter52, enter36, shows.r69, hb, shows.r55, enter56]
  generalize D.toInt (D.cell v 0) = k
  generalize hi : Lib.itoa (D.toInt (D.cell v 2)) = nn at *
  generalize hx : D.toStr (D.cell v 3) = xx at *
  by_cases h0 : D.toInt (D.cell v 2) < 0
  · rw [dec_t h0, dec_f (p := 0 ≤ D.toInt (D.cell v 2)) (by omega)]
    cases decide (k = 0) <;> cases decide (k = 1) <;> cases decide (k = 2) <;> cases decide (k = 3) <;> cases decide (k = 7) <;> cases decide (k = 4) <;> refine ⟨_, _, rfl, rfl, ?_, ?_⟩ <;> first | exact fun _ => rfl | exact fun h => Bool.noConfusion h | exact Nat.zero_le _ | (show sb.length ≤ _; omega) | (show nn.length ≤ _; omega) | (show xx.length ≤ _; omega)
  · by_cases h1 : 84005 < D.toInt (D.cell v 2)
    · rw [dec_f h0, dec_t h1, dec_t (p := 0 ≤ D.toInt (D.cell v 2)) (by omega), dec_f (p := D.toInt (D.cell v 2) ≤ 84005) (by omega)]
      cases decide (k = 0) <;> cases decide (k = 1) <;> cases decide (k = 2) <;> cases decide (k = 3) <;> cases decide (k = 7) <;> cases decide (k = 4) <;> refine ⟨_, _, rfl, rfl, ?_, ?_⟩ <;> first | exact fun _ => rfl | exact fun h => Bool.noConfusion h | exact Nat.zero_le _ | (show sb.length ≤ _; omega) | (show nn.length ≤ _; omega) | (show xx.length ≤ _; omega)
    · rw [dec_f h0, dec_f h1, dec_t (p := 0 ≤ D.toInt (D.cell v 2)) (by omega), dec_t (p := D.toInt (D.cell v 2) ≤ 84005) (by omega)]
      obtain ⟨s, e1, e2, hl⟩ := shows.show_dayB h0 h1
      cases decide (k = 0) <;> cases decide (k = 1) <;> cases decide (k = 2) <;> cases decide (k = 3) <;> cases decide (k = 7) <;> cases decide (k = 4) <;> first | (refine ⟨_, _, rfl, rfl, ?_, ?_⟩ <;> first | exact fun _ => rfl | exact fun h => Bool.noConfusion h | exact Nat.zero_le _ | (show sb.length ≤ _; omega) | (show nn.length ≤ _; omega) | (show xx.length ≤ _; omega)) | (refine ⟨s, 0, e1, e2, ?_, ?_⟩ <;> first | exact fun _ => rfl | omega)
end quot
end Go.Proofs.YtjofkhdnidjleabDoor.qt
