/- Reading an index: terms and lines. -/
import Derived.Test.YtefclcihphpejaaDoorDxRdF
set_option linter.unusedVariables false
set_option linter.unusedSimpArgs false
namespace Go.Proofs.YtefclcihphpejaaDoor.rd
open Go.Proofs.YtefclcihphpejaaDoor.DS
namespace rdx
open paths (r19 r28 r30 r39)


noncomputable def nI (s : List UInt8) : Int := D.toInt (((RUN E 66 [.str s]).getD []).getD 0 .no)
noncomputable def nB (s : List UInt8) : Bool := D.toBool (((RUN E 66 [.str s]).getD []).getD 1 .no)
theorem numLoop (s : List UInt8) (h : s.length ≤ 1048576) : ∀ k i : Nat, i + k = s.length → ∀ n : Int, ∃ (m : Int) (b : Bool), L66a s n i = some [.int m, .bool b] ∧ L34a s n i = some [.int m, .bool b] := by
  intro k
  induction k with
  | zero =>
    intro i hi n
    refine ⟨n, true, ?_, ?_⟩
    · rw [round66a, dec_f (by omega)]; rfl
    · rw [round34a, dec_f (by omega)]; rfl
  | succ k ih =>
    intro i hi n
    rw [round66a, round34a, dec_t (by omega), inb_nat (by omega), words.r22, words.r25]
    simp only [cond_true, opt_s, List.getD_cons_zero, nxt (show i ≤ 4611686018427387904 by omega)]
    cases hd : words.isD ((s.getD (Int.toNat (i : Int)) 0).toNat : Int) with
    | false => exact ⟨0, false, rfl, rfl⟩
    | true => exact ih (i + 1) (by omega) _
theorem numBoth (s : List UInt8) (h : s.length ≤ 1048576) : ∃ (m : Int) (b : Bool), RUN E 66 [.str s] = some [.int m, .bool b] ∧ RUN E 34 [.str s] = some [.int m, .bool b] := by
  rw [enter66, enter34]
  cases s with
  | nil => exact ⟨0, false, rfl, rfl⟩
  | cons c r =>
    have g : inb 0 (c :: r).length = true := inb_nat (i := 0) (by simp)
    rw [g]
    simp only [cond_true]
    have e1 : decide ((c :: r) = ([] : List UInt8)) = false := by simp
    have e2 : decide (((c :: r).length : Int) < 1) = false := dec_f (by simp only [List.length_cons]; omega)
    rw [e1, e2]
    simp only [cond_false]
    by_cases h9 : 9 < ((c :: r).length : Int)
    · rw [dec_t h9]; exact ⟨0, false, rfl, rfl⟩
    · rw [dec_f h9]
      simp only [cond_false]
      have lp := numLoop (c :: r) h _ 0 (Nat.zero_add _) 0
      have hc : (bif decide ((((c :: r).getD 0 0).toNat : Int) = 48) then bif decide ((c :: r) = ([48] : List UInt8)) then false else true else false) = (bif decide (1 < ((c :: r).length : Int)) then decide ((((c :: r).getD 0 0).toNat : Int) = 48) else false) := by
        have hg : (c :: r).getD 0 0 = c := rfl
        rw [hg]
        by_cases hz : (c.toNat : Int) = 48
        · rw [dec_t hz]
          have hc : c = 48 := by
            have : c.toNat = 48 := by omega
            exact UInt8.toNat_inj.1 this
          subst hc
          cases r with
          | nil => rfl
          | cons d r => 
            rw [dec_t (p := 1 < (((48 : UInt8) :: d :: r).length : Int)) (by simp only [List.length_cons]; omega)]
            rw [dec_f (by simp)]; rfl
        · rw [dec_f hz]; cases decide (1 < ((c :: r).length : Int)) <;> rfl
      rw [hc]
      cases (bif decide (1 < ((c :: r).length : Int)) then decide ((((c :: r).getD 0 0).toNat : Int) = 48) else false) with
      | true => exact ⟨0, false, rfl, rfl⟩
      | false => exact lp
theorem r66 (s : List UInt8) (h : s.length ≤ 1048576) : RUN E 66 [.str s] = some [.int (nI s), .bool (nB s)] := by
  obtain ⟨m, b, h1, _⟩ := numBoth s h
  unfold nI nB; rw [h1]; rfl
theorem r34 (s : List UInt8) (h : s.length ≤ 1048576) : RUN E 34 [.str s] = some [.int (nI s), .bool (nB s)] := by
  obtain ⟨m, b, h1, h2⟩ := numBoth s h
  rw [h2]; unfold nI nB; rw [h1]; rfl
theorem nB_nil : nB [] = false := by unfold nB; rw [enter66]; rfl

theorem r95 (s : List UInt8) (c : UInt8) : RUN E 95 [.str s, .str [c]] = some [.int (Lib.indexByte s c)] := (RUN_eq _ _ _).trans (by kernel_rfl)
theorem r36s (s : List UInt8) : RUN E 36 [.str s, .int 32] = some [.int (Lib.indexByte s 32)] := (RUN_eq _ _ _).trans (by kernel_rfl)
theorem r36c (s : List UInt8) : RUN E 36 [.str s, .int 58] = some [.int (Lib.indexByte s 58)] := (RUN_eq _ _ _).trans (by kernel_rfl)
theorem idx_at {c : UInt8} {pre : List UInt8} (post : List UInt8) (h : c ∉ pre) : Lib.indexByte (pre ++ c :: post) c = (pre.length : Int) := by
  induction pre with
  | nil => simp [Lib.indexByte]
  | cons b r ih =>
    have hb : (b == c) = false := by
      rw [← Bool.not_eq_true, beq_iff_eq]; intro e; subst e; exact h List.mem_cons_self
    have hr := ih fun hr => h (List.mem_cons_of_mem _ hr)
    rw [List.cons_append, Lib.indexByte]
    simp only [hb, hr, List.length_cons]
    simp
theorem idx_no {c : UInt8} {s : List UInt8} (h : c ∉ s) : Lib.indexByte s c = -1 := by
  rcases idx_cases c s with ⟨h1, _⟩ | ⟨pre, post, h1, _, _⟩
  · exact h1
  · subst h1; exact absurd (by simp) h
theorem cutYes {c : UInt8} {pre : List UInt8} (post : List UInt8) (h : c ∉ pre) (hl : (pre ++ c :: post).length ≤ 1048576) : RUN E 28 [.str (pre ++ c :: post), .str [c]] = some [.str pre, .str post, .bool true] := by
  have hl' : pre.length + post.length + 1 ≤ 1048576 := by simp only [List.length_append, List.length_cons] at hl; omega
  rw [enter28, enter63, r95, idx_at _ h]
  simp only [opt_s, List.getD_cons_zero, tI]
  rw [dec_t (by omega), cutOk_hi (by simp), show ((([c] : List UInt8).length : Nat) : Int) = 1 from rfl, nxt (by omega), cutOk_lo (by simp only [List.length_append, List.length_cons]; omega), cut_hi, cut_lo]
  simp only [cond_true, opt_s]
  simp [tS, D.toBool]
theorem cutNo {c : UInt8} {s : List UInt8} (h : c ∉ s) : RUN E 28 [.str s, .str [c]] = some [.str s, .str [], .bool false] := by
  rw [enter28, enter63, r95, idx_no h]; rfl
theorem atYes {pre : List UInt8} (post : List UInt8) (h : (32 : UInt8) ∉ pre) (hl : (pre ++ 32 :: post).length ≤ 1048576) : RUN E 65 [.str (pre ++ 32 :: post), .int 32] = some [.str pre, .str (32 :: post)] := by
  have hl' : pre.length + post.length + 1 ≤ 1048576 := by simp only [List.length_append, List.length_cons] at hl; omega
  rw [enter65, r36s, idx_at _ h]
  simp only [opt_s, List.getD_cons_zero, tI]
  rw [dec_t (by omega), cutOk_hi (by simp), cutOk_lo (by simp only [List.length_append, List.length_cons]; omega), cut_hi, cut_lo]
  simp
theorem atNo {s : List UInt8} (h : (32 : UInt8) ∉ s) : RUN E 65 [.str s, .int 32] = some [.str s, .str []] := by
  rw [enter65, r36s, idx_no h]; rfl

def docD (a t : List UInt8) : D := .agg [.str a, .str t, .str []]
def X3 (A S T : List D) : D := .agg [.list A, .list S, .list T]
def bad : R := some [.agg [.list [], .list [], .list []], .int 8]
theorem fl {n : Nat} (h : n ≤ 1048576) (d : D) : fitL n (List.length [d]) = true := fitL_le (by rw [lim_val]; simp; omega)

/-- readDoc and SplitN at 'doc ' and s agree. -/
theorem docBoth (s : List UInt8) (hs : s.length ≤ 1048570) (A S T : List D) (hA : A.length ≤ 1048576) (hS : S.length ≤ 1048576) :
    (RUN E 30 [X3 A S T, .str s] = some [.bool false, X3 A S T] ∧ ∀ p, RUN E 33 [.str ([100, 111, 99, 32] ++ s), .str [32], .int 4] = some [.list p] → p.length ≤ 4 ∧ 2 ≤ p.length ∧ (p.length = 4 → D.toStr (p.getD 1 .no) = [] ∨ (D.toStr (p.getD 2 .no)).length ≤ 1048576 ∧ (nB (D.toStr (p.getD 2 .no)) = false ∨ T ≠ []))) ∧ (∃ p, RUN E 33 [.str ([100, 111, 99, 32] ++ s), .str [32], .int 4] = some [.list p]) ∨
    (∃ a z t, s = a ++ 32 :: (z ++ 32 :: t) ∧ T = [] ∧ a ≠ [] ∧ nB z = true ∧ RUN E 30 [X3 A S T, .str s] = some [.bool true, X3 (A ++ [docD a t]) (S ++ [.int (nI z)]) T] ∧
      RUN E 33 [.str ([100, 111, 99, 32] ++ s), .str [32], .int 4] = some [.list [.str [100, 111, 99], .str a, .str z, .str t]]) := by
  have split : ∀ (i : Nat) (pre post : List UInt8) (a9 : List D), (32 : UInt8) ∉ pre → i < 3 → a9.length = 4 → (pre ++ 32 :: post).length ≤ 1048576 → L67b (pre ++ 32 :: post) [32] 0 3 (i : Int) a9 = L67b post [32] 0 3 ((i + 1 : Nat) : Int) (a9.set i (.str pre)) := by
    intro i pre post a9 hn hi h4 hl
    have hl' : pre.length + post.length + 1 ≤ 1048576 := by simp only [List.length_append, List.length_cons] at hl; omega
    rw [round67b, dec_t (by omega), r19, idx_at _ hn]
    simp only [opt_s, List.getD_cons_zero, tI, cond_true]
    rw [dec_f (by omega), show ((pre.length : Nat) : Int) + 0 = (pre.length : Int) from Int.add_zero _, wrap_id (i := (pre.length : Int)) (by omega) (by omega), cutOk_hi (by simp), inb_nat (by omega), show ((([32] : List UInt8).length : Nat) : Int) = 1 from rfl, nxt (show pre.length ≤ 4611686018427387904 by omega), nxt (show i ≤ 4611686018427387904 by omega), cutOk_lo (by simp only [List.length_append, List.length_cons]; omega), cut_hi (pre ++ 32 :: post) pre.length, cut_lo, Int.toNat_natCast]
    simp
  have stop : ∀ (i : Nat) (s : List UInt8) (a9 : List D), (32 : UInt8) ∉ s ∨ i = 3 → i < 4 → a9.length = 4 → L67b s [32] 0 3 (i : Int) a9 = some [.list ((a9.set i (.str s)).take (i + 1))] := by
    intro i s a9 hn hi h4
    rw [round67b]
    by_cases h3 : i = 3
    · rw [dec_f (by omega), inb_nat (by omega), nxt (by omega), cutOk_hi (by rw [List.length_set]; omega), cut_hi, Int.toNat_natCast]; rfl
    · have hn := hn.resolve_right h3
      rw [dec_t (by omega), r19, idx_no hn]
      simp only [opt_s, List.getD_cons_zero, tI, cond_true]
      rw [dec_t (by omega), inb_nat (by omega), nxt (by omega), cutOk_hi (by rw [List.length_set]; omega), cut_hi, Int.toNat_natCast]; rfl
  have start : RUN E 33 [.str ([100, 111, 99, 32] ++ s), .str [32], .int 4] = opt (L67b s [32] 0 3 ((0 + 1 : Nat) : Int) [.str [100, 111, 99], .str [], .str [], .str []]) fun ρ => some [D.list (D.toList (ρ.getD 0 .no))] := by
    rw [enter33, enter67, dec_f (by omega), dec_f (by simp), dec_f (by omega), round67a]
    have hl : ([100, 111, 99, 32] ++ s : List UInt8).length = s.length + 4 := by simp
    rw [hl, nxt (by omega)]
    have hm : mmInt false 4 ((s.length + 4 + 1 : Nat) : Int) = 4 := by unfold mmInt; rw [dec_f (p := ((s.length + 4 + 1 : Nat) : Int) < 4) (by omega)]; rfl
    rw [hm]
    have h := split 0 [100, 111, 99] s [.str [], .str [], .str [], .str []] (by decide) (by omega) rfl (by simp; omega)
    exact congrArg (fun x => opt x fun ρ => some [D.list (D.toList (ρ.getD 0 .no))]) h
  rw [start, show X3 A S T = .agg [.list A, .list S, .list T] from rfl, enter30]
  rcases idx_cases 32 s with ⟨_, h1⟩ | ⟨a, r, rfl, h1, _⟩
  · left
    rw [atNo h1, stop 1 s _ (.inl h1) (by omega) rfl]
    refine ⟨⟨?_, ?_⟩, ⟨_, rfl⟩⟩
    · simp only [opt_s, List.getD_cons_zero, List.getD_cons_succ, tS]
      cases decide (s = []) <;> rfl
    · intro p hp
      injection hp with hp; injection hp with hp; injection hp with hp; subst hp
      refine ⟨?_, ?_, ?_⟩ <;> simp [tL]
  · have hlr : a.length + r.length + 1 ≤ 1048570 := by simp only [List.length_append, List.length_cons] at hs; omega
    rw [atYes _ h1 (by omega), split 1 a r _ h1 (by omega) rfl (by omega)]
    simp only [opt_s, List.getD_cons_zero, List.getD_cons_succ, tS]
    rcases idx_cases 32 r with ⟨_, h2⟩ | ⟨z, t, rfl, h2, _⟩
    · left
      rw [stop 2 r _ (.inl h2) (by omega) rfl]
      refine ⟨⟨?_, ?_⟩, ⟨_, rfl⟩⟩
      · by_cases ha : a = []
        · rw [dec_t ha]; rfl
        · rw [dec_f ha, dec_f (by simp), show (1 : Int) = ((1 : Nat) : Int) from rfl, cutOk_lo (by simp), cut_lo]
          simp only [cond_true, cond_false, List.drop_succ_cons, List.drop_zero, atNo h2, opt_s, List.getD_cons_zero, List.getD_cons_succ, tS]
          rw [r66 _ (by omega)]
          simp only [opt_s, List.getD_cons_succ, List.getD_cons_zero, D.toBool, decide_true]
          cases nB r <;> rfl
      · intro p hp
        injection hp with hp; injection hp with hp; injection hp with hp; subst hp
        refine ⟨?_, ?_, ?_⟩ <;> simp [tL]
    · have hlz : z.length + t.length + 1 ≤ 1048570 := by simp only [List.length_append, List.length_cons] at hlr; omega
      rw [split 2 z t _ h2 (by omega) rfl (by simp only [List.length_append, List.length_cons]; omega), stop 3 t _ (.inr rfl) (by omega) rfl]
      by_cases ha : a = []
      · left
        rw [dec_t ha]
        refine ⟨⟨rfl, ?_⟩, ⟨_, rfl⟩⟩
        intro p hp
        injection hp with hp; injection hp with hp; injection hp with hp; subst hp
        refine ⟨?_, ?_, ?_⟩
        · simp [tL]
        · simp [tL]
        · intro _; left; simp [tL, ha, tS]
      · rw [dec_f ha, dec_f (by simp), show (1 : Int) = ((1 : Nat) : Int) from rfl, cutOk_lo (by simp), cut_lo]
        simp only [cond_true, cond_false, List.drop_succ_cons, List.drop_zero]
        rw [atYes _ h2 (by simp only [List.length_append, List.length_cons]; omega)]
        simp only [opt_s, List.getD_cons_zero, List.getD_cons_succ, tS]
        rw [r66 _ (by omega)]
        simp only [opt_s, List.getD_cons_succ, List.getD_cons_zero, D.toBool, tI]
        cases hz : nB z with
        | false =>
          left
          refine ⟨⟨rfl, ?_⟩, ⟨_, rfl⟩⟩
          intro p hp
          injection hp with hp; injection hp with hp; injection hp with hp; subst hp
          refine ⟨?_, ?_, ?_⟩
          · simp [tL]
          · simp [tL]
          · intro _; right; exact ⟨by simp [tL, tS]; omega, .inl (by simpa [tL, tS] using hz)⟩
        | true =>
          rw [dec_f (p := (32 :: t : List UInt8) = []) (by simp)]
          simp only [cond_true, cond_false]
          cases T with
          | cons d T =>
            left
            rw [dec_t (p := 0 < (((d :: T).length : Nat) : Int)) (by simp only [List.length_cons]; omega)]
            refine ⟨⟨rfl, ?_⟩, ⟨_, rfl⟩⟩
            intro p hp
            injection hp with hp; injection hp with hp; injection hp with hp; subst hp
            refine ⟨?_, ?_, ?_⟩
            · simp [tL]
            · simp [tL]
            · intro _; right; exact ⟨by simp [tL, tS]; omega, .inr (by simp)⟩
          | nil =>
            right
            refine ⟨a, z, t, rfl, rfl, ha, hz, ?_, rfl⟩
            rw [dec_f (p := 0 < ((([] : List D).length : Nat) : Int)) (by simp), cutOk_lo (by simp), cut_lo, fl (by omega), fl (by omega)]
            rfl
end rdx
end Go.Proofs.YtefclcihphpejaaDoor.rd

namespace Go.Proofs.YtefclcihphpejaaDoor.rd
open Go.Proofs.YtefclcihphpejaaDoor.DS
namespace rdx
open paths (r19 r28 r30 r39)

def termD (w : List UInt8) (ds ns : List D) : D := .agg [.str w, .list ds, .list ns]
theorem c11 (v : List D) (n j : Int) (A S T : List D) : C11c false v n j [] [] [] A S T = bad := by rw [round11c]; rfl
theorem getS (all : List (List UInt8)) {i : Nat} (hi : i < all.length) : D.toStr ((all.map D.str).getD i .no) = all[i] := by
  simp [List.getD_eq_getElem?_getD, hi, D.toStr]
section
variable {w : List UInt8} {A S T : List D} {all : List (List UInt8)} (hall : all.length ≤ 1000000) (hT : T.length ≤ 1048576) (hq : ∀ q ∈ all, q.length ≤ 1000000)
include hall hT hq
theorem badL (v : List D) (n j : Int) : ∀ k i : Nat, i + k = all.length → ∀ ds ns : List D, ds.length ≤ i → ns.length ≤ i →
    L11b false v n j (all.map .str) (all.length : Int) i w [] [] [] A S T ds ns = bad := by
  intro k
  induction k with
  | zero =>
    intro i hi ds ns _ _
    rw [round11b, dec_f (by omega), fl hT, c11]; rfl
  | succ k ih =>
    intro i hi ds ns hd hn
    rw [round11b, dec_t (by omega), inb_nat (by rw [List.length_map]; omega), Int.toNat_natCast, getS all (by omega)]
    have hl := hq all[i] (List.getElem_mem _)
    rw [r36c]
    simp only [cond_true, opt_s, List.getD_cons_zero, tI]
    rcases idx_cases 58 all[i] with ⟨e, _⟩ | ⟨pre, post, e1, e2, e⟩
    · rw [e, dec_t (by omega), fl hT, c11]; rfl
    · have hl' : pre.length + post.length + 1 ≤ 1000000 := by rw [e1] at hl; simp only [List.length_append, List.length_cons] at hl; omega
      rw [e, dec_f (by omega), nxt (show pre.length ≤ 4611686018427387904 by omega), e1, cutOk_hi (by simp), cutOk_lo (by simp only [List.length_append, List.length_cons]; omega), cut_hi, cut_lo]
      have d1 : (pre ++ 58 :: post).take pre.length = pre := by simp
      have d2 : (pre ++ 58 :: post).drop (pre.length + 1) = post := by simp
      rw [d1, d2, r34 _ (by omega), r34 _ (by omega)]
      simp only [opt_s, cond_true, cond_false]
      rw [fl (by omega), fl (by omega), nxt (show i ≤ 4611686018427387904 by omega)]
      exact ih (i + 1) (by omega) _ _ (by simp; omega) (by simp; omega)
theorem termL : ∀ k i : Nat, i + k = all.length → ∀ ds ns : List D, ds.length = i → ns.length = i → dmass.dmAll ds = i → dmass.dmAll ns = i →
    (∃ ds' ns' : List D, ds'.length = all.length ∧ ns'.length = all.length ∧ dmass.dmAll ds' = all.length ∧ dmass.dmAll ns' = all.length ∧
      L31a (all.map .str) (all.length : Int) i w A S T ds ns = some [.bool (bif !decide (w = []) then decide (0 < (all.length : Int)) else false), X3 A S (T ++ [termD w ds' ns'])] ∧
      ∀ ok v n j, L11b ok v n j (all.map .str) (all.length : Int) i w [] [] [] A S T ds ns = C11c ok v n j [] [] [] A S (T ++ [termD w ds' ns'])) ∨
    (L31a (all.map .str) (all.length : Int) i w A S T ds ns = some [.bool false, X3 A S T] ∧ ∀ ok v n j, L11b ok v n j (all.map .str) (all.length : Int) i w [] [] [] A S T ds ns = bad) := by
  intro k
  induction k with
  | zero =>
    intro i hi ds ns hd hn md mn
    left
    refine ⟨ds, ns, by omega, by omega, by omega, by omega, ?_, fun ok v n j => ?_⟩
    · rw [round31a, dec_f (by omega), fl hT, hd, show i = all.length by omega]; rfl
    · rw [round11b, dec_f (by omega), fl hT]; rfl
  | succ k ih =>
    intro i hi ds ns hd hn md mn
    have hl := hq all[i] (List.getElem_mem _)
    have e31 : L31a (all.map .str) (all.length : Int) i w A S T ds ns = _ := round31a _ _ _ _ _ _ _ _ _
    rw [dec_t (by omega), inb_nat (by rw [List.length_map]; omega), Int.toNat_natCast, getS all (by omega)] at e31
    simp only [cond_true] at e31
    rcases idx_cases 58 all[i] with ⟨e, e'⟩ | ⟨pre, post, e1, e2, e⟩
    · right
      refine ⟨?_, fun ok v n j => ?_⟩
      · rw [e31, cutNo e', opt_s]
        simp only [List.getD_cons_zero, List.getD_cons_succ, tS]
        rw [r66 _ (by omega), r66 _ (by simp)]
        simp only [opt_s, List.getD_cons_zero, List.getD_cons_succ, D.toBool, nB_nil]
        cases nB all[i] <;> rfl
      · rw [round11b, dec_t (by omega), inb_nat (by rw [List.length_map]; omega), Int.toNat_natCast, getS all (by omega), r36c]
        simp only [cond_true, opt_s, List.getD_cons_zero, tI]
        rw [e, dec_t (by omega), fl hT, c11]; rfl
    · have hl' : pre.length + post.length + 1 ≤ 1000000 := by rw [e1] at hl; simp only [List.length_append, List.length_cons] at hl; omega
      have d1 : (pre ++ 58 :: post).take pre.length = pre := by simp
      have d2 : (pre ++ 58 :: post).drop (pre.length + 1) = post := by simp
      have e11 : ∀ ok v n j, L11b ok v n j (all.map .str) (all.length : Int) i w [] [] [] A S T ds ns =
          L11b (bif bif ok then nB pre else false then nB post else false) v n j (all.map .str) (all.length : Int) ((i + 1 : Nat) : Int) w [] [] [] A S T (ds ++ [.int (nI pre)]) (ns ++ [.int (nI post)]) := by
        intro ok v n j
        rw [round11b, dec_t (by omega), inb_nat (by rw [List.length_map]; omega), Int.toNat_natCast, getS all (by omega), r36c]
        simp only [cond_true, opt_s, List.getD_cons_zero, tI]
        rw [e, dec_f (by omega), nxt (show pre.length ≤ 4611686018427387904 by omega), e1, cutOk_hi (by simp), cutOk_lo (by simp only [List.length_append, List.length_cons]; omega), cut_hi, cut_lo, d1, d2, r34 _ (by omega), r34 _ (by omega)]
        simp only [opt_s, cond_true, cond_false]
        rw [fl (by omega), fl (by omega), nxt (show i ≤ 4611686018427387904 by omega)]
        rfl
      rw [e1, cutYes post e2 (by simp only [List.length_append, List.length_cons]; omega), opt_s] at e31
      simp only [List.getD_cons_zero, List.getD_cons_succ, tS] at e31
      rw [r66 _ (by omega), r66 _ (by omega)] at e31
      simp only [opt_s, List.getD_cons_zero, List.getD_cons_succ, D.toBool, tI] at e31
      by_cases hb : (nB pre && nB post) = true
      · obtain ⟨b1, b2⟩ := Bool.and_eq_true_iff.1 hb
        rw [b1, b2, fl (by omega), fl (by omega), nxt (show i ≤ 4611686018427387904 by omega)] at e31
        simp only [cond_true, cond_false] at e31
        have m1 : ∀ (l : List D) (x : Int), dmass.dmAll (l ++ [.int x]) = dmass.dmAll l + 1 := by intro l x; rw [dmAll_append]; rfl
        rcases ih (i + 1) (by omega) (ds ++ [.int (nI pre)]) (ns ++ [.int (nI post)]) (by simp; omega) (by simp; omega) (by rw [m1]; omega) (by rw [m1]; omega) with ⟨ds', ns', a1, a2, a3, a4, a5, a6⟩ | ⟨a5, a6⟩
        · refine .inl ⟨ds', ns', a1, a2, a3, a4, e31.trans a5, fun ok v n j => ?_⟩
          rw [e11, b1, b2, a6]
          cases ok <;> rfl
        · exact .inr ⟨e31.trans a5, fun ok v n j => (e11 ok v n j).trans (a6 _ _ _ _)⟩
      · right
        refine ⟨?_, fun ok v n j => ?_⟩
        · rw [e31]
          cases h1 : nB pre <;> cases h2 : nB post <;> first | rfl | exact absurd (by rw [h1, h2]; rfl) hb
        · rw [e11]
          have : (bif bif ok then nB pre else false then nB post else false) = false := by
            cases h1 : nB pre <;> cases h2 : nB post <;> cases ok <;> first | rfl | exact absurd (by rw [h1, h2]; rfl) hb
          rw [this]
          exact badL hall hT hq v n j k (i + 1) (by omega) _ _ (by simp; omega) (by simp; omega)
end

def fits (t : D) : Prop := (D.toList (D.cell t 1)).length ≤ dmass t ∧ (D.toList (D.cell t 2)).length ≤ dmass t
theorem pre_app {l p : List UInt8} (h : hasPre l p = true) : ∃ s, l = p ++ s := by
  unfold hasPre at h
  obtain ⟨_, h⟩ := Bool.and_eq_true_iff.1 h
  refine ⟨l.drop p.length, ?_⟩
  have h := of_decide_eq_true h
  calc l = l.take p.length ++ l.drop p.length := (List.take_append_drop _ _).symm
    _ = p ++ l.drop p.length := by rw [h]
theorem split_mass (c : UInt8) : ∀ n (s : List UInt8), s.length ≤ n → ∃ w qs, splitC c s = w :: qs ∧ w.length + qs.length ≤ s.length ∧ ∀ q ∈ qs, q.length ≤ s.length := by
  intro n
  induction n with
  | zero =>
    intro s hs
    have : s = [] := List.length_eq_zero_iff.1 (by omega)
    subst this; exact ⟨[], [], rfl, by simp, by simp⟩
  | succ n ih =>
    intro s hs
    rcases idx_cases c s with ⟨_, h⟩ | ⟨pre, post, rfl, h, _⟩
    · exact ⟨s, [], splitC_none h, by simp, by simp⟩
    · obtain ⟨w, qs, a1, a2, a3⟩ := ih post (by simp only [List.length_append, List.length_cons] at hs; omega)
      have hw : w.length ≤ post.length := by omega
      refine ⟨pre, w :: qs, by rw [splitC_one _ h, a1], by simp only [List.length_append, List.length_cons]; omega, fun q hq => ?_⟩
      simp only [List.length_append, List.length_cons]
      rcases List.mem_cons.1 hq with rfl | hq
      · omega
      · have := a3 q hq; omega

set_option maxHeartbeats 2000000 in
theorem step {l rest : List UInt8} (hl : (10 : UInt8) ∉ l) (hlen : (l ++ 10 :: rest).length ≤ 400000) {A S T : List D} (hA : A.length ≤ 1000000) (hS : S.length ≤ 1000000) (hT : T.length ≤ 1000000) {v : List D} {i : Nat} (hv : v.getD i .no = .str l) (hi : i < v.length) (hvl : v.length ≤ 1048576) :
    (L10a (l ++ 10 :: rest) [] [] [] A S T = bad ∧ L11a v (v.length : Int) i [] [] [] A S T = bad) ∨
    ∃ A' S' T', L10a (l ++ 10 :: rest) [] [] [] A S T = L10a rest [] [] [] A' S' T' ∧ L11a v (v.length : Int) i [] [] [] A S T = L11a v (v.length : Int) ((i + 1 : Nat) : Int) [] [] [] A' S' T' ∧
      A'.length ≤ A.length + 1 ∧ S'.length ≤ S.length + 1 ∧ T'.length ≤ T.length + 1 ∧ dmass.dmAll A' + dmass.dmAll T' ≤ dmass.dmAll A + dmass.dmAll T + 2 * (l.length + 1) ∧ ((∀ t ∈ T, fits t) → ∀ t ∈ T', fits t) := by
  have hll : l.length + rest.length + 1 ≤ 400000 := by simp only [List.length_append, List.length_cons] at hlen; omega
  have e10 : L10a (l ++ 10 :: rest) [] [] [] A S T = _ := round10a _ _ _ _ _ _ _
  have e11 : L11a v (v.length : Int) i [] [] [] A S T = _ := round11a _ _ _ _ _ _ _ _ _
  rw [dec_f (p := l ++ 10 :: rest = []) (by simp), cutYes rest hl (by omega)] at e10
  simp only [cond_false, cond_true, opt_s, List.getD_cons_zero, List.getD_cons_succ, tS] at e10
  rw [r28 l [100, 111, 99, 32] (by omega) (by simp), r28 l [116, 101, 114, 109, 32] (by omega) (by simp)] at e10
  rw [dec_t (by omega), inb_nat hi, Int.toNat_natCast, hv, r28 (D.toStr (.str l)) [100, 111, 99, 32] (by simp only [tS]; omega) (by simp), r28 (D.toStr (.str l)) [116, 101, 114, 109, 32] (by simp only [tS]; omega) (by simp)] at e11
  simp only [cond_false, cond_true, opt_s, List.getD_cons_zero, List.getD_cons_succ, tS, D.toBool] at e10 e11
  have c10 : C10b rest false [] [] [] A S T = bad := by rw [round10b]; rfl
  have ok10 : ∀ A S T, C10b rest true [] [] [] A S T = L10a rest [] [] [] A S T := fun A S T => by rw [round10b]; rfl
  have ok11 : ∀ A S T, C11c true v (v.length : Int) i [] [] [] A S T = L11a v (v.length : Int) ((i + 1 : Nat) : Int) [] [] [] A S T := fun A S T => by rw [round11c, nxt (by omega)]; rfl
  cases hp : hasPre l [100, 111, 99, 32] with
  | true =>
    obtain ⟨s, rfl⟩ := pre_app hp
    have hs : s.length + 4 = ([100, 111, 99, 32] ++ s : List UInt8).length := by simp
    have hpt : hasPre ([100, 111, 99, 32] ++ s) [116, 101, 114, 109, 32] = false := by unfold hasPre; simp
    rw [hp] at e10 e11
    rw [show (4 : Int) = ((4 : Nat) : Int) from rfl, cutOk_lo (by omega), cut_lo] at e10
    have hd : ([100, 111, 99, 32] ++ s : List UInt8).drop 4 = s := by simp
    rw [hd] at e10
    simp only [cond_true] at e10
    rw [hpt] at e11
    rcases docBoth s (by omega) A S T (by omega) (by omega) with ⟨⟨b1, b2⟩, p, b3⟩ | ⟨a, z, t, h1, h2, h3, h4, h5, h6⟩
    · left
      rw [show D.agg [.list A, .list S, .list T] = X3 A S T from rfl, b1] at e10
      refine ⟨e10.trans c10, e11.trans ?_⟩
      cases T with
      | cons d T =>
        rw [dec_f (p := (((d :: T).length : Nat) : Int) = 0) (by simp only [List.length_cons]; omega), c11]; rfl
      | nil =>
        rw [dec_t (p := ((([] : List D).length : Nat) : Int) = 0) (by simp), b3]
        obtain ⟨p4, p2, pp⟩ := b2 p b3
        simp only [opt_s, cond_true, List.getD_cons_zero, tL]
        rw [show inb 1 p.length = true from inb_nat (i := 1) (by omega)]
        simp only [cond_true]
        by_cases h4 : p.length = 4
        · rw [dec_t (p := (p.length : Int) = 4) (by omega), show inb 2 p.length = true from inb_nat (i := 2) (by omega), show inb 3 p.length = true from inb_nat (i := 3) (by omega)]
          simp only [cond_true]
          rcases pp h4 with q | ⟨q1, q2⟩
          · rw [dec_t q, c11]; rfl
          · rw [r34 _ q1, opt_s, fl (by omega), fl (by omega)]
            simp only [List.getD_cons_succ, List.getD_cons_zero, D.toBool, cond_true]
            rw [q2.resolve_right (fun h => h rfl), c11, c11]
            cases decide (D.toStr (p.getD 1 .no) = []) <;> rfl
        · rw [dec_f (p := (p.length : Int) = 4) (by omega), c11]; rfl
    · right
      subst h2
      rw [show D.agg [.list A, .list S, .list []] = X3 A S [] from rfl, h5] at e10
      rw [dec_t (p := ((([] : List D).length : Nat) : Int) = 0) (by simp), h6] at e11
      have hsl : s.length ≤ 400000 := by omega
      have hl := congrArg List.length h1
      simp only [List.length_append, List.length_cons] at hl
      have hz : z.length ≤ 1000000 := by omega
      simp only [opt_s, cond_true, List.getD_cons_zero, tL] at e11
      rw [show inb 1 (List.length [D.str [100, 111, 99], D.str a, D.str z, D.str t]) = true from rfl, show inb 2 (List.length [D.str [100, 111, 99], D.str a, D.str z, D.str t]) = true from rfl, show inb 3 (List.length [D.str [100, 111, 99], D.str a, D.str z, D.str t]) = true from rfl, dec_t (p := ((List.length [D.str [100, 111, 99], D.str a, D.str z, D.str t] : Nat) : Int) = 4) (by simp)] at e11
      simp only [cond_true, List.getD_cons_zero, List.getD_cons_succ, tS] at e11
      rw [dec_f h3, r34 z (by omega), opt_s, fl (by omega), fl (by omega)] at e11
      simp only [List.getD_cons_succ, List.getD_cons_zero, D.toBool, cond_true, cond_false, tI] at e11
      rw [h4] at e11
      have f10 : L10a ([100, 111, 99, 32] ++ s ++ 10 :: rest) [] [] [] A S [] = C10b rest true [] [] [] (A ++ [docD a t]) (S ++ [.int (nI z)]) [] := e10
      have f11 : L11a v (v.length : Int) i [] [] [] A S [] = C11c true v (v.length : Int) i [] [] [] (A ++ [docD a t]) (S ++ [.int (nI z)]) [] := e11
      refine ⟨A ++ [docD a t], S ++ [.int (nI z)], [], ?_, ?_, ?_, ?_, ?_, ?_, fun h => h⟩
      · rw [f10, ok10]
      · rw [f11, ok11]
      · simp
      · simp
      · simp
      · rw [dmAll_append, ← hs]
        simp only [docD, dmass.dmAll, dmass, List.length_nil]
        omega
  | false =>
    rw [hp] at e10 e11
    simp only [cond_false] at e10 e11
    cases hp2 : hasPre l [116, 101, 114, 109, 32] with
    | false =>
      rw [hp2] at e10 e11
      exact .inl ⟨e10.trans c10, e11.trans (c11 _ _ _ _ _ _)⟩
    | true =>
      rw [hp2] at e10 e11
      obtain ⟨s, rfl⟩ := pre_app hp2
      have hs : s.length + 5 = ([116, 101, 114, 109, 32] ++ s : List UInt8).length := by simp
      rw [show (5 : Int) = ((5 : Nat) : Int) from rfl, cutOk_lo (by omega), cut_lo] at e10
      have hd : ([116, 101, 114, 109, 32] ++ s : List UInt8).drop 5 = s := by simp
      rw [hd] at e10
      simp only [cond_true] at e10 e11
      obtain ⟨w, qs, m1, m2, m3⟩ := split_mass 32 s.length s (Nat.le_refl _)
      have hsp : splitC 32 ([116, 101, 114, 109, 32] ++ s) = [116, 101, 114, 109] :: w :: qs := by
        rw [← m1]; exact splitC_one (pre := [116, 101, 114, 109]) s (by decide)
      rw [r39 _ (by omega), hsp] at e11
      rw [show D.agg [.list A, .list S, .list T] = X3 A S T from rfl] at e10
      have e31 : RUN E 31 [X3 A S T, .str s] = _ := enter31 _ _ _ _
      rw [r39 _ (by omega), m1] at e31
      simp only [opt_s, List.getD_cons_zero, List.getD_cons_succ, tL, tS, List.map_cons] at e31 e11
      rw [show inb 0 (List.length (D.str w :: qs.map .str)) = true from inb_nat (i := 0) (by simp), show (1 : Int) = ((1 : Nat) : Int) from rfl, cutOk_lo (by simp), cut_lo, List.drop_succ_cons, List.drop_zero, List.length_map] at e31
      rw [show inb 1 (List.length (D.str [116, 101, 114, 109] :: D.str w :: qs.map .str)) = true from inb_nat (i := 1) (by simp), show (2 : Int) = ((2 : Nat) : Int) from rfl, cutOk_lo (by simp), cut_lo, List.drop_succ_cons, List.drop_succ_cons, List.drop_zero, List.length_map] at e11
      simp only [cond_true] at e31 e11
      rcases termL (w := w) (A := A) (S := S) (T := T) (all := qs) (by omega) (by omega) (fun q hq => by have := m3 q hq; omega) qs.length 0 (Nat.zero_add _) [] [] rfl rfl rfl rfl with ⟨ds', ns', a1, a2, a3, a4, a5, a6⟩ | ⟨a5, a6⟩
      · rw [e31.trans a5] at e10
        have e11 := e11.trans (a6 _ _ _ _)
        have hbool : (bif !decide (w = []) then decide (((2 : Nat) : Int) < (((D.str [116, 101, 114, 109] :: D.str w :: qs.map .str).length : Nat) : Int)) else false) = (bif !decide (w = []) then decide (0 < (qs.length : Int)) else false) := by
          have : decide (((2 : Nat) : Int) < (((D.str [116, 101, 114, 109] :: D.str w :: qs.map .str).length : Nat) : Int)) = decide (0 < (qs.length : Int)) := by
            rw [decide_eq_decide]; simp only [List.length_cons, List.length_map]; omega
          rw [this]
        rw [hbool] at e11
        cases hbb : (bif !decide (w = []) then decide (0 < (qs.length : Int)) else false) with
        | false =>
          rw [hbb] at e10 e11
          exact .inl ⟨e10.trans (by show C10b rest false [] [] [] _ _ _ = bad; rw [round10b]; rfl), e11.trans (c11 _ _ _ _ _ _)⟩
        | true =>
          rw [hbb] at e10 e11
          have f10 : L10a ([116, 101, 114, 109, 32] ++ s ++ 10 :: rest) [] [] [] A S T = C10b rest true [] [] [] A S (T ++ [termD w ds' ns']) := e10
          refine .inr ⟨A, S, T ++ [termD w ds' ns'], f10.trans (ok10 _ _ _), e11.trans (ok11 _ _ _), by omega, by omega, by simp, ?_, fun h t ht => ?_⟩
          · rw [dmAll_append]
            simp only [termD, dmass.dmAll, dmass, a3, a4]
            simp only [List.length_append, List.length_cons, List.length_nil] at hs ⊢
            omega
          · rcases List.mem_append.1 ht with ht | ht
            · exact h t ht
            · rw [List.mem_singleton.1 ht]
              constructor
              · show ds'.length ≤ dmass (termD w ds' ns')
                simp only [termD, dmass.dmAll, dmass]; omega
              · show ns'.length ≤ dmass (termD w ds' ns')
                simp only [termD, dmass.dmAll, dmass]; omega
      · rw [e31.trans a5] at e10
        exact .inl ⟨e10.trans c10, e11.trans (a6 _ _ _ _)⟩
end rdx
end Go.Proofs.YtefclcihphpejaaDoor.rd
