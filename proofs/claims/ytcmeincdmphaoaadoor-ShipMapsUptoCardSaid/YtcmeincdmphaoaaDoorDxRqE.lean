/- What a byteStringReplacer makes of a string; the plain laws. -/
import Derived.Test.YtcmeincdmphaoaaDoorDxRqC
import Derived.Lib.Bytealg
import Derived.Laws.CopyOwn
set_option linter.unusedVariables false
set_option linter.unusedSimpArgs false
namespace Go.Proofs.YtcmeincdmphaoaaDoor.rp
open Go.RowKit
set_option linter.unusedVariables false
set_option maxRecDepth 100000
theorem BRow_keep {w w' : World} {a : Nat} {l : List UInt8} (h : BRow w a l) (hk : w'.heap[a]? = w.heap[a]?) : BRow w' a l := by
  obtain ⟨cs, fr, h1, h2⟩ := h
  exact ⟨cs, fr, hk.trans h1, h2⟩
theorem BS_keep {w w' : World} {base bs : Nat} {f : Nat → Option (List UInt8)} {xs : List ByteArray} (h : BS w base bs f xs) {r : Nat} (hr : r < base) (hbs : base ≤ bs) (hk : ∀ q, q ≠ r → w'.heap[q]? = w.heap[q]?) : BS w' base bs f xs := by
  obtain ⟨arr, v, h1, h2, h3, h4, h5, h6⟩ := h
  refine ⟨arr, v, (hk bs (by omega)).trans h1, h2, h3, own_keep h4 fun g hg => hk g ?_, h5, fun c hc => ?_⟩
  · rcases h4.2 with ⟨rfl, _⟩ | ⟨g', _, _, rfl, hb, _⟩
    · cases hg
    · have : g' = g := by simpa [Value.ownBlock] using hg
      omega
  · rcases h6 c hc with h | ⟨l, a, cap, q1, q2, q3, q4, q5, q6, q7⟩
    · exact .inl h
    · exact .inr ⟨l, a, cap, q1, q2, q3, q4, BRow_keep q5 (hk a (by omega)), q6, q7⟩
set_option maxHeartbeats 1600000 in
theorem w28 {w : World} {r o : Nat} {d m u : Int} {i0 : Value} {xs : List ByteArray} {cap : Nat} (hb : w.heap[r]? = some (.cells (replA d m u i0 (.slice (some ⟨o, 0, none⟩) 8 cap)) 68 (0, 0))) (hs : StrRow w o xs) (hcap : 8 ≤ cap)
    {P : Prs} (hP : P.length = 4) (hok : PrsOK P xs) :
    Calls Tryd.prog 33 #[.pointer (some ⟨r, 0, none⟩)] w fun e w' => e = .returned (.tuple #[]) ∧ (∀ q, q < w.heap.size → q ≠ r → w'.heap[q]? = w.heap[q]?) ∧ w.os = w'.os ∧ w.tape = w'.tape ∧ w.output = w'.output ∧ w.heap.size ≤ w'.heap.size ∧ BS w' w.heap.size (w.heap.size + 1) (fOf P) (tOf P) ∧
      w'.heap[r]? = some (.cells (replA d m u (.iface 91 (.pointer (some ⟨w.heap.size + 1, 0, none⟩))) (.slice none 0 0)) 68 (0, 0)) := by
  have mixed := mixd
  have hrl : r < w.heap.size := (Array.getElem?_eq_some_iff.1 hb).1
  have h34 := w34 hb (by simp [replA]) hs hcap hP hok
  go_enter Tryd.func33, Tryd.ntmps33
  go_wp2_with (go_at_call 39; refine h34.mono ?_; rintro e w1 ⟨rfl, hB, hS⟩; have hb1 := (hB.block r hrl).trans hb; have c1 : w1.cell? ⟨r, 1 + 2, none⟩ = some i0 := cell_at hb1 3; have c2 : w1.cell? ⟨r, 4, none⟩ = some (.slice (some ⟨o, 0, none⟩) 8 cap) := cell_at hb1 4; have z1 := frz_at hb1)
  have hA := set_heap (off := 3) hb1 (.iface 91 (.pointer (some ⟨w.heap.size + 1, 0, none⟩)))
  have hA2 := set_heap (off := 4) hA (.slice none 0 0)
  have hk : ∀ q, q ≠ r → ((w1.setCell ⟨r, 3, none⟩ (.iface 91 (.pointer (some ⟨w.heap.size + 1, 0, none⟩)))).setCell ⟨r, 4, none⟩ (.slice none 0 0)).heap[q]? = w1.heap[q]? := fun q hq => (Below.heap_setCell _ _ _ q hq).trans (Below.heap_setCell _ _ _ q hq)
  go_returns
  refine ⟨rfl, fun q h1 h2 => (hk q h2).trans (hB.block q h1), hB.os.symm, hB.tape.symm, hB.output.symm, ?_, BS_keep hS hrl (by omega) hk, ?_⟩
  · have := hB.size
    rw [World.size_setCell, World.size_setCell]; exact this
  · rw [hA2]
    simp [replA]
/-- What (*Replacer).Replace is handed over to: the replacer that was built. -/
theorem slow28 {w : World} {r o : Nat} {i0 : Value} {xs : List ByteArray} {cap : Nat} (hb : w.heap[r]? = some (.cells (replA 0 0 0 i0 (.slice (some ⟨o, 0, none⟩) 8 cap)) 68 (0, 0))) (hs : StrRow w o xs) (hro : r ≠ o) (hcap : 8 ≤ cap)
    {P : Prs} (hP : P.length = 4) (hok : PrsOK P xs) {base : Nat} (hbase : base ≤ r) :
    Calls Tryd.prog 32 #[.pointer (some ⟨r, 0, none⟩), .func (.func 33) #[.pointer (some ⟨r, 0, none⟩)] #[]] w fun e w' => e = .returned (.tuple #[]) ∧ ∃ bs, w'.heap[r]? = some (.cells (replA 1 0 0 (.iface 91 (.pointer (some ⟨bs, 0, none⟩))) (.slice none 0 0)) 68 (0, 0)) ∧
      BS w' w.heap.size bs (fOf P) (tOf P) ∧ Below base w w' := by
  have hrl : r < w.heap.size := (Array.getElem?_eq_some_iff.1 hb).1
  have hb1 := set_heap (off := 1) hb (.int .i32 1)
  have hb1' : (w.setCell ⟨r, 1, none⟩ (.int .i32 1)).heap[r]? = some (.cells (replA 0 1 0 i0 (.slice (some ⟨o, 0, none⟩) 8 cap)) 68 (0, 0)) := by rw [hb1]; simp [replA]
  have hs1 : StrRow (w.setCell ⟨r, 1, none⟩ (.int .i32 1)) o xs := by
    obtain ⟨cs, h1, h2⟩ := hs
    exact ⟨cs, (Below.heap_setCell w ⟨r, 1, none⟩ _ o hro.symm).trans h1, h2⟩
  have hsz : (w.setCell ⟨r, 1, none⟩ (.int .i32 1)).heap.size = w.heap.size := by show (w.heap.modify _ _).size = _; rw [Array.size_modify]
  have h28 := w28 hb1' hs1 hcap hP hok
  rw [hsz] at h28
  refine (do_first hb (by simp [replA]) (by simp [replA]) (fun w2 => (∀ q, q < w.heap.size → q ≠ r → w2.heap[q]? = (w.setCell ⟨r, 1, none⟩ (.int .i32 1)).heap[q]?) ∧ w.os = w2.os ∧ w.tape = w2.tape ∧ w.output = w2.output ∧ w.heap.size ≤ w2.heap.size ∧ BS w2 w.heap.size (w.heap.size + 1) (fOf P) (tOf P) ∧
      w2.heap[r]? = some (.cells (replA 0 1 0 (.iface 91 (.pointer (some ⟨w.heap.size + 1, 0, none⟩))) (.slice none 0 0)) 68 (0, 0))) ?_ h28).mono ?_
  · rintro w2 ⟨_, _, _, _, _, _, h⟩
    exact ⟨_, h, by simp [replA], by simp [replA]⟩
  · rintro e w' ⟨rfl, w2, ⟨k1, k2, k3, k4, k5, k6, k7⟩, rfl⟩
    refine ⟨rfl, w.heap.size + 1, ?_, ?_, ?_⟩
    · have h8 := set_heap (w := w2.drew) (off := 0) k7 (.int .u32 1)
      have h9 := set_heap (off := 1) h8 (.int .i32 0)
      rw [h9]; simp [replA]
    · exact BS_keep k6 hrl (by omega) (fun q hq => (Below.heap_setCell _ _ _ q hq).trans (Below.heap_setCell w2.drew _ _ q hq))
    · refine ⟨k2.symm, k3.symm, k4.symm, ?_, fun q hq => ?_⟩
      · rw [World.size_setCell, World.size_setCell]; exact k5
      · exact (Below.heap_setCell _ _ _ q (by show q ≠ r; omega)).trans ((Below.heap_setCell w2.drew _ _ q (by show q ≠ r; omega)).trans ((k1 q (by omega) (by omega)).trans (Below.heap_setCell w _ _ q (by show q ≠ r; omega))))
end Go.Proofs.YtcmeincdmphaoaaDoor.rp

namespace Go.Proofs.YtcmeincdmphaoaaDoor.rp
open Go.RowKit
set_option linter.unusedVariables false
def esc (f : Nat → Option (List UInt8)) (L : List UInt8) : List UInt8 := L.flatMap fun b => (f b.toNat).getD [b]
def sE (f : Nat → Option (List UInt8)) : List UInt8 → Int
  | [] => 0
  | b :: L => (match f b.toNat with | some l => (l.length : Int) - 1 | none => 0) + sE f L
def anyE (f : Nat → Option (List UInt8)) (L : List UInt8) : Bool := L.any fun b => (f b.toNat).isSome
theorem esc_len (f : Nat → Option (List UInt8)) (L : List UInt8) : ((esc f L).length : Int) = L.length + sE f L := by
  induction L with
  | nil => simp [esc, sE]
  | cons b L ih =>
    have : esc f (b :: L) = (f b.toNat).getD [b] ++ esc f L := by simp [esc]
    rw [this, List.length_append, List.length_cons, sE]
    cases h : f b.toNat with
    | none => simp only [Option.getD_none, List.length_singleton]; omega
    | some l => simp only [Option.getD_some]; omega
theorem esc_app (f : Nat → Option (List UInt8)) (L M : List UInt8) : esc f (L ++ M) = esc f L ++ esc f M := by simp [esc]
theorem sE_app (f : Nat → Option (List UInt8)) (L M : List UInt8) : sE f (L ++ M) = sE f L + sE f M := by
  induction L with
  | nil => simp [sE]
  | cons b L ih => simp only [List.cons_append, sE, ih]; omega
theorem esc_none {f : Nat → Option (List UInt8)} {L : List UInt8} (h : anyE f L = false) : esc f L = L := by
  induction L with
  | nil => rfl
  | cons b L ih =>
    simp only [anyE, List.any_cons, Bool.or_eq_false_iff] at h
    have : esc f (b :: L) = (f b.toNat).getD [b] ++ esc f L := by simp [esc]
    rw [this, ih h.2]
    cases hb : f b.toNat with
    | none => rfl
    | some l => rw [hb] at h; cases h.1
theorem sE_bd {f : Nat → Option (List UInt8)} (hf : ∀ c l, f c = some l → 0 < l.length ∧ l.length ≤ 100) (L : List UInt8) : 0 ≤ sE f L ∧ sE f L ≤ 100 * L.length := by
  induction L with
  | nil => simp [sE]
  | cons b L ih =>
    simp only [sE, List.length_cons]
    cases h : f b.toNat with
    | none => simp only; omega
    | some l => have := hf _ _ h; simp only; omega
/-! ### The same by counting -/
def cnt (c : UInt8) (L : List UInt8) : Nat := L.count c
def sQ : Prs → List UInt8 → Int
  | [], _ => 0
  | p :: Q, L => (cnt p.1 L : Int) * ((p.2.length : Int) - 1) + sQ Q L
theorem sQ_app (Q R : Prs) (L : List UInt8) : sQ (Q ++ R) L = sQ Q L + sQ R L := by
  induction Q with
  | nil => simp [sQ]
  | cons p Q ih => simp only [List.cons_append, sQ, ih]; omega
theorem sQ_rev (Q : Prs) (L : List UInt8) : sQ Q.reverse L = sQ Q L := by
  induction Q with
  | nil => rfl
  | cons p Q ih => rw [List.reverse_cons, sQ_app, ih]; simp only [sQ]; omega
theorem sE_cons (p : UInt8 × List UInt8) (Q : Prs) (hn : fOf Q p.1.toNat = none) (L : List UInt8) : sE (fOf (p :: Q)) L = (cnt p.1 L : Int) * ((p.2.length : Int) - 1) + sE (fOf Q) L := by
  induction L with
  | nil => simp [sE, cnt]
  | cons b L ih =>
    simp only [sE, ih, fOf_cons]
    by_cases h : p.1 = b
    · subst h
      rw [if_pos rfl, hn]
      simp only [cnt, List.count_cons_self]
      rw [Int.natCast_add, Int.add_mul]; simp; omega
    · have h' : ¬ p.1.toNat = b.toNat := fun e => h (UInt8.toNat_inj.1 e)
      rw [if_neg h']
      have hc : cnt p.1 (b :: L) = cnt p.1 L := by
        simp only [cnt]; rw [List.count_cons_of_ne (fun e => h e.symm)]
      rw [hc]; omega
def NdP (Q : Prs) : Prop := ∀ (i j : Nat) p q, Q[i]? = some p → Q[j]? = some q → i < j → p.1 ≠ q.1
theorem NdP.tail {p : UInt8 × List UInt8} {Q : Prs} (h : NdP (p :: Q)) : NdP Q ∧ fOf Q p.1.toNat = none := by
  refine ⟨fun i j p q h1 h2 h3 => h (i + 1) (j + 1) p q h1 h2 (by omega), ?_⟩
  unfold fOf
  rw [Option.map_eq_none_iff, List.find?_eq_none]
  intro q hq
  obtain ⟨j, hj⟩ := List.getElem?_of_mem hq
  have := h 0 (j + 1) p q rfl hj (by omega)
  intro e
  exact this (UInt8.toNat_inj.1 (show p.1.toNat = q.1.toNat from (eq_of_beq e).symm))
theorem sE_sQ : ∀ (Q : Prs), NdP Q → ∀ L, sE (fOf Q) L = sQ Q L := by
  intro Q
  induction Q with
  | nil =>
    intro _ L
    induction L with
    | nil => rfl
    | cons b L ih => simp only [sE, ih]; rfl
  | cons p Q ih => intro h L; rw [sE_cons p Q h.tail.2, ih h.tail.1]; rfl
theorem fOf_get : ∀ (Q : Prs), NdP Q → ∀ (i : Nat) p, Q[i]? = some p → fOf Q p.1.toNat = some p.2 := by
  intro Q
  induction Q with
  | nil => intro _ i p h; simp at h
  | cons q Q ih =>
    intro h i p hp
    rw [fOf_cons]
    cases i with
    | zero => simp at hp; subst hp; rw [if_pos rfl]
    | succ i =>
      have hne := h 0 (i + 1) q p rfl hp (by omega)
      rw [if_neg (fun e => hne (UInt8.toNat_inj.1 e))]
      exact ih h.tail.1 i p (by simpa using hp)
theorem anyE_cnt : ∀ (Q : Prs) (L : List UInt8), anyE (fOf Q) L = Q.any fun p => decide (cnt p.1 L ≠ 0) := by
  intro Q L
  rw [Bool.eq_iff_iff]
  simp only [anyE, List.any_eq_true, decide_eq_true_eq]
  constructor
  · rintro ⟨b, hb, h⟩
    unfold fOf at h
    rw [Option.isSome_map, List.find?_isSome] at h
    obtain ⟨p, hp, e⟩ := h
    have : p.1 = b := UInt8.toNat_inj.1 (eq_of_beq e)
    exact ⟨p, hp, by rw [this]; simp only [cnt]; intro h0; exact (List.count_eq_zero.1 h0) hb⟩
  · rintro ⟨p, hp, h⟩
    have hm : p.1 ∈ L := by
      rcases Nat.eq_zero_or_pos (L.count p.1) with h0 | h0
      · exact absurd h0 h
      · exact List.count_pos_iff.1 h0
    refine ⟨p.1, hm, ?_⟩
    unfold fOf
    rw [Option.isSome_map, List.find?_isSome]
    exact ⟨p, hp, by simp⟩
theorem any_rev (Q : Prs) (g : UInt8 × List UInt8 → Bool) : Q.reverse.any g = Q.any g := by simp
theorem mul_bd {C n : Int} (h0 : 0 ≤ C) (h1 : C ≤ 68719476736) (h2 : 0 ≤ n) (h3 : n ≤ 100) : 0 ≤ C * n ∧ C * n ≤ 68719476736 * 100 :=
  ⟨Int.mul_nonneg h0 h2, Int.mul_le_mul h1 h3 h2 (by omega)⟩
theorem sQ_bd {L : List UInt8} (hL : L.length ≤ 68719476736) : ∀ Q : Prs, (∀ p ∈ Q, 1 < p.2.length ∧ p.2.length ≤ 100) → 0 ≤ sQ Q L ∧ sQ Q L ≤ Q.length * (68719476736 * 100) := by
  intro Q
  induction Q with
  | nil => intro _; simp [sQ]
  | cons p Q ih =>
    intro h
    have h1 := h p List.mem_cons_self
    have h2 := ih fun q hq => h q (List.mem_cons_of_mem _ hq)
    have h3 : cnt p.1 L ≤ L.length := List.count_le_length
    have h4 := mul_bd (C := (cnt p.1 L : Int)) (n := (p.2.length : Int) - 1) (by omega) (by omega) (by omega) (by omega)
    simp only [sQ, List.length_cons]
    omega
theorem take_set_snoc {α : Type} {L : List α} {j : Nat} {v : α} (h : j < L.length) : (L.set j v).take (j + 1) = L.take j ++ [v] := by
  rw [List.take_add_one, List.take_set_of_le (Nat.le_refl _), List.getElem?_set_self h]; rfl
theorem take_splice {α : Type} {L cs : List α} {j n : Nat} (hn : cs.length = n) (h : j + n ≤ L.length) : (splice L j cs).take (j + n) = L.take j ++ cs := by
  unfold splice
  rw [← List.append_assoc, List.take_append_of_le_length (by simp; omega), List.take_of_length_le (by simp; omega)]
theorem cnt_le (c : UInt8) (L : List UInt8) : cnt c L ≤ L.length := List.count_le_length
end Go.Proofs.YtcmeincdmphaoaaDoor.rp
