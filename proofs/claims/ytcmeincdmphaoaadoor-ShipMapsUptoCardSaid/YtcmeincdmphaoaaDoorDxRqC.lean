/- (*strings.Replacer).build, all olds of one byte. -/
import Derived.Test.YtcmeincdmphaoaaDoorDxRqA
import Derived.LoopN
import Derived.Deep.LoopGhost
import Derived.Lib.SliceRun
import Derived.Laws.IdiomStrings
set_option linter.unusedVariables false
set_option linter.unusedSimpArgs false
namespace Go.Proofs.YtcmeincdmphaoaaDoor.rp
open Go.RowKit
set_option linter.unusedVariables false
set_option maxRecDepth 100000
theorem info_of {P : Program} {t : TypeId} {n b : Nat} {z : Value} (h1 : (P.info? t).map (fun i => (i.size, i.bytes)) = some (n, b)) (h2 : (P.info? t).bind (·.zero) = some z) : ∃ i, P.info? t = some i ∧ i.size = n ∧ i.bytes = b ∧ i.zero = some z := by
  cases h : P.info? t with
  | none => rw [h] at h1; cases h1
  | some i =>
    rw [h] at h1 h2
    simp at h1 h2
    exact ⟨i, rfl, h1.1, h1.2, h2⟩
theorem i9 : ∃ i, Tryd.prog.info? 9 = some i ∧ i.size = 1 ∧ i.bytes = 16 ∧ i.zero = some (.string .empty) := info_of (by kernel_rfl) (by kernel_rfl)
theorem i5 : ∃ i, Tryd.prog.info? 5 = some i ∧ i.size = 1 ∧ i.bytes = 1 ∧ i.zero = some (.int .u8 0) := info_of (by kernel_rfl) (by kernel_rfl)
theorem wpList_append_run {P : Program} {w w' : World} {ops : Array Oper} {rest : List Oper} {o : Oper} {a : Act} {Q : Exit → Act → World → Prop} (hgd : o.guard = none) (s x : Operand) (t u : TypeId)
    (ho : o.op = .call { callee := .builtin .append, args := #[s, x], argTypes := #[t, u] }) {v1 v2 v' : Value} (hs : a.eval s = v1) (hx : a.eval x = v2)
    (hr : (Builtin.append_ #[t, u] o.type #[v1, v2]).run P w = .ok v' w') (h : wpList P ops Q rest (a.put o.dst v') w') : wpList P ops Q (o :: rest) a w := by
  refine wpList_plain hgd fun _ hK => ?_
  unfold Oper.wp execOp
  simp only [ho, resolve, invoke, builtin, Sem.run_bind, Sem.run_pure, Result.andThen_ok, List.map_toArray, List.map_cons, List.map_nil, hs, hx, hr]
  exact hK _ _ h
theorem size_alloc1 (w : World) (A : Obj) : (w.alloc A).heap.size = w.heap.size + 1 := by show (w.heap.push A).size = _; rw [Array.size_push]
theorem alloc2_new (w : World) (A B : Obj) : ((w.alloc A).alloc B).drew.heap[w.heap.size + 1]? = some B := by
  show ((w.alloc A).alloc B).heap[w.heap.size + 1]? = some B
  rw [← size_alloc1 w A]; exact heap_alloc_new _ _
theorem alloc2_old (w : World) (A B : Obj) : ((w.alloc A).alloc B).drew.heap[w.heap.size]? = some A :=
  (heap_alloc_old (w.alloc A) B (by rw [size_alloc1]; omega)).trans (heap_alloc_new w A)
/-- A row of strings. -/
def StrRow (w : World) (o : Nat) (xs : List ByteArray) : Prop := ∃ cs, w.heap[o]? = some (.cells cs 9 (0, 0)) ∧ ∀ (j : Nat) (s : ByteArray), xs[j]? = some s → cs[j]? = some (.string s)
def replA (d m : Int) (u : Int) (i v : Value) : Array Value := #[.int .u32 d, .int .i32 m, .int .u32 u, i, v]
set_option maxHeartbeats 1600000 in
theorem w19 {w : World} {o : Nat} {xs : List ByteArray} (h : StrRow w o xs) (n : Nat) (hn : xs.length = n) (h0 : 0 < n) (h2 : n % 2 = 0) (hx : n ≤ 100) :
    Calls Tryd.prog 23 #[.slice (some ⟨o, 0, none⟩) n n] w fun e w' => ∃ r o2 cap, e = .returned (.pointer (some ⟨r, 0, none⟩)) ∧ w'.heap[r]? = some (.cells (replA 0 0 0 .nilIface (.slice (some ⟨o2, 0, none⟩) n cap)) 68 (0, 0)) ∧
      StrRow w' o2 xs ∧ r ≠ o2 ∧ w.heap.size ≤ r ∧ w.heap.size ≤ o2 ∧ n ≤ cap ∧ Below w.heap.size w w' := by
  have mixed := mixd
  obtain ⟨cs, hb, hs⟩ := h
  have hlen : (xs.map Value.string).length = n * 1 := by simp [hn]
  have hcell : ∀ j v, (xs.map Value.string)[j]? = some v → w.cell? ((⟨o, 0, none⟩ : Addr).add j) = some v := by
    intro j v hv
    rw [List.getElem?_map, Option.map_eq_some_iff] at hv
    obtain ⟨s, h1, rfl⟩ := hv
    have := hs j s h1
    rw [show ((⟨o, 0, none⟩ : Addr).add j) = ⟨o, j, none⟩ by unfold Addr.add; split <;> simp_all, cell_at hb]
    exact this
  obtain ⟨i, hi, i1, i2, i3⟩ := i9
  have hap := fun ty => run_append_nil (P := Tryd.prog) w 49 ty 9 i _ Tryd.underlying49 hi i3 ⟨o, 0, none⟩ n n (xs.map Value.string) (by rw [i1]; exact hlen) hcell h0 (by omega) (by rw [i2]; omega)
  clear hi i1 i2 i3
  have hmod : ¬ ((n : Int) % 2 = 1) := by omega
  have hmod2 : (n : Int).tmod 2 = 0 := Int.tmod_eq_zero_of_dvd (by omega)
  go_enter Tryd.func23, Tryd.ntmps23
  go_wp2_with (at_builtin; refine wpList_append_run rfl _ _ 49 49 rfl rfl rfl (hap _) ?_)
  go_ret
  refine ⟨w.heap.size + 1, w.heap.size, grownCap w n 0 9, rfl, ?_, ⟨(xs.map Value.string).toArray ++ Builtin.zeroCells #[Value.string .empty] (grownCap w n 0 9 - n), ?_, ?_⟩, by omega, by omega, by omega, grownCap_ge w n 0 9, ?_⟩
  · exact alloc2_new _ _ _
  · exact alloc2_old _ _ _
  · intro j s hj
    have hjl : j < xs.length := (List.getElem?_eq_some_iff.1 hj).1
    simp [Array.getElem?_append, hjl]
    simpa [hjl] using hj
  · exact (((Below.refl _ _).alloc (Nat.le_refl _) _).alloc (by rw [size_alloc1]; omega) _).drew
end Go.Proofs.YtcmeincdmphaoaaDoor.rp

namespace Go.Proofs.YtcmeincdmphaoaaDoor.rp
open Go.RowKit
set_option linter.unusedVariables false
set_option maxRecDepth 100000
theorem st_row {P : Program} {w : World} {g : Nat} {t : TypeId} {old : Array Value} {L : List Value} (hg : w.heap[g]? = some (.cells old t (0, 0))) (ho : old.size = L.length) (h1 : ∀ v ∈ L, v.oneCell' = true) :
    (storeCells ⟨g, 0, none⟩ L).run P w = .ok () (w.setRow g L.toArray) := by
  have := run_storeCells_from (P := P) g t L 0 old w hg (by simp; omega) h1
  rw [this]
  congr 2
theorem zc76 : Tryd.zeroCells90 = Array.replicate 257 (.slice none 0 0) := by kernel_rfl
theorem z76_one (u : Value) (hu : u.oneCell' = true) : ∀ v ∈ Tryd.zeroCells90.toList.set 256 u, v.oneCell' = true := by
  rw [zc76]
  intro v hv
  rcases List.mem_or_eq_of_mem_set hv with h | rfl
  · simp at h; rw [h]; rfl
  · exact hu
theorem z76_get (u : Value) (c : Nat) (hc : c < 256) : (Tryd.zeroCells90.toList.set 256 u).toArray[c]? = some (.slice none 0 0) := by
  rw [zc76, List.getElem?_toArray, List.getElem?_set, if_neg (by omega)]
  rw [Array.toList_replicate, List.getElem?_replicate, if_pos (by omega)]
theorem z76_256 (u : Value) : (Tryd.zeroCells90.toList.set 256 u).toArray[256]? = some u := by
  rw [zc76, List.getElem?_toArray, List.getElem?_set, if_pos rfl, if_pos (by simp)]
/-- A row of bytes. -/
def BRow (w : World) (a : Nat) (l : List UInt8) : Prop := ∃ cs fr, w.heap[a]? = some (.cells cs 5 fr) ∧ ∀ (j : Nat) (x : UInt8), l[j]? = some x → cs[j]? = some (.int .u8 x.toNat)
theorem conv_bytes (w : World) (l : List UInt8) : ∃ w' cap, (convert 9 31 (.string ⟨l.toArray⟩)).run Tryd.prog w = .ok (.slice (some ⟨w.heap.size, 0, none⟩) l.length cap) w' ∧ BRow w' w.heap.size l ∧ Below w.heap.size w w' ∧ w'.heap.size = w.heap.size + 1 := by
  have h := run_bytes_of_string (P := Tryd.prog) w 9 31 5 ⟨l.toArray⟩ Tryd.underlying9 Tryd.underlying31 Tryd.underlying5
  have hs : (⟨l.toArray⟩ : ByteArray).size = l.length := by show l.toArray.size = _; simp
  rw [hs] at h
  refine ⟨_, _, h, ⟨_, _, heap_alloc_new w.drew _, ?_⟩, (Below.refl _ _).drew.alloc (Nat.le_refl _) _, size_alloc1 _ _⟩
  intro j x hj
  have hjl : j < l.length := (List.getElem?_eq_some_iff.1 hj).1
  unfold bytesRow
  rw [Array.getElem?_append_left (by simp; exact hjl)]
  simp [hj]
/-- What is laid in a byteStringReplacer: for a byte what stands in its place; the list of the bytes. -/
def BS (w : World) (base bs : Nat) (f : Nat → Option (List UInt8)) (xs : List ByteArray) : Prop := ∃ arr v, w.heap[bs]? = some (.cells arr 90 (0, 0)) ∧ arr.size = 257 ∧ arr[256]? = some v ∧ w.ownsRow base 9 1 v xs.length (xs.map .string) ∧ v.ownBlock ≠ some bs ∧
  ∀ c < 256, (f c = none ∧ arr[c]? = some (.slice none 0 0)) ∨ ∃ l a cap, f c = some l ∧ 0 < l.length ∧ l.length ≤ 100 ∧ arr[c]? = some (.slice (some ⟨a, 0, none⟩) l.length cap) ∧ BRow w a l ∧ a ≠ bs ∧ base ≤ a
abbrev Prs := List (UInt8 × List UInt8)
def fOf (Q : Prs) (c : Nat) : Option (List UInt8) := (Q.find? fun p => p.1.toNat == c).map (·.2)
def tOf (Q : Prs) : List ByteArray := (Q.map fun p => (⟨#[p.1]⟩ : ByteArray)).reverse
structure PrsOK (P : Prs) (xs : List ByteArray) : Prop where
  s1 : ∀ (j : Nat) p, P[j]? = some p → xs[2 * j]? = some ⟨#[p.1]⟩
  s2 : ∀ (j : Nat) p, P[j]? = some p → xs[2 * j + 1]? = some ⟨p.2.toArray⟩
  big : ∀ (j : Nat) p, P[j]? = some p → 1 < p.2.length ∧ p.2.length ≤ 100
  nd : ∀ (i j : Nat) p q, P[i]? = some p → P[j]? = some q → i < j → p.1 ≠ q.1
theorem own_ne {w : World} {base : Nat} {e : TypeId} {sz : Nat} {v : Value} {n : Nat} {xs : List Value} (h : w.ownsRow base e sz v n xs) {a : Nat} {cs : Array Value} {t : TypeId} {fr : Nat × Nat} (ha : w.heap[a]? = some (.cells cs t fr)) (hne : t ≠ e) : v.ownBlock ≠ some a := by
  rcases h.2 with ⟨rfl, _⟩ | ⟨g, cap, cur, rfl, _, hg, _⟩
  · intro h; cases h
  · intro h
    have : g = a := by simpa [Value.ownBlock] using h
    subst this
    rw [hg] at ha; injection ha with ha; injection ha with _ h2 _
    exact hne h2.symm
theorem own_keep {w w' : World} {base : Nat} {e : TypeId} {sz : Nat} {v : Value} {n : Nat} {xs : List Value} (h : w.ownsRow base e sz v n xs) (hk : ∀ g, v.ownBlock = some g → w'.heap[g]? = w.heap[g]?) : w'.ownsRow base e sz v n xs := by
  refine ⟨h.1, ?_⟩
  rcases h.2 with ⟨h1, h2⟩ | ⟨g, cap, cur, hv, hb, hg, h3⟩
  · exact .inl ⟨h1, h2⟩
  · exact .inr ⟨g, cap, cur, hv, hb, (hk g (by rw [hv]; rfl)).trans hg, h3⟩
theorem fOf_cons (p : UInt8 × List UInt8) (Q : Prs) (c : Nat) : fOf (p :: Q) c = if p.1.toNat = c then some p.2 else fOf Q c := by
  unfold fOf
  rw [List.find?_cons]
  by_cases h : p.1.toNat = c
  · rw [if_pos h, show (p.1.toNat == c) = true by simpa using h]; rfl
  · rw [if_neg h, show (p.1.toNat == c) = false by simpa using h]
theorem BS_step {wr w4 w5 w6 : World} {base : Nat} {arr : Array Value} {v v' : Value} {cx : UInt8} {lx : List UInt8} {Q Q' : Prs} {k cap6 : Nat} (hlb : base + 1 < wr.heap.size) (hAr : wr.heap[base + 1]? = some (.cells arr 90 (0, 0))) (hsz : arr.size = 257)
    (hown : wr.ownsRow base 9 1 v (tOf Q).length ((tOf Q).map .string))
    (hf : ∀ c < 256, (fOf Q c = none ∧ arr[c]? = some (.slice none 0 0)) ∨ ∃ l a cap, fOf Q c = some l ∧ 0 < l.length ∧ l.length ≤ 100 ∧ arr[c]? = some (.slice (some ⟨a, 0, none⟩) l.length cap) ∧ BRow wr a l ∧ a ≠ base + 1 ∧ base ≤ a)
    (hA4 : w4.heap[base + 1]? = some (.cells arr 90 (0, 0))) (hk4 : ∀ q, q < wr.heap.size → v.ownBlock ≠ some q → w4.heap[q]? = wr.heap[q]?) (hs4 : wr.heap.size ≤ w4.heap.size)
    (hown4 : w4.ownsRow base 9 1 v' (k + 1) ((tOf Q).map Value.string ++ [.string ⟨#[cx]⟩])) (hk : (tOf Q).length = k)
    (hA5 : w5.heap[base + 1]? = some (.cells (arr.setIfInBounds 256 v') 90 (0, 0))) (ho5 : ∀ q, q ≠ base + 1 → w5.heap[q]? = w4.heap[q]?) (hs5 : w5.heap.size = w4.heap.size)
    (hB6 : Below w5.heap.size w5 w6) (hA6 : w6.heap[base + 1]? = some (.cells (arr.setIfInBounds 256 v') 90 (0, 0))) (hrow6 : BRow w6 w5.heap.size lx) (hQ : Q' = (cx, lx) :: Q) (hnone : fOf Q cx.toNat = none) (hbig : 1 < lx.length ∧ lx.length ≤ 100) :
    BS (w6.setCell ⟨base + 1, cx.toNat, none⟩ (.slice (some ⟨w5.heap.size, 0, none⟩) lx.length cap6)) base (base + 1) (fOf Q') (tOf Q') := by
  have hcx : cx.toNat < 256 := cx.toNat_lt
  have hk5 : ∀ q, q < wr.heap.size → q ≠ base + 1 → v.ownBlock ≠ some q → w6.heap[q]? = wr.heap[q]? := fun q h1 h2 h3 => (hB6.block q (by omega)).trans ((ho5 q h2).trans (hk4 q h1 h3))
  have hA7 := set_heap (off := cx.toNat) hA6 (.slice (some ⟨w5.heap.size, 0, none⟩) lx.length cap6)
  have hk7 : ∀ q, q ≠ base + 1 → (w6.setCell ⟨base + 1, cx.toNat, none⟩ (.slice (some ⟨w5.heap.size, 0, none⟩) lx.length cap6)).heap[q]? = w6.heap[q]? := fun q hq => Below.heap_setCell w6 _ _ q hq
  have hlen : (tOf Q').length = k + 1 := by rw [hQ]; simp only [tOf, List.length_reverse, List.length_map, List.length_cons] at hk ⊢; omega
  have hmap : (tOf Q').map Value.string = (tOf Q).map Value.string ++ [.string ⟨#[cx]⟩] := by rw [hQ]; simp [tOf]
  have hvne : v'.ownBlock ≠ some (base + 1) := own_ne hown4 hA4 (by decide)
  refine ⟨_, v', hA7, by simp [hsz], ?_, ?_, hvne, ?_⟩
  · rw [Array.getElem?_setIfInBounds, if_neg (by omega), Array.getElem?_setIfInBounds, if_pos rfl, if_pos (by omega)]
  · rw [hlen, hmap]
    refine own_keep hown4 fun g hg => ?_
    have hgb : g ≠ base + 1 := fun e => hvne (by rw [hg, e])
    have hgl : g < w4.heap.size := by
      rcases hown4.2 with ⟨rfl, _⟩ | ⟨g', _, _, rfl, _, h, _⟩
      · cases hg
      · have : g' = g := by simpa [Value.ownBlock] using hg
        subst this
        exact (Array.getElem?_eq_some_iff.1 h).1
    exact (hk7 g hgb).trans ((hB6.block g (by omega)).trans (ho5 g hgb))
  · intro c hc
    rw [hQ, fOf_cons]
    by_cases he : cx.toNat = c
    · subst he
      rw [if_pos rfl]
      refine .inr ⟨lx, w5.heap.size, cap6, rfl, by omega, hbig.2, ?_, ?_, by omega, by omega⟩
      · rw [Array.getElem?_setIfInBounds, if_pos rfl, if_pos (by simp [hsz]; omega)]
      · obtain ⟨cs, fr, h1, h2⟩ := hrow6
        exact ⟨cs, fr, (hk7 _ (by omega)).trans h1, h2⟩
    · rw [if_neg he]
      have hg : ((arr.setIfInBounds 256 v').setIfInBounds cx.toNat (.slice (some ⟨w5.heap.size, 0, none⟩) lx.length cap6))[c]? = arr[c]? := by
        rw [Array.getElem?_setIfInBounds, if_neg he, Array.getElem?_setIfInBounds, if_neg (by omega)]
      rcases hf c hc with ⟨h1, h2⟩ | ⟨l, a, cap, h1, h2, h3, h4, ⟨cs, fr, h5, h6⟩, h7, h8⟩
      · exact .inl ⟨h1, hg.trans h2⟩
      · refine .inr ⟨l, a, cap, h1, h2, h3, hg.trans h4, ⟨cs, fr, ?_, h6⟩, h7, h8⟩
        exact (hk7 a h7).trans ((hk5 a (Array.getElem?_eq_some_iff.1 h5).1 h7 (own_ne hown h5 (by decide))).trans h5)
set_option maxHeartbeats 3200000 in
theorem w34 {w : World} {r o : Nat} {cs : Array Value} {xs : List ByteArray} {cap : Nat} (hb : w.heap[r]? = some (.cells cs 68 (0, 0))) (h4 : cs[4]? = some (.slice (some ⟨o, 0, none⟩) 8 cap)) (hs : StrRow w o xs) (hcap : 8 ≤ cap)
    {P : Prs} (hP : P.length = 4) (hok : PrsOK P xs) :
    Calls Tryd.prog 39 #[.pointer (some ⟨r, 0, none⟩)] w fun e w' => e = .returned (.iface 91 (.pointer (some ⟨w.heap.size + 1, 0, none⟩))) ∧ Below w.heap.size w w' ∧ BS w' w.heap.size (w.heap.size + 1) (fOf P) (tOf P) := by
  have mixed := mixd
  have hc4 := (cell_at hb 4).trans h4
  have hold : ∀ (j : Nat) (s : ByteArray), j < 4 → xs[2 * j]? = some s → s.size = 1 := by
    intro j s hj h
    obtain ⟨p, hp⟩ : ∃ p, P[j]? = some p := ⟨_, List.getElem?_eq_getElem (by omega)⟩
    rw [hok.s1 j p hp] at h; injection h with h; subst h; rfl
  have hnew : ∀ (j : Nat) (s : ByteArray), j < 4 → xs[2 * j + 1]? = some s → ¬ s.size = 1 := by
    intro j s hj h
    obtain ⟨p, hp⟩ : ∃ p, P[j]? = some p := ⟨_, List.getElem?_eq_getElem (by omega)⟩
    have := (hok.big j p hp).1
    rw [hok.s2 j p hp] at h; injection h with h; subst h
    show ¬ p.2.toArray.size = 1
    rw [List.size_toArray]; omega
  have hgets : ∀ j, j < 4 → ∃ s t, xs[2 * j]? = some s ∧ xs[2 * j + 1]? = some t := by
    intro j hj
    obtain ⟨p, hp⟩ : ∃ p, P[j]? = some p := ⟨_, List.getElem?_eq_getElem (by omega)⟩
    exact ⟨_, _, hok.s1 j p hp, hok.s2 j p hp⟩
  obtain ⟨cs2, hb2, hs2⟩ := hs
  go_enter Tryd.func39, Tryd.ntmps39
  go_wp2
  go_loopg [4, 5] 4 (fun g v4 v5 wx => ∃ k : Nat, k + g = 4 ∧ wx = w ∧ v4 = .bool (decide (k = 0)) ∧ v5 = .int .i64 (2 * k : Nat))
  case atStart => exact ⟨0, by omega, rfl, rfl, rfl⟩
  case round =>
    obtain ⟨k, hk, hww, rfl, rfl⟩ := hrel
    have hww' := hww.symm
    clear hww
    subst hww'
    cases gk with
    | zero =>
      obtain rfl : k = 4 := by omega
      obtain ⟨i, hi, i1, i2, i3⟩ := i9
      have hmk := run_make (P := Tryd.prog) w 49 9 i (.string .empty) Tryd.underlying49 hi i3 .i64 .i64 0 4 (by omega) (by omega) (by rw [i2]; omega) (by omega)
      rw [i1] at hmk
      clear hi i1 i2 i3
      have hA := alloc2_new w (.cells (madeCells #[Value.string .empty] 4) 9) (.cells Tryd.zeroCells90 90)
      have hA' : ((w.alloc (.cells (madeCells #[Value.string .empty] 4) 9)).alloc (.cells Tryd.zeroCells90 90)).heap[w.heap.size + 1]? = some (.cells Tryd.zeroCells90 90) := hA
      have hst := st_row (P := Tryd.prog) (L := Tryd.zeroCells90.toList.set 256 (Value.slice (some ⟨w.heap.size, 0, none⟩) 0 4)) hA' (by simp) (z76_one _ rfl)
      have hB := setRow_heap _ _ _ (Tryd.zeroCells90.toList.set 256 (Value.slice (some ⟨w.heap.size, 0, none⟩) 0 4)).toArray _ _ hA'
      have hBe : Below w.heap.size w (((w.alloc (.cells (madeCells #[Value.string .empty] 4) 9)).alloc (.cells Tryd.zeroCells90 90)).setRow (w.heap.size + 1) (Tryd.zeroCells90.toList.set 256 (Value.slice (some ⟨w.heap.size, 0, none⟩) 0 4)).toArray) := by
        refine (((Below.refl _ _).alloc (Nat.le_refl _) _).alloc (by rw [size_alloc1]; omega) _).trans ⟨rfl, rfl, rfl, by rw [setRow_size]; exact Nat.le_refl _, fun k hk => setRow_other _ _ _ _ (by omega)⟩
      have hown : (((w.alloc (.cells (madeCells #[Value.string .empty] 4) 9)).alloc (.cells Tryd.zeroCells90 90)).setRow (w.heap.size + 1) (Tryd.zeroCells90.toList.set 256 (Value.slice (some ⟨w.heap.size, 0, none⟩) 0 4)).toArray).ownsRow w.heap.size 9 1 (.slice (some ⟨w.heap.size, 0, none⟩) 0 4) 0 [] := by
        refine ⟨rfl, .inr ⟨w.heap.size, 4, madeCells #[Value.string .empty] 4, rfl, Nat.le_refl _, ?_, by omega, by simp [maxLen], by simp [madeCells], rfl⟩⟩
        exact (setRow_other _ _ _ _ (by omega)).trans (alloc2_old w _ _)
      go_wp2
      have hBS : BS (((w.alloc (.cells (madeCells #[Value.string .empty] 4) 9)).alloc (.cells Tryd.zeroCells90 90)).setRow (w.heap.size + 1) (Tryd.zeroCells90.toList.set 256 (Value.slice (some ⟨w.heap.size, 0, none⟩) 0 4)).toArray) w.heap.size (w.heap.size + 1) (fOf []) (tOf []) :=
        ⟨_, _, hB, by simp [zc76], z76_256 _, hown, by simp [Value.ownBlock], fun c hc => .inl ⟨rfl, z76_get _ c hc⟩⟩
      clear hst hA hA' hB hown hmk
      generalize ((w.alloc (.cells (madeCells #[Value.string .empty] 4) 9)).alloc (.cells Tryd.zeroCells90 90)).setRow (w.heap.size + 1) (Tryd.zeroCells90.toList.set 256 (Value.slice (some ⟨w.heap.size, 0, none⟩) 0 4)).toArray = w3 at *
      go_loopg [12] 4 (fun g v12 wx => ∃ k : Nat, k + g = 4 ∧ v12 = .int .i64 (6 - 2 * (k : Int)) ∧ Below w.heap.size w wx ∧ BS wx w.heap.size (w.heap.size + 1) (fOf (P.drop (4 - k))) (tOf (P.drop (4 - k))))
      case atStart => exact ⟨0, by omega, by simp, hBe, by rw [List.drop_of_length_le (by omega)]; exact hBS⟩
      case round =>
        obtain ⟨k, hk, rfl, hBx, hSx⟩ := hrel
        clear hBe hBS
        cases gk with
        | zero =>
          obtain rfl : k = 4 := by omega
          go_wp2
          go_ret
          exact ⟨rfl, hBx, hSx⟩
        | succ g =>
          have hkl : k < 4 := by omega
          obtain ⟨m, hm⟩ : ∃ m, m + k = 3 := ⟨3 - k, by omega⟩
          obtain ⟨p, hp⟩ : ∃ p, P[m]? = some p := ⟨_, List.getElem?_eq_getElem (by omega)⟩
          have hdr : P.drop m = p :: P.drop (4 - k) := by
            rw [List.drop_eq_getElem_cons (by omega : m < P.length), show m + 1 = 4 - k by omega]
            congr 1
            have := List.getElem?_eq_some_iff.1 hp
            exact this.2
          obtain ⟨cx, lx⟩ := p
          have hlt : o < w.heap.size := (Array.getElem?_eq_some_iff.1 hb2).1
          have hbx := (hBx.block o hlt).trans hb2
          have r1 := (cell_at hbx (2 * m)).trans (hs2 _ _ (hok.s1 m _ hp))
          have r2 := (cell_at hbx (2 * m + 1)).trans (hs2 _ _ (hok.s2 m _ hp))
          obtain ⟨arr, v, hAr, hsz, hv, hown, hvb, hf⟩ := hSx
          have hnone : fOf (P.drop (4 - k)) cx.toNat = none := by
            unfold fOf
            rw [Option.map_eq_none_iff, List.find?_eq_none]
            intro q hq
            obtain ⟨j, hj⟩ := List.getElem?_of_mem hq
            rw [List.getElem?_drop] at hj
            have := hok.nd m (4 - k + j) _ _ hp hj (by omega)
            intro e
            exact this (UInt8.toNat_inj.1 (show cx.toNat = q.1.toNat from (eq_of_beq e).symm))
          have hc0 : arr[cx.toNat]? = some (.slice none 0 0) := by
            rcases hf cx.toNat (by exact cx.toNat_lt) with ⟨_, h⟩ | ⟨l, _, _, h, _⟩
            · exact h
            · rw [hnone] at h; cases h
          have d1 := (cell_at hAr 256).trans hv
          have d2 := (cell_at hAr cx.toNat).trans hc0
          have g1 : (6 - 2 * (k : Int)) = ((2 * m : Nat) : Int) := by omega
          rw [g1]
          have hw1 : IntKind.i64.wrap (((2 * m : Nat) : Int) + 1) = ((2 * m + 1 : Nat) : Int) := by go_unwrap; omega
          have b1 : ((2 * m : Nat) : Int) < 8 := by omega
          have b2 : ((2 * m + 1 : Nat) : Int) < 8 := by omega
          have b3 : (0 : Int) ≤ ((2 * m : Nat) : Int) := by omega
          have b4 : (0 : Int) ≤ ((2 * m + 1 : Nat) : Int) := by omega
          have b5 : (0 : Int) ≤ (cx.toNat : Int) := by omega
          have b6 : (cx.toNat : Int) < 256 := by have := cx.toNat_lt; omega
          have hidx : (⟨#[cx]⟩ : ByteArray).size = 1 := rfl
          have hidx2 : ∀ h, (⟨#[cx]⟩ : ByteArray)[0]'h = cx := fun _ => rfl
          generalize 2 * m + 1 = k1 at *
          generalize hk0 : 2 * m = k0 at *
          have heq := Lib.run_eql_slice_nil (P := Tryd.prog) wr 31 5 none 0 0 0 0 Tryd.underlying31
          have hcv1 : (convert 31 9 (.slice (some ⟨wr.heap.size, 0, none⟩) 1 1)).run Tryd.prog (wr.alloc (.cells #[.int .u8 (cx.toNat : Int)] 5)) = .ok (.string ⟨#[cx]⟩) (wr.alloc (.cells #[.int .u8 (cx.toNat : Int)] 5)) := by
            refine run_convert_bytes_back (P := Tryd.prog) _ 31 9 5 ⟨wr.heap.size, 0, none⟩ 1 [cx] Tryd.underlying31 Tryd.underlying5 Tryd.underlying9 ?_
            intro j hj
            have : j = 0 := by simpa using hj
            subst this
            rw [Addr.add_zero', cell_at (heap_alloc_new _ _)]; rfl
          obtain ⟨i, hi, i1, i2, i3⟩ := i9
          have htl : (tOf (P.drop (4 - k))).length = k := by simp [tOf, hP]; omega
          go_wp2_with (at_builtin; refine wpList_append_own _ rfl _ _ 49 rfl w.heap.size 9 i (.string .empty) 1 16 Tryd.underlying49 hi i3 i1 i2 rfl (by decide) _ _ _ rfl ((hown.alloc _).alloc _) ⟨wr.heap.size + 1, 0, none⟩ 1 1 [.string ⟨#[cx]⟩] rfl rfl ?_ ?_ ?_ ?_ ?_ ?_)
          case refine_2 => rfl
          case refine_3 => simp only [maxLen]; omega
          case refine_4 => omega
          case refine_5 => have := hBx.size; omega
          case refine_6 =>
            intro v' w4 hown4 hgr hne
            obtain ⟨gv, capv, rfl⟩ : ∃ gv capv, v' = .slice (some ⟨gv, 0, none⟩) (k + 1) capv := by
              rcases hown4.2 with ⟨h, _⟩ | ⟨g', cap', cur', h, _⟩
              · exact absurd h hne
              · exact ⟨g', cap', h⟩
            have hbsl : w.heap.size + 1 < wr.heap.size := (Array.getElem?_eq_some_iff.1 hAr).1
            have hk4 : ∀ q, q < wr.heap.size → v.ownBlock ≠ some q → w4.heap[q]? = wr.heap[q]? := fun q h1 h2 => (hgr.block q (by rw [size_alloc1, size_alloc1]; omega) (fun e => h2 e.symm)).trans ((heap_alloc_old _ _ (by rw [size_alloc1]; omega)).trans (heap_alloc_old _ _ h1))
            have hs4 : wr.heap.size ≤ w4.heap.size := by have := hgr.size; rw [size_alloc1, size_alloc1] at this; omega
            have hA4 : w4.heap[w.heap.size + 1]? = some (.cells arr 90 (0, 0)) := (hgr.block _ (by rw [size_alloc1, size_alloc1]; omega) (fun e => hvb e.symm)).trans ((heap_alloc_old _ _ (by rw [size_alloc1]; omega)).trans ((heap_alloc_old _ _ hbsl).trans hAr))
            have d3 := (cell_at hA4 256).trans hv
            have z3 := frz_at hA4 256
            have hA5 := set_heap (off := 256) hA4 (.slice (some ⟨gv, 0, none⟩) (k + 1) capv)
            have hc5 : (arr.setIfInBounds 256 (.slice (some ⟨gv, 0, none⟩) (k + 1) capv))[cx.toNat]? = some (.slice none 0 0) := by rw [Array.getElem?_setIfInBounds, if_neg (by omega)]; exact hc0
            obtain ⟨w5, hw5⟩ : ∃ w5, w4.setCell ⟨w.heap.size + 1, 256, none⟩ (.slice (some ⟨gv, 0, none⟩) (k + 1) capv) = w5 := ⟨_, rfl⟩
            rw [hw5] at hA5
            have hs5 : w5.heap.size = w4.heap.size := by rw [← hw5]; simp
            have ho5 : ∀ q, q ≠ w.heap.size + 1 → w5.heap[q]? = w4.heap[q]? := fun q hq => by rw [← hw5]; exact Below.heap_setCell w4 _ _ q hq
            obtain ⟨w6, cap6, hcv2, hrow6, hB6, hs6⟩ := conv_bytes w5 lx
            have hA6 := (hB6.block _ (Array.getElem?_eq_some_iff.1 hA5).1).trans hA5
            have d6 := (cell_at hA6 cx.toNat).trans hc5
            have z6 := frz_at hA6 cx.toNat
            go_wp2_with fail
            go_roundg g
            case measure => omega
            case rel =>
              refine ⟨k + 1, by omega, by congr 1; omega, ?_, ?_⟩
              · refine ⟨?_, ?_, ?_, ?_, fun q hq => ?_⟩
                · exact hB6.os.trans (by rw [← hw5]; exact hgr.os.trans hBx.os)
                · exact hB6.tape.trans (by rw [← hw5]; exact hgr.tape.trans hBx.tape)
                · exact hB6.output.trans (by rw [← hw5]; exact hgr.output.trans hBx.output)
                · have h1 := hBx.size
                  have h2 := hB6.size
                  show w.heap.size ≤ (w6.heap.modify _ _).size
                  rw [Array.size_modify]; omega
                · have hvq : v.ownBlock ≠ some q := by
                    rcases hown.2 with ⟨rfl, _⟩ | ⟨g', _, _, rfl, hg', _⟩
                    · intro h; cases h
                    · intro h
                      have : g' = q := by simpa [Value.ownBlock] using h
                      omega
                  exact (Below.heap_setCell w6 _ _ q (by show q ≠ w.heap.size + 1; omega)).trans ((hB6.block q (by omega)).trans ((ho5 q (by omega)).trans ((hk4 q (by omega) hvq).trans (hBx.block q hq))))
              · rw [show 4 - (k + 1) = m by omega]
                exact hs5 ▸ BS_step hbsl hAr hsz hown hf hA4 hk4 hs4 hown4 htl hA5 ho5 hs5 hB6 hA6 hrow6 hdr hnone (hok.big m _ hp)
    | succ g =>
      have hkl : k < 4 := by omega
      obtain ⟨s1, s2, q1, q2⟩ := hgets k hkl
      have r1 := (cell_at hb2 (2 * k)).trans (hs2 _ _ q1)
      have r2 := (cell_at hb2 (2 * k + 1)).trans (hs2 _ _ q2)
      have e1 : (s1.size : Int) = 1 := by have := hold _ _ hkl q1; omega
      have e2 : ¬ (s2.size : Int) = 1 := by have := hnew _ _ hkl q2; omega
      have hw1 : IntKind.i64.wrap (((2 * k : Nat) : Int) + 1) = ((2 * k + 1 : Nat) : Int) := by go_unwrap; omega
      have hw2 : IntKind.i64.wrap (((2 * k : Nat) : Int) + 2) = ((2 * (k + 1) : Nat) : Int) := by go_unwrap; omega
      have b1 : ((2 * k : Nat) : Int) < 8 := by omega
      have b2 : ((2 * k + 1 : Nat) : Int) < 8 := by omega
      have b3 : (0 : Int) ≤ ((2 * k : Nat) : Int) := by omega
      have b4 : (0 : Int) ≤ ((2 * k + 1 : Nat) : Int) := by omega
      generalize 2 * k + 1 = k1 at *
      generalize hk2 : 2 * (k + 1) = k2 at *
      generalize 2 * k = k0 at *
      go_wp2
      go_roundg g
      case measure => omega
      case rel => exact ⟨k + 1, by omega, rfl, by simp, by rw [hk2]⟩
end Go.Proofs.YtcmeincdmphaoaaDoor.rp
