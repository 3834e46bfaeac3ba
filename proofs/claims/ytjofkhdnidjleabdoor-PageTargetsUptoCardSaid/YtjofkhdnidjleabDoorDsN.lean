/- Rows: literals, make, conversions, append. -/
import Derived.Test.YtjofkhdnidjleabDoorDsM
set_option linter.unusedVariables false
set_option linter.unusedSimpArgs false
namespace Go.Proofs.YtjofkhdnidjleabDoor.DS
open Go.RowKit

/-- The cells of n values, one behind the other. -/
def flat (vs : Nat → Value) (n size : Nat) : List Value := (List.range (n * size)).map fun j => (vs (j / size)).cells.getD (j % size) undef
theorem flat_length (vs : Nat → Value) (n size : Nat) : (flat vs n size).length = n * size := by simp [flat]
theorem flat_get {vs : Nat → Value} {n size i j : Nat} (hi : i < n) (hj : j < size) (hz : (vs i).cells.size = size) : (flat vs n size)[i * size + j]? = (vs i).cells[j]? := by
  have hlt : i * size + j < n * size := by
    have : (i + 1) * size ≤ n * size := Nat.mul_le_mul_right _ hi
    rw [Nat.add_mul] at this; omega
  have e1 : (i * size + j) / size = i := by
    rw [Nat.mul_comm, Nat.mul_add_div (by omega)]; simp [Nat.div_eq_of_lt hj]
  have e2 : (i * size + j) % size = j := by
    rw [Nat.mul_comm, Nat.mul_add_mod]; exact Nat.mod_eq_of_lt hj
  unfold flat
  rw [List.getElem?_map, List.getElem?_range hlt]
  simp [e1, e2, Array.getD, hz, hj]
theorem flat_mem {vs : Nat → Value} {n size : Nat} {p : Value → Prop} (hz : ∀ i, i < n → (vs i).cells.size = size) (hp : ∀ i, i < n → ∀ c ∈ (vs i).cells.toList, p c) : ∀ c ∈ flat vs n size, p c := by
  intro c hc
  obtain ⟨k, hk, rfl⟩ := List.mem_iff_getElem.1 hc
  rw [flat_length] at hk
  have hs : 0 < size := by rcases Nat.eq_zero_or_pos size with h | h; (subst h; simp at hk); exact h
  have h1 : k / size < n := (Nat.div_lt_iff_lt_mul hs).2 hk
  have h2 : k % size < size := Nat.mod_lt _ hs
  have h3 := flat_get (vs := vs) h1 h2 (hz _ h1)
  rw [Nat.mul_comm, Nat.div_add_mod, List.getElem?_eq_getElem (by rw [flat_length]; exact hk)] at h3
  refine hp _ h1 _ ?_
  rw [Array.mem_toList_iff]
  exact Array.mem_of_getElem? h3.symm

/-- What is appended. -/
structure Src (P : Program) (tt : TT) (M : Mem) (w : World) (ei : TI) (x : Value) (ds : List D) (vs : Nat → Value) : Prop where
  len : ∀ w', (Builtin.lenOf x).run P w' = .ok ds.length w'
  cells : ∀ w', w'.heap = w.heap → (Builtin.firstCells ei.cells.length ds.length x).run P w' = .ok (flat vs ds.length ei.cells.length).toArray w'
  each : ∀ i (h : i < ds.length), (vs i).cells.size = ei.cells.length ∧ Rep tt M ei.kt (vs i) ds[i]

section
variable {P : Program} {tt : TT} (hT : TTok P tt) {M : Mem} {w : World}

theorem src_slice {e : TypeId} {ei : TI} (hei : lk e tt = some ei) {ad : Addr} (hs : ad.spot = none) {len cap : Nat} {xs : List D} {vs : Nat → Value} (hl : xs.length = len) (hz : ∀ i, i < xs.length → (vs i).cells.size = ei.cells.length)
    (hc : ∀ i j u, i < xs.length → (vs i).cells[j]? = some u → w.cell? ⟨ad.block, ad.off + (i * ei.cells.length + j), none⟩ = some u) (hr : ∀ i (h : i < xs.length), Rep tt M ei.kt (vs i) xs[i]) :
    Src P tt M w ei (.slice (some ad) len cap) xs vs := by
  refine ⟨fun w' => by simp [Builtin.lenOf, hl], fun w' hw' => ?_, fun i h => ⟨hz i h, hr i h⟩⟩
  refine run_firstCells_some w' _ _ ad len cap _ (by rw [flat_length]) (fun k v hk => ?_)
  have hk' := (List.getElem?_eq_some_iff.1 hk).1
  rw [flat_length] at hk'
  have hs' : 0 < ei.cells.length := by rcases Nat.eq_zero_or_pos ei.cells.length with h | h; (rw [h] at hk'; simp at hk'); exact h
  have h1 : k / ei.cells.length < xs.length := (Nat.div_lt_iff_lt_mul hs').2 hk'
  have h2 : k % ei.cells.length < ei.cells.length := Nat.mod_lt _ hs'
  have h3 := flat_get (vs := vs) h1 h2 (hz _ h1)
  have h4 : k / ei.cells.length * ei.cells.length + k % ei.cells.length = k := by rw [Nat.mul_comm]; exact Nat.div_add_mod _ _
  rw [h4, hk] at h3
  have h5 := hc _ _ _ h1 h3.symm
  rw [h4] at h5
  rw [add_spot _ hs, ← h5]
  simp [World.cell?, hw']

theorem src_nil {ei : TI} {len cap : Nat} (h0 : len = 0) (a : Option Addr) (ha : a = none ∨ ∃ ad, a = some ad) : Src P tt M w ei (.slice a len cap) [] (fun _ => undef) := by
  subst h0
  refine ⟨fun w' => by simp [Builtin.lenOf], fun w' _ => ?_, fun i h => absurd h (by simp)⟩
  rcases ha with rfl | ⟨ad, rfl⟩
  · simp [Builtin.firstCells, flat]
  · simp [Builtin.firstCells, loadCells, loadCellsFrom, flat]

theorem byte_rep (b : UInt8) : Rep tt M (.int .u8) (.int .u8 (b.toNat : Int)) (.int (b.toNat : Int)) := by
  refine .int _ _ ?_
  have := b.toNat_lt
  simp only [Lit.wf, IntKind.min, IntKind.max, IntKind.signed, IntKind.bits, Bool.and_eq_true, decide_eq_true_eq]
  simp; omega

include hT in
theorem src_str {e : TypeId} {ei : TI} (hei : lk e tt = some ei) (hk : ei.kt = .int .u8) (s : ByteArray) : Src P tt M w ei (.string s) (bytesD s.data.toList) (fun i => .int .u8 ((s.data.toList.getD i 0).toNat : Int)) := by
  have hc1 := (hT e ei hei).cells_of_single (by rw [hk]; rfl)
  have hl1 : ei.cells.length = 1 := by rw [hc1]; rfl
  have hsz : (bytesD s.data.toList).length = s.size := by simp [bytesD]
  refine ⟨fun w' => by simp [Builtin.lenOf, hsz], fun w' _ => ?_, fun i h => ?_⟩
  · simp only [Builtin.firstCells, Sem.run_pure]
    congr 1
    apply Array.ext'
    rw [hl1, hsz]
    apply List.ext_getElem?
    intro i
    rw [Array.toList_map, List.getElem?_map]
    have e1 : (s.extract 0 s.size).data.toList = s.data.toList := by simp
    rw [e1]
    by_cases hi : i < s.size
    · have hi' : i < s.data.toList.length := by rw [Array.length_toList]; exact hi
      rw [List.getElem?_eq_getElem hi']
      simp only [flat, Nat.mul_one, List.getElem?_map, List.getElem?_range hi, Option.map_some, Nat.div_one, Nat.mod_one]
      simp [Value.cells, List.getD_eq_getElem?_getD, List.getElem?_eq_getElem hi', show i < s.data.size from hi]
    · rw [List.getElem?_eq_none (by rw [Array.length_toList]; exact Nat.le_of_not_lt hi), List.getElem?_eq_none (by rw [flat_length]; omega)]; rfl
  · refine ⟨by rw [hl1]; rfl, ?_⟩
    rw [hk]
    have hi : i < s.data.toList.length := by simpa [bytesD] using h
    have e : (bytesD s.data.toList)[i] = .int ((s.data.toList.getD i 0).toNat : Int) := by
      simp [bytesD, List.getD_eq_getElem?_getD, List.getElem?_eq_getElem hi]
    rw [e]
    exact byte_rep _

/-- A row of two parts. -/
theorem each_append {ei : TI} {es ds : List D} {vs vx : Nat → Value} (h1 : ∀ i (h : i < es.length), (vs i).cells.size = ei.cells.length ∧ Rep tt M ei.kt (vs i) es[i]) (h2 : ∀ i (h : i < ds.length), (vx i).cells.size = ei.cells.length ∧ Rep tt M ei.kt (vx i) ds[i]) :
    ∀ i (h : i < (es ++ ds).length), ((fun i => if i < es.length then vs i else vx (i - es.length)) i).cells.size = ei.cells.length ∧ Rep tt M ei.kt ((fun i => if i < es.length then vs i else vx (i - es.length)) i) (es ++ ds)[i] := by
  intro i h
  simp only
  by_cases hi : i < es.length
  · simp only [hi, if_true, List.getElem_append_left hi]; exact h1 i hi
  · have h' : i - es.length < ds.length := by simp at h; omega
    simp only [hi, if_false, List.getElem_append_right (Nat.le_of_not_lt hi)]
    exact h2 _ h'

theorem flat_append {es ds : List D} {vs vx : Nat → Value} {size : Nat} (h1 : ∀ i, i < es.length → (vs i).cells.size = size) (h2 : ∀ i, i < ds.length → (vx i).cells.size = size) (hs : 0 < size) :
    flat (fun i => if i < es.length then vs i else vx (i - es.length)) (es.length + ds.length) size = flat vs es.length size ++ flat vx ds.length size := by
  apply List.ext_getElem?
  intro k
  by_cases hk : k < (es.length + ds.length) * size
  · have hd : k / size < es.length + ds.length := (Nat.div_lt_iff_lt_mul hs).2 hk
    have hm : k % size < size := Nat.mod_lt _ hs
    have hdm : k / size * size + k % size = k := by rw [Nat.mul_comm]; exact Nat.div_add_mod _ _
    have hz : ((fun i => if i < es.length then vs i else vx (i - es.length)) (k / size)).cells.size = size := by
      by_cases hlt : k / size < es.length
      · simp only [hlt, if_true]; exact h1 _ hlt
      · simp only [hlt, if_false]; exact h2 _ (by omega)
    have h3 := flat_get (vs := fun i => if i < es.length then vs i else vx (i - es.length)) hd hm hz
    rw [hdm] at h3
    clear hz
    rw [h3]
    by_cases hlt : k / size < es.length
    · rw [if_pos hlt, List.getElem?_append_left (by rw [flat_length]; exact (Nat.div_lt_iff_lt_mul hs).1 hlt), ← flat_get hlt hm (h1 _ hlt), hdm]
    · rw [if_neg hlt]
      have hge : es.length * size ≤ k := by
        have := (Nat.le_div_iff_mul_le hs).1 (Nat.le_of_not_lt hlt); exact this
      rw [List.getElem?_append_right (by rw [flat_length]; exact hge), flat_length, ← flat_get (n := ds.length) (show k / size - es.length < ds.length by omega) hm (h2 _ (by omega))]
      congr 1
      rw [Nat.sub_mul]
      have hge2 : es.length * size ≤ k / size * size := Nat.mul_le_mul_right _ (Nat.le_of_not_lt hlt)
      omega
  · rw [List.getElem?_eq_none (by rw [flat_length]; omega), List.getElem?_eq_none (by rw [List.length_append, flat_length, flat_length, ← Nat.add_mul]; omega)]

theorem zeroCells_size (z : Array Value) (n : Nat) : (Builtin.zeroCells z n).size = n * z.size := by simp [Builtin.zeroCells]

/-- The three ways of append. -/
theorem run_app_room {t xt ty e : TypeId} {inf : TypeInfo} (ht : P.underlying t = some (.slice e)) (hxt : (∃ e2, P.underlying xt = some (.slice e2)) ∨ P.underlying xt = some .string) (hinf : P.info? e = some inf) {x : Value} {m : Nat} {news : Array Value}
    (hlen : (Builtin.lenOf x).run P w = .ok m w) (hfc : (Builtin.firstCells inf.size m x).run P w = .ok news w) {a : Addr} {n cap : Nat} (hroom : n + m ≤ cap) {w' : World} (hst : (storeCells (a.add (n * inf.size)) news.toList).run P w = .ok () w') :
    (Builtin.append_ #[t, xt] ty #[.slice (some a) n cap, x]).run P w = .ok (.slice (some a) (n + m) cap) w' := by
  have hlen2 : ∀ s, (Builtin.lenOf (Value.slice s n cap)).run P w = .ok n w := fun s => by simp [Builtin.lenOf]
  rcases hxt with ⟨e2, hx⟩ | hx <;>
  simp [Builtin.append_, run_underlying ht, run_underlying hx, run_size hinf, hlen, hroom, hfc, hst]
theorem run_app_none {t xt ty e : TypeId} {inf : TypeInfo} (ht : P.underlying t = some (.slice e)) (hxt : (∃ e2, P.underlying xt = some (.slice e2)) ∨ P.underlying xt = some .string) (hinf : P.info? e = some inf) {x : Value}
    (hlen : (Builtin.lenOf x).run P w = .ok 0 w) {news : Array Value} (hfc : (Builtin.firstCells inf.size 0 x).run P w = .ok news w) :
    (Builtin.append_ #[t, xt] ty #[.slice none 0 0, x]).run P w = .ok (.slice none 0 0) w := by
  rcases hxt with ⟨e2, hx⟩ | hx <;>
  simp [Builtin.append_, run_underlying ht, run_underlying hx, run_size hinf, hlen, hfc]
theorem run_app_grow {t xt ty e : TypeId} {inf : TypeInfo} {z : Value} (ht : P.underlying t = some (.slice e)) (hxt : (∃ e2, P.underlying xt = some (.slice e2)) ∨ P.underlying xt = some .string) (hinf : P.info? e = some inf) (hz : inf.zero = some z) (hbz : inf.bytes ≠ 0) {x : Value} {m : Nat} {news olds : Array Value}
    (hlen : (Builtin.lenOf x).run P w = .ok m w) (hfc : (Builtin.firstCells inf.size m x).run P w.drew = .ok news w.drew) {s : Option Addr} {n cap : Nat} (hfo : (Builtin.firstCells inf.size n (.slice s n cap)).run P w.drew = .ok olds w.drew) (hroom : ¬ n + m ≤ cap)
    (h48 : ¬ (281474976710656 < Builtin.nextslicecap (n + m) cap * inf.bytes)) :
    (Builtin.append_ #[t, xt] ty #[.slice s n cap, x]).run P w = .ok (.slice (some ⟨w.heap.size, 0, none⟩) (n + m) (grownCap w (n + m) cap e)) (w.drew.alloc (.cells (olds ++ news ++ Builtin.zeroCells z.cells (grownCap w (n + m) cap e - (n + m))) e)) := by
  have h2 : (zeroValue e).run P w.drew = .ok z w.drew := by simp [zeroValue, run_info hinf, hz]
  rcases hxt with ⟨e2, hx⟩ | hx <;>
  simp [Builtin.append_, run_underlying ht, run_underlying hx, run_size hinf, run_info hinf, hlen, hroom, hbz, h48, Question.forced, hfc, hfo, h2, newRow, grownCap]

include hT in
/-- append, whatever there is room for. -/
theorem append_core {t xt e : TypeId} {ei : TI} (ht : P.underlying t = some (.slice e)) (hxt : (∃ e2, P.underlying xt = some (.slice e2)) ∨ P.underlying xt = some .string) (hei : lk e tt = some ei) (hpos : 0 < ei.cells.length) (hb1 : 1 ≤ ei.bytes) (hb : ei.bytes ≤ 2048)
    {h x : Value} {es ds : List D} {vx : Nat → Value} (harr : ArrRel tt M w ei h es) (hsrc : Src P tt M w ei x ds vx) (hlim : es.length + ds.length ≤ lim) (ty : TypeId) :
    ∃ h' w', (Builtin.append_ #[t, xt] ty #[h, x]).run P w = .ok h' w' ∧ ArrRel tt M w' ei h' (es ++ ds) ∧ w.grownBy w' (blockOf h) ∧ (blockOf h' = blockOf h ∨ blockOf h' = some w.heap.size) ∧ ∃ a n c, h' = .slice a n c := by
  obtain ⟨inf, hinf, hsz, hby⟩ := (hT e ei hei).info
  obtain ⟨inf', z, hinf', hz, hzs, _, _, _⟩ := (hT e ei hei).zero
  rw [hinf] at hinf'; cases hinf'
  have hmaxLen : maxLen = 9223372036854775807 := by decide
  have hxone : ∀ c ∈ flat vx ds.length ei.cells.length, c.oneCell' = true :=
    flat_mem (fun i hi => (hsrc.each i hi).1) (fun i hi => ((hsrc.each i hi).2).cells_one hT hei)
  -- the new row
  have hnew : ∀ (old : List Value) (vs : Nat → Value), old = flat vs es.length ei.cells.length → (∀ i (hi : i < es.length), (vs i).cells.size = ei.cells.length ∧ Rep tt M ei.kt (vs i) es[i]) →
      ∀ cap, es.length + ds.length ≤ cap → cap ≤ maxLen →
      ArrRel tt M (w.drew.alloc (.cells (old.toArray ++ (flat vx ds.length ei.cells.length).toArray ++ Builtin.zeroCells z.cells (cap - (es.length + ds.length))) e)) ei (.slice (some ⟨w.heap.size, 0, none⟩) (es.length + ds.length) cap) (es ++ ds) := by
    intro old vs hold heach cap hcap hcm
    refine .inr ⟨w.heap.size, cap, _, e, (0, 0), fun i => if i < es.length then vs i else vx (i - es.length), by rw [List.length_append], heap_alloc_new w.drew _, by rw [List.length_append]; exact hcap, hcm, ?_, .inr (Nat.le_refl _), ?_⟩
    · simp only [Array.size_append, List.size_toArray, zeroCells_size, hzs, hold, flat_length, ← Nat.add_mul]
      congr 1; omega
    · intro i hi
      have hea := each_append heach hsrc.each i hi
      refine ⟨hea.1, ?_, hea.2⟩
      intro j u hu
      have hj := (Array.getElem?_eq_some_iff.1 hu).1
      rw [hea.1] at hj
      have hfl := flat_append (es := es) (ds := ds) (vs := vs) (vx := vx) (fun i hi => (heach i hi).1) (fun i hi => (hsrc.each i hi).1) hpos
      have hi' : i < es.length + ds.length := by simpa using hi
      have h3 := flat_get (vs := fun i => if i < es.length then vs i else vx (i - es.length)) hi' hj hea.1
      have hlt : i * ei.cells.length + j < (es.length + ds.length) * ei.cells.length := by
        have : (i + 1) * ei.cells.length ≤ (es.length + ds.length) * ei.cells.length := Nat.mul_le_mul_right _ hi'
        rw [Nat.add_mul] at this; omega
      rw [hfl] at h3
      rw [← Array.getElem?_toList, Array.toList_append, Array.toList_append, hold]
      rw [List.getElem?_append_left (by rw [List.length_append, flat_length, flat_length, ← Nat.add_mul]; exact hlt), h3]
      exact hu
  have hlim2 : (es.length + ds.length) * ei.bytes ≤ 140737488355328 := by
    have : (es.length + ds.length) * ei.bytes ≤ lim * 2048 := Nat.mul_le_mul hlim hb
    simpa [lim] using this
  have hsmall : es.length + ds.length ≤ 68719476736 := hlim
  have hfitL : ∀ cap, cap < es.length + ds.length → ¬ (281474976710656 < Builtin.nextslicecap (es.length + ds.length) cap * inf.bytes) := by
    intro cap hc; rw [hby]; have := growslice_fits hc hlim2; omega
  have hbz : inf.bytes ≠ 0 := by omega
  have hcapok : ∀ old, es.length + ds.length ≤ grownCap w (es.length + ds.length) old e ∧ grownCap w (es.length + ds.length) old e ≤ maxLen := fun old => ⟨grownCap_ge w _ old e, grownCap_le_maxLen w _ old e (by omega)⟩
  have hgr : ∀ (o : Go.Obj) (row : Option Nat), w.grownBy (w.drew.alloc o) row := fun o row => ⟨rfl, rfl, rfl, by simp, fun k hk _ => heap_alloc_old w.drew _ k hk⟩
  have hc0 := hsrc.cells w rfl
  have hcd := hsrc.cells w.drew rfl
  rw [← hsz] at hc0 hcd
  rcases harr with ⟨rfl, rfl⟩ | ⟨b, cap, cur, t0, fr, vs, rfl, hheap, hlen, hcap, hcur, hfr, hall⟩
  · -- nil
    by_cases hm : ds.length = 0
    · have hd : ds = [] := List.eq_nil_of_length_eq_zero hm
      subst hd
      exact ⟨.slice none 0 0, w, run_app_none ht hxt hinf (hsrc.len w) hc0, .inl ⟨rfl, rfl⟩, ⟨rfl, rfl, rfl, Nat.le_refl _, fun _ _ _ => rfl⟩, .inl rfl, none, 0, 0, rfl⟩
    · have hfo : (Builtin.firstCells inf.size 0 (.slice none 0 0)).run P w.drew = .ok #[] w.drew := run_firstCells_none w.drew _ _ _ _
      have hr := run_app_grow (n := 0) (cap := 0) (ty := ty) ht hxt hinf hz hbz (hsrc.len w) hcd hfo (by omega) (by have := hfitL 0 (by simp; omega); simpa using this)
      refine ⟨_, _, hr, ?_, hgr _ _, .inr rfl, _, _, _, rfl⟩
      have := hnew [] (fun _ => undef) (by simp [flat]) (fun i hi => absurd hi (by simp)) (grownCap w ds.length 0 e) (by simpa using (hcapok 0).1) (by simpa using (hcapok 0).2)
      rw [hsz]
      simpa using this
  · have hold : ∀ w', w'.heap = w.heap → (Builtin.firstCells inf.size es.length (.slice (some ⟨b, 0, none⟩) es.length cap)).run P w' = .ok (flat vs es.length ei.cells.length).toArray w' := by
      rw [hsz]
      exact (src_slice (P := P) (tt := tt) (M := M) (w := w) (ad := ⟨b, 0, none⟩) hei rfl (len := es.length) (cap := cap) (vs := vs) rfl (fun i hi => (hall i hi).1) (fun i j u hi hu => by
        simp only [World.cell?, hheap, Nat.zero_add]
        simpa using (hall i hi).2.1 j u hu) (fun i hi => (hall i hi).2.2)).cells
    by_cases hroom : es.length + ds.length ≤ cap
    · have hfit : es.length * ei.cells.length + (flat vx ds.length ei.cells.length).length ≤ cur.size := by
        rw [flat_length, hcur, ← Nat.add_mul]; exact Nat.mul_le_mul_right _ hroom
      have hst := run_storeCells_fr P b (es.length * ei.cells.length) t0 fr (flat vx ds.length ei.cells.length) 0 cur w hheap hfr (by simpa using hfit) hxone
      rw [Nat.add_zero] at hst
      have hr := run_app_room (P := P) (ty := ty) (a := ⟨b, 0, none⟩) (n := es.length) (cap := cap) ht hxt hinf (hsrc.len w) hc0 hroom (by rw [add_spot _ rfl, hsz, Nat.zero_add]; exact hst)
      refine ⟨_, _, hr, ?_, grown_setRow w b _, .inl rfl, _, _, _, rfl⟩
      refine .inr ⟨b, cap, _, t0, fr, fun i => if i < es.length then vs i else vx (i - es.length), by rw [List.length_append], setRow_heap w b cur _ t0 fr hheap, by rw [List.length_append]; exact hroom, hcap, ?_, ?_, ?_⟩
      · simp only [List.size_toArray, List.length_append, List.length_take, List.length_drop, Array.length_toList]; omega
      · simp only [List.size_toArray, List.length_append, List.length_take, List.length_drop, Array.length_toList]; omega
      · intro i hi
        have hea := each_append (fun i hi => ⟨(hall i hi).1, (hall i hi).2.2⟩) hsrc.each i hi
        refine ⟨hea.1, ?_, hea.2⟩
        intro j u hu
        have hj := (Array.getElem?_eq_some_iff.1 hu).1
        rw [hea.1] at hj
        have hi' : i < es.length + ds.length := by simpa using hi
        rw [List.getElem?_toArray, seg_get _ _ _ _ (by rw [Array.length_toList]; exact hfit), flat_length]
        by_cases hlt : i < es.length
        · have h2 : (i + 1) * ei.cells.length ≤ es.length * ei.cells.length := Nat.mul_le_mul_right _ hlt
          rw [Nat.add_mul] at h2
          rw [if_neg (by omega), Array.getElem?_toList]
          simp only [hlt, if_true] at hu
          exact (hall i hlt).2.1 j u hu
        · simp only [hlt, if_false] at hu
          have hz2 := (hsrc.each (i - es.length) (by omega)).1
          have h2 : es.length * ei.cells.length ≤ i * ei.cells.length := Nat.mul_le_mul_right _ (Nat.le_of_not_lt hlt)
          have h3 : (i + 1) * ei.cells.length ≤ (es.length + ds.length) * ei.cells.length := Nat.mul_le_mul_right _ hi'
          rw [Nat.add_mul, Nat.add_mul] at h3
          rw [if_pos ⟨by omega, by omega⟩, show i * ei.cells.length + j - es.length * ei.cells.length = (i - es.length) * ei.cells.length + j by rw [Nat.sub_mul]; omega, flat_get (by omega) hj hz2]
          exact hu
    · have hr := run_app_grow (ty := ty) ht hxt hinf hz hbz (hsrc.len w) hcd (hold w.drew rfl) hroom (hfitL cap (by omega))
      refine ⟨_, _, hr, ?_, hgr _ _, .inr rfl, _, _, _, rfl⟩
      have := hnew (flat vs es.length ei.cells.length) vs rfl (fun i hi => ⟨(hall i hi).1, (hall i hi).2.2⟩) (grownCap w (es.length + ds.length) cap e) (hcapok cap).1 (hcapok cap).2
      rw [hsz] at *
      exact this

end
end Go.Proofs.YtjofkhdnidjleabDoor.DS
