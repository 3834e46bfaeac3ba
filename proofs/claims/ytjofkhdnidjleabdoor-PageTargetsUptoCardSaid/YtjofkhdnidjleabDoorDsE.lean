/- Parts of values; what slots and objects are in memory. -/
import Derived.Test.YtjofkhdnidjleabDoorDsD
set_option linter.unusedVariables false
set_option linter.unusedSimpArgs false
namespace Go.Proofs.YtjofkhdnidjleabDoor.DS

/-- At offset off of a value of type u lies a value of kind k. -/
def KindAt (tt : TT) (u : TypeId) (off : Nat) (k : KT) : Prop :=
  ∃ ui t' ti', lk u tt = some ui ∧ lk t' tt = some ti' ∧ ti'.kt = k ∧ (ui.cells.drop off).take ti'.cells.length = ti'.cells ∧ off + ti'.cells.length ≤ ui.cells.length

theorem TIok.cells_of_single {P : Program} {tt : TT} {t : TypeId} {ti : TI} (h : TIok P tt t ti) (hk : ti.kt.single = true) : ti.cells = [ti.kt] := by
  have hu := h.under
  cases hk' : ti.kt with
  | agg u => rw [hk'] at hk; simp [KT.single] at hk
  | bool => rw [hk'] at hu; exact hu.2
  | int k => rw [hk'] at hu; exact hu.2
  | str => rw [hk'] at hu; exact hu.2
  | slice e => rw [hk'] at hu; exact hu.2.1
  | ptr => rw [hk'] at hu; exact hu.2
theorem TIok.agg_self {P : Program} {tt : TT} {t u : TypeId} {ti : TI} (h : TIok P tt t ti) (hk : ti.kt = .agg u) : u = t := by
  have hu := h.under
  rw [hk] at hu
  exact hu.1

theorem KindAt.self {P : Program} {tt : TT} (hT : TTok P tt) {u : TypeId} {ui : TI} (h : lk u tt = some ui) : KindAt tt u 0 ui.kt :=
  ⟨ui, u, ui, h, h, rfl, by simp, by omega⟩

theorem KindAt.field {P : Program} {tt : TT} (hT : TTok P tt) {u t : TypeId} {off : Nat} {ti fi : TI} (h : KindAt tt u off ti.kt) (ht : lk t tt = some ti) {f : Nat} {ft : Nat × TypeId} (hf : ti.fields[f]? = some ft) (hi : lk ft.2 tt = some fi)
    (ha : ∃ s, ti.kt = .agg s) : KindAt tt u (off + ft.1) fi.kt := by
  obtain ⟨ui, t', ti', hu, ht', hk, hc, hl⟩ := h
  obtain ⟨s, hs⟩ := ha
  have e1 := (hT t ti ht).agg_self hs
  have e2 := (hT t' ti' ht').agg_self (hk.trans hs)
  subst e1
  subst e2
  rw [ht] at ht'
  cases ht'
  have hun := (hT _ _ ht).under
  rw [hs] at hun
  obtain ⟨_, fs, _, hfs, hall⟩ := hun
  rw [hfs] at hf
  simp only [List.getElem?_map, Option.map_eq_some_iff] at hf
  obtain ⟨fl, hfl, rfl⟩ := hf
  obtain ⟨fi', hfi', hcf, hlf⟩ := hall fl (List.mem_of_getElem? hfl)
  rw [hi] at hfi'
  cases hfi'
  refine ⟨ui, fl.type, fi, hu, hi, rfl, ?_, by simp only; omega⟩
  apply List.ext_getElem?
  intro j
  have := congrArg (fun l => l[j]?) hcf
  simp only [List.getElem?_take, List.getElem?_drop] at this ⊢
  rw [← this]
  split
  · rename_i hj
    have h2 := congrArg (fun l => l[fl.offset + j]?) hc
    simp only [List.getElem?_take, List.getElem?_drop] at h2
    rw [if_pos (by omega)] at h2
    rw [← h2]
    congr 1
    omega
  · rfl

/-- A part of a value. -/
theorem part_rep {P : Program} {tt : TT} (hT : TTok P tt) {M : Mem} {u : TypeId} {ui : TI} (hu : lk u tt = some ui) {v : Value} {d : D} (h : Rep tt M ui.kt v d) {off : Nat} {k : KT} (hk : KindAt tt u off k) :
    ∃ pv, Rep tt M k pv (partD tt d off k) ∧ ∀ j c, pv.cells[j]? = some c → v.cells[off + j]? = some c := by
  obtain ⟨ui', t', ti', hu', ht', hkt, hc, hl⟩ := hk
  rw [hu] at hu'
  cases hu'
  obtain ⟨hs, hds, hr⟩ := h.kt_cells hT hu
  have hcell : ∀ j, j < ti'.cells.length → ui.cells[off + j]? = ti'.cells[j]? := by
    intro j hj
    have := congrArg (fun l => l[j]?) hc
    simp only [List.getElem?_take, List.getElem?_drop] at this
    rw [if_pos hj] at this
    exact this
  cases k with
  | agg s =>
    have e := (hT t' ti' ht').agg_self hkt
    subst e
    refine ⟨.agg ((v.cells.toList.drop off).take ti'.cells.length).toArray, ?_, ?_⟩
    · have : partD tt d off (.agg s) = .agg ((d.cells.drop off).take ti'.cells.length) := by simp [partD, ht']
      rw [this]
      refine .agg s ti' _ _ ht' hkt ?_ ?_ ?_
      · simp; omega
      · simp; omega
      · intro i h1 h2 h3
        simp only [List.getElem_take, List.getElem_drop, Array.getElem_toList]
        have h4 := hcell i h1
        rw [List.getElem?_eq_getElem (by omega), List.getElem?_eq_getElem h1] at h4
        injection h4 with h4
        rw [← h4]
        exact hr (off + i) (by omega) (by omega) (by omega)
    · intro j c hj
      simp only [Value.cells, List.getElem?_toArray, List.getElem?_take, List.getElem?_drop, Array.getElem?_toList] at hj
      split at hj
      · exact hj
      · cases hj
  | bool | int _ | str | slice _ | ptr =>
    all_goals
      have hc1 := (hT t' ti' ht').cells_of_single (by rw [hkt]; rfl)
      have hlen : ti'.cells.length = 1 := by rw [hc1]; rfl
      have hoff : off < ui.cells.length := by omega
      have h4 := hcell 0 (by omega)
      rw [Nat.add_zero, List.getElem?_eq_getElem hoff, hc1] at h4
      simp only [List.getElem?_cons_zero] at h4
      injection h4 with h4
      have h5 := hr off hoff (by omega) (by omega)
      rw [h4, hkt] at h5
      refine ⟨v.cells[off]'(by omega), ?_, ?_⟩
      · have : D.cell d off = d.cells[off]'(by omega) := by simp [D.cell, List.getD_eq_getElem?_getD, List.getElem?_eq_getElem (show off < d.cells.length by omega)]
        simp only [partD, this]
        rw [h5.canon]
        exact h5
      · intro j c hj
        rw [(h5.cells_single rfl).1] at hj
        have : j = 0 := by
          rcases Nat.eq_zero_or_pos j with h | h
          · exact h
          · simp [show ¬ j = 0 by omega] at hj
        subst this
        simp at hj
        subst hj
        simp [Array.getElem?_eq_getElem (show off < v.cells.size by omega)]

/-- What a slot's value is. -/
def SVRel0 (tt : TT) (ι : Nat → Value) (M : Mem) : SV → Value → Prop
  | .val k d, v => Rep tt M k v d
  | .nil, v => v = .slice none 0 0
  | .eptr k d, v => ∃ ad u t ti, v = .pointer (some ad) ∧ ad.spot = none ∧ lk t tt = some ti ∧ ti.kt = k ∧ Rep tt M k u d ∧ ∀ j c, u.cells[j]? = some c → M ⟨ad.block, ad.off + j, none⟩ = some c
  | .bptr id u off k, v => KindAt tt u off k ∧ ∃ b, ι id = .pointer (some ⟨b, 0, none⟩) ∧ v = .pointer (some ⟨b, off, none⟩)
  | .optr id e i off k, v => KindAt tt e off k ∧ ∃ b n cap ei, lk e tt = some ei ∧ ι id = .slice (some ⟨b, 0, none⟩) n cap ∧ 0 ≤ i ∧ i < (n : Int) ∧ v = .pointer (some ⟨b, i.toNat * ei.cells.length + off, none⟩)
  | .own id, v => v = ι id ∧ ∃ a n c, ι id = .slice a n c
  | .tup _, _ => False
  | .sag _ _ _, _ => False
  | .selfn id, v => v = .pointer none ∨ ∃ b, ι id = .pointer (some ⟨b, 0, none⟩) ∧ v = .pointer (some ⟨b, 0, none⟩)
  | .clo f id, v => ∃ b, ι id = .pointer (some ⟨b, 0, none⟩) ∧ v = .func (.func f) #[] #[.pointer (some ⟨b, 0, none⟩)]
  | .gone, _ => True
def SVRel (tt : TT) (ι : Nat → Value) (M : Mem) : SV → Value → Prop
  | .tup l, v => ∃ vs : List Value, v = .tuple vs.toArray ∧ vs.length = l.length ∧ ∀ (i : Nat) (s : SV) (x : Value), l[i]? = some s → vs[i]? = some x → SVRel0 tt ι M s x
  | .sag t ks l, v => ∃ ti, ∃ vs : List Value, lk t tt = some ti ∧ ti.kt = .agg t ∧ ks = ti.cells ∧ v = .agg vs.toArray ∧ vs.length = l.length ∧ l.length = ks.length ∧ ∀ (i : Nat) (s : SV) (x : Value), l[i]? = some s → vs[i]? = some x → SVRel0 tt ι M s x
  | s, v => SVRel0 tt ι M s v

theorem SVRel.of0 {tt : TT} {ι : Nat → Value} {M : Mem} {s : SV} {v : Value} (h : SVRel0 tt ι M s v) : SVRel tt ι M s v := by
  cases s with
  | tup l => exact h.elim
  | sag t ks l => exact h.elim
  | _ => exact h

/-- What an object is in memory. -/
def ArrRel (tt : TT) (M : Mem) (w : World) (ei : TI) (h : Value) (es : List D) : Prop :=
  (h = .slice none 0 0 ∧ es = []) ∨
  ∃ b cap cur t fr, ∃ vs : Nat → Value, h = .slice (some ⟨b, 0, none⟩) es.length cap ∧ w.heap[b]? = some (.cells cur t fr) ∧ es.length ≤ cap ∧ cap ≤ maxLen ∧ cur.size = cap * ei.cells.length ∧ (cur.size ≤ fr.1 ∨ fr.2 ≤ fr.1) ∧
    ∀ i (hi : i < es.length), (vs i).cells.size = ei.cells.length ∧ (∀ j u, (vs i).cells[j]? = some u → cur[i * ei.cells.length + j]? = some u) ∧ Rep tt M ei.kt (vs i) es[i]
def BCRel (tt : TT) (ι : Nat → Value) (M : Mem) (ui : TI) (cs : Array Value) : BC → Prop
  | .whole d => (∃ u, ui.kt = .agg u) ∧ Rep tt M ui.kt (.agg cs) d
  | .cells l => cs.size = ui.cells.length ∧ l.length = ui.cells.length ∧ ∀ (i : Nat) (s : SV) (c : Value), l[i]? = some s → cs[i]? = some c → SVRel0 tt ι M s c
def ObjRel (tt : TT) (ι : Nat → Value) (M : Mem) (w : World) (id : Nat) : Obj → Prop
  | .arr e es => ∃ ei, lk e tt = some ei ∧ 0 < ei.cells.length ∧ ArrRel tt M w ei (ι id) es
  | .box t c => ∃ ti b cs, lk t tt = some ti ∧ ι id = .pointer (some ⟨b, 0, none⟩) ∧ w.heap[b]? = some (.cells cs t (0, 0)) ∧ BCRel tt ι M ti cs c

def blockOf : Value → Option Nat
  | .pointer (some a) => some a.block
  | .slice (some a) _ _ => some a.block
  | _ => none

end Go.Proofs.YtjofkhdnidjleabDoor.DS
