/- Operations that leave the world alone. -/
import Derived.Test.YtjofkhdnidjleabDoorDsE
import Derived.Laws.Entries
set_option linter.unusedVariables false
set_option linter.unusedSimpArgs false
namespace Go.Proofs.YtjofkhdnidjleabDoor.DS

theorem add_spot (a : Addr) (h : a.spot = none) (n : Nat) : a.add n = ⟨a.block, a.off + n, none⟩ := by
  unfold Addr.add
  split
  · rename_i h0; subst h0; cases a; simp_all
  · simp

section
variable {P : Program}

theorem run_info {t : TypeId} {i : TypeInfo} (h : P.info? t = some i) (w : World) : (typeInfo t).run P w = .ok i w := by
  simp [typeInfo, h]
theorem run_size {t : TypeId} {i : TypeInfo} (h : P.info? t = some i) (w : World) : (sizeOf t).run P w = .ok i.size w := by
  simp [sizeOf, run_info h]
theorem run_isAgg {tt : TT} {t : TypeId} {ti : TI} (hT : TIok P tt t ti) (w : World) : (isAgg t).run P w = .ok (!ti.kt.single) w := by
  have hu := hT.under
  cases hk : ti.kt <;> rw [hk] at hu
  · simp [isAgg, run_underlying hu.1, KT.single]
  · simp [isAgg, run_underlying hu.1, KT.single]
  · simp [isAgg, run_underlying hu.1, KT.single]
  · simp [isAgg, run_underlying hu.1, KT.single]
  · obtain ⟨_, fs, hf, _⟩ := hu
    simp [isAgg, run_underlying hf, KT.single]
  · obtain ⟨⟨e, he⟩, _⟩ := hu
    simp [isAgg, run_underlying he, KT.single]

theorem run_loadVar_rep {tt : TT} (hT : TTok P tt) {M : Mem} {t : TypeId} {ti : TI} (ht : lk t tt = some ti) {u : Value} {d : D} (h : Rep tt M ti.kt u d) {ad : Addr} (hs : ad.spot = none) {w : World}
    (hc : ∀ j c, u.cells[j]? = some c → w.cell? ⟨ad.block, ad.off + j, none⟩ = some c) : (loadVar t ad).run P w = .ok u w := by
  have hi := hT t ti ht
  obtain ⟨i, hinfo, hsz, _⟩ := hi.info
  have hk := h.kt_cells hT ht
  cases hk' : ti.kt.single with
  | true =>
    simp only [loadVar, Sem.run_bind, run_isAgg hi, hk', Bool.not_true, Result.andThen_ok]
    have h1 := (h.cells_single hk').1
    have h2 := hc 0 u (by rw [h1]; rfl)
    have : ad = ⟨ad.block, ad.off + 0, none⟩ := by cases ad; simp_all
    rw [← this] at h2
    simp [h2]
  | false =>
    simp only [loadVar, Sem.run_bind, run_isAgg hi, hk', Bool.not_false, Result.andThen_ok, if_true]
    have : ∃ s, ti.kt = .agg s := by cases hh : ti.kt <;> simp_all [KT.single]
    obtain ⟨s, hs'⟩ := this
    rw [hs'] at h
    obtain ⟨ti', cs, rfl, _, ht', _, hl, _⟩ := h.inv_agg
    have e := hi.agg_self hs'
    subst e
    rw [ht] at ht'
    cases ht'
    simp only [run_size hinfo, Result.andThen_ok, hsz]
    rw [← hl, run_loadCells_list w ad cs (fun j v hj => by rw [add_spot _ hs]; exact hc j v (by simpa [Value.cells] using hj))]
    simp

theorem execOp_value {ρ : Operand → Value} {o : Oper} {s : Sem Value} {u : Value} {w w' : World} (h : execOp ρ o = (do pure (.value (← s)))) (hr : s.run P w = .ok u w') : (execOp ρ o).run P w = .ok (.value u) w' := by
  rw [h]; simp [hr]

end

section
variable {P : Program} {E : Env} (hT : TTok P E.tt) {st : St} {ops : List Oper} {L : List (Nat × Bool)} {a : Act} {w : World} {ι : Nat → Value} {M : Mem}
  (hev : ∀ x s, ev st ops L x = some s → SVRel E.tt ι M s (a.eval x))

/-- What an operation gives that leaves the world alone. -/
def Gives (P : Program) (tt : TT) (ι : Nat → Value) (M : Mem) (a : Act) (w : World) (o : Oper) (v : SV) : Prop :=
  ∃ u, (execOp a.eval o).run P w = .ok (.value u) w ∧ SVRel tt ι M v u

theorem rel_val {tt : TT} {k : KT} {d : D} {v : Value} (h : SVRel tt ι M (.val k d) v) : Rep tt M k v d := h

include hT hev in
theorem load_sound (hobj : ∀ id o, st.objs id = some o → ObjRel E.tt ι M w id o) (hmem : ∀ ad v, M ad = some v → w.cell? ad = some v) {o : Oper} {t : TypeId} {x : Operand} (ho : o.op = .load t x) {c : Bool} {v : SV}
    (h : loadO E st ops L t x = some (.sv c v)) : Gives P E.tt ι M a w o v ∧ c = true := by
  unfold loadO at h
  replace h := opt_some.1 h; obtain ⟨ti, ht, h⟩ := h
  replace h := opt_some.1 h; obtain ⟨s, hs, h⟩ := h
  have hsv := hev x s hs
  have hexec : execOp a.eval o = (do pure (.value (← Instr.loadAt t (a.eval x)))) := by simp [execOp, ho]
  cases s with
  | val k d => cases h
  | nil => cases h
  | own id => cases h
  | tup l => cases h
  | gone => cases h
  | selfn id => cases h
  | clo _ id => cases h
  | sag _ _ _ => cases h
  | eptr k d =>
    replace h := cond_some.1 h; obtain ⟨hk, h⟩ := h
    have hk := KT.eq_iff.1 hk
    injection h with h; injection h with h1 h2; subst h1 h2
    obtain ⟨ad, u, t', ti', hv, hsp, ht', hk', hr, hM⟩ := hsv
    refine ⟨⟨u, execOp_value hexec ?_, ?_⟩, rfl⟩
    · rw [hv]
      simp only [Instr.loadAt, Instr.sureAddr, pure_bind]
      exact run_loadVar_rep hT ht (by rw [← hk]; exact hr) hsp fun j c hj => hmem _ _ (hM j c hj)
    · show Rep E.tt M k u (canon k d)
      rw [hr.canon]; exact hr
  | bptr id u off k =>
    replace h := cond_some.1 h; obtain ⟨hk, h⟩ := h
    have hk := KT.eq_iff.1 hk
    obtain ⟨hka, b, hι, hv⟩ := hsv
    cases hob : st.objs id with
    | none => rw [hob] at h; cases h
    | some ob =>
      rw [hob] at h
      have hor := hobj id ob hob
      cases ob with
      | arr e es => cases h
      | box u' bc =>
        replace h := cond_some.1 h; obtain ⟨hu, h⟩ := h
        have hu := beq_iff.1 hu
        subst hu
        replace h := opt_some.1 h; obtain ⟨ui, hui, h⟩ := h
        replace h := opt_some.1 h; obtain ⟨v', hv', h⟩ := h
        injection h with h; injection h with h1 h2; subst h1 h2
        obtain ⟨ui', b', cs, hui', hι', hheap, hbc⟩ := hor
        rw [hui] at hui'; cases hui'
        rw [hι] at hι'; injection hι' with hι'; injection hι' with hι'; injection hι' with hb; subst hb
        have hcell : ∀ j, w.cell? ⟨b, j, none⟩ = cs[j]? := fun j => by simp [World.cell?, hheap]
        refine ⟨?_, rfl⟩
        cases bc with
        | whole d =>
          obtain ⟨_, hrep⟩ := hbc
          simp only [boxLoad] at hv'
          cases hc : (Nat.beq off 0 && KT.eq k (.agg u')) with
          | true =>
            rw [hc] at hv'
            injection hv' with hv'; subst hv'
            simp only [Bool.and_eq_true] at hc
            have ho0 := beq_iff.1 hc.1
            have hk2 := KT.eq_iff.1 hc.2
            subst ho0
            have hki : ui.kt = k := by
              obtain ⟨ui2, t', ti', hu2, ht', hk3, hcc, hll⟩ := hka
              rw [hk2] at hk3
              have := (hT _ _ ht').agg_self hk3
              subst this
              rw [hui] at ht'; cases ht'
              rw [hk3, hk2]
            refine ⟨.agg cs, execOp_value hexec ?_, ?_⟩
            · rw [hv]
              simp only [Instr.loadAt, Instr.sureAddr, pure_bind]
              exact run_loadVar_rep hT ht (by rw [← hk, ← hki]; exact hrep) rfl fun j c hj => by rw [hcell]; simpa [Value.cells] using hj
            · show Rep E.tt M k (.agg cs) d
              rw [← hki]; exact hrep
          | false =>
            rw [hc] at hv'
            injection hv' with hv'; subst hv'
            obtain ⟨pv, hpr, hpc⟩ := part_rep hT hui hrep hka
            refine ⟨pv, execOp_value hexec ?_, hpr⟩
            rw [hv]
            simp only [Instr.loadAt, Instr.sureAddr, pure_bind]
            exact run_loadVar_rep hT ht (by rw [← hk]; exact hpr) rfl fun j c hj => by rw [hcell]; exact hpc j c hj
        | cells l =>
          obtain ⟨hcs, hl, hrel⟩ := hbc
          obtain ⟨ui2, t', ti', hu2, ht', hk3, hcc, hll⟩ := hka
          rw [hui] at hu2; cases hu2
          have hsing : k.single = true → boxLoad E.tt u' ui (.cells l) off k = some v' → Gives P E.tt ι M a w o v' := by
            intro hks hv'
            have hti' : ti'.cells = [k] := by rw [← hk3]; exact (hT _ _ ht').cells_of_single (by rw [hk3]; exact hks)
            have hoff : off < l.length := by rw [hti'] at hll; simp at hll; omega
            have hc1 : cs[off]? = some (cs[off]'(by omega)) := Array.getElem?_eq_getElem (by omega)
            have hr0 := hrel off l[off] _ (List.getElem?_eq_getElem hoff) hc1
            have hrun : (Instr.loadAt t (a.eval x)).run P w = .ok (cs[off]'(by omega)) w := by
              rw [hv]
              simp only [Instr.loadAt, Instr.sureAddr, pure_bind, loadVar, Sem.run_bind, run_isAgg (hT t ti ht), Result.andThen_ok]
              rw [← hk, hks]
              simp [hcell, hc1]
            have hv2 : (match l[off]? with | some (.val k' d) => cond (KT.eq k k') (some (SV.val k d)) none | some (.tup _) => none | some (.sag _ _ _) => none | some s => some s | none => none) = some v' := by
              revert hv'; cases k <;> first | exact (fun h => h) | simp [KT.single] at hks
            rw [List.getElem?_eq_getElem hoff] at hv2
            refine ⟨_, execOp_value hexec hrun, ?_⟩
            cases hlo : l[off] with
            | val k' d =>
              rw [hlo] at hv2 hr0
              replace hv2 := cond_some.1 hv2; obtain ⟨he, hv2⟩ := hv2
              have he := KT.eq_iff.1 he
              subst he
              injection hv2 with hv2; subst hv2
              exact hr0
            | tup _ => rw [hlo] at hr0; exact hr0.elim
            | sag _ _ _ => rw [hlo] at hr0; exact hr0.elim
            | _ =>
              rw [hlo] at hv2 hr0
              injection hv2 with hv2; subst hv2
              exact hr0
          cases k with
          | agg s =>
            have e := (hT _ _ ht').agg_self hk3
            subst e
            simp only [boxLoad, ht'] at hv'
            simp only [Option.map_eq_some_iff] at hv'
            obtain ⟨ds, hds, rfl⟩ := hv'
            have key : ∀ (ks : List KT) (ss : List SV) (ds : List D) (cc : List Value), cellsD ks ss = some ds → cc.length = ss.length → (∀ (i : Nat) (s : SV) (c : Value), ss[i]? = some s → cc[i]? = some c → SVRel0 E.tt ι M s c) →
                ds.length = ks.length ∧ ss.length = ks.length ∧ ∀ (i : Nat) (h1 : i < ks.length) (h2 : i < cc.length) (h3 : i < ds.length), Rep E.tt M ks[i] cc[i] ds[i] := by
              intro ks
              induction ks with
              | nil =>
                intro ss ds cc h hl hr
                cases ss with
                | nil => simp [cellsD] at h; subst h; exact ⟨rfl, rfl, fun i h1 => absurd h1 (by simp)⟩
                | cons s ss => simp [cellsD] at h
              | cons k ks ih =>
                intro ss ds cc h hl hr
                cases ss with
                | nil => simp [cellsD] at h
                | cons s ss =>
                  cases cc with
                  | nil => simp at hl
                  | cons c cc =>
                    simp only [cellsD] at h
                    split at h
                    · rename_i d r hd hr2
                      injection h with h; subst h
                      obtain ⟨i1, i2, i3⟩ := ih ss r cc hr2 (by simpa using hl) (fun i s c hs hc => hr (i + 1) s c (by simpa using hs) (by simpa using hc))
                      refine ⟨by simp [i1], by simp [i2], ?_⟩
                      intro i h1 h2 h3
                      cases i with
                      | zero =>
                        have h0 := hr 0 s c rfl rfl
                        simp only [List.getElem_cons_zero]
                        cases s with
                        | val k' d' =>
                          replace hd := cond_some.1 hd; obtain ⟨he, hd⟩ := hd
                          have he := KT.eq_iff.1 he
                          subst he
                          injection hd with hd; subst hd
                          exact h0
                        | nil =>
                          cases k <;> simp [svD1] at hd
                          subst hd
                          have : c = .slice none 0 0 := h0
                          rw [this]
                          exact .nil _ _ _ (by omega)
                        | _ => simp [svD1] at hd
                      | succ i => simpa using i3 i (by simpa using h1) (by simpa using h2) (by simpa using h3)
                    · cases h
            obtain ⟨k1, k2, k3⟩ := key _ _ _ ((cs.toList.drop off).take ti'.cells.length) hds (by simp; omega) (fun i s c hs hc => by
              simp only [List.getElem?_take, List.getElem?_drop] at hs hc
              split at hs
              · rename_i hlt
                rw [if_pos hlt] at hc
                exact hrel (off + i) s c hs (by simpa using hc)
              · cases hs)
            have hrep : Rep E.tt M (.agg s) (.agg ((cs.toList.drop off).take ti'.cells.length).toArray) (.agg ds) :=
              .agg s ti' _ ds ht' hk3 (by simp; omega) k1 (fun i h1 h2 h3 => k3 i h1 h2 h3)
            refine ⟨_, execOp_value hexec ?_, hrep⟩
            rw [hv]
            simp only [Instr.loadAt, Instr.sureAddr, pure_bind]
            refine run_loadVar_rep hT ht (by rw [← hk]; exact hrep) rfl fun j c hj => ?_
            rw [hcell]
            simp only [Value.cells, List.getElem?_toArray, List.getElem?_take, List.getElem?_drop, Array.getElem?_toList] at hj
            split at hj
            · exact hj
            · cases hj
          | _ => exact hsing rfl hv'
  | optr id e i off k =>
    replace h := cond_some.1 h; obtain ⟨hk, h⟩ := h
    have hk := KT.eq_iff.1 hk
    obtain ⟨hka, b, n, cap, ei, hei, hι, hi0, hin, hv⟩ := hsv
    cases hob : st.objs id with
    | none => rw [hob] at h; cases h
    | some ob =>
      rw [hob] at h
      have hor := hobj id ob hob
      cases ob with
      | box u' bc => cases h
      | arr e' es =>
        replace h := cond_some.1 h; obtain ⟨hee, h⟩ := h
        have hee := beq_iff.1 hee
        subst hee
        replace h := opt_some.1 h; obtain ⟨ei', hei', h⟩ := h
        rw [hei] at hei'; cases hei'
        obtain ⟨ei', hei', hpos, harr⟩ := hor
        rw [hei] at hei'; cases hei'
        rcases harr with ⟨h1, _⟩ | ⟨b', cap', cur, tt', fr, vs, h1, hheap, hlen, hcap, hcur, hfr, hall⟩
        · rw [hι] at h1; cases h1
        · rw [hι] at h1
          injection h1 with h1 h2 h3
          injection h1 with h1
          injection h1 with h1
          subst h1
          have hin' : i.toNat < es.length := by omega
          obtain ⟨hz, hcells, hrep⟩ := hall i.toNat hin'
          have hget : es.getD i.toNat .no = es[i.toNat] := by simp [List.getD_eq_getElem?_getD, List.getElem?_eq_getElem hin']
          rw [hget] at h
          have hcell : ∀ j, w.cell? ⟨b, j, none⟩ = cur[j]? := fun j => by simp [World.cell?, hheap]
          cases hc : (Nat.beq off 0 && KT.eq k ei.kt) with
          | true =>
            rw [hc] at h
            injection h with h; injection h with h1 h2; subst h1 h2
            simp only [Bool.and_eq_true] at hc
            have ho0 := beq_iff.1 hc.1
            have hk2 := KT.eq_iff.1 hc.2
            subst ho0
            refine ⟨⟨vs i.toNat, execOp_value hexec ?_, ?_⟩, rfl⟩
            · rw [hv]
              simp only [Instr.loadAt, Instr.sureAddr, pure_bind]
              exact run_loadVar_rep hT ht (by rw [← hk, hk2]; exact hrep) rfl fun j c hj => by rw [hcell, Nat.add_zero]; exact hcells j c hj
            · show Rep E.tt M k _ (canon k _)
              rw [hk2, hrep.canon]; exact hrep
          | false =>
            rw [hc] at h
            injection h with h; injection h with h1 h2; subst h1 h2
            obtain ⟨pv, hpr, hpc⟩ := part_rep hT hei hrep hka
            refine ⟨⟨pv, execOp_value hexec ?_, hpr⟩, rfl⟩
            rw [hv]
            simp only [Instr.loadAt, Instr.sureAddr, pure_bind]
            exact run_loadVar_rep hT ht (by rw [← hk]; exact hpr) rfl fun j c hj => by rw [hcell, Nat.add_assoc]; exact hcells (off + j) c (hpc j c hj)

end
end Go.Proofs.YtjofkhdnidjleabDoor.DS
