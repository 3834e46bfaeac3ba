/- The remaining world-preserving operations, and all of them together. -/
import Derived.Test.YtjofkhdnidjleabDoorDsH
set_option linter.unusedVariables false
set_option linter.unusedSimpArgs false
namespace Go.Proofs.YtjofkhdnidjleabDoor.DS
open Go.RowKit

section
variable {P : Program} {E : Env} (hT : TTok P E.tt) {draw : Bool} {st : St} {ops : List Oper} {L : List (Nat × Bool)} {a : Act} {w : World} {ι : Nat → Value} {M : Mem}
  (hev : ∀ x s, ev st ops L x = some s → SVRel E.tt ι M s (a.eval x))
  (hevp : ∀ tc b x s, a.eval (.tmp tc) = .bool b → evPick st ops L tc b x = some s → SVRel E.tt ι M s (a.eval x))
  (hobj : ∀ id o, st.objs id = some o → ObjRel E.tt ι M w id o)
  (hmem : ∀ ad v, M ad = some v → w.cell? ad = some v)

theorem gives_pure {o : Oper} {v : SV} {u : Value} (h : execOp a.eval o = pure (.value u)) (hr : SVRel E.tt ι M v u) : Gives P E.tt ι M a w o v :=
  ⟨u, by rw [h]; simp, hr⟩

include hT hev in
theorem move_sound {o : Oper} {x : Operand} {t : TypeId} (ho : execOp a.eval o = pure (.value (a.eval x))) {c : Bool} {v : SV} (h : moveO E st ops L x t = some (.sv c v)) : Gives P E.tt ι M a w o v ∧ c = true := by
  unfold moveO at h
  split at h
  · rename_i cs
    replace h := opt_some.1 h
    obtain ⟨ti, ht, h⟩ := h
    split at h
    · rename_i u hk
      replace h := opt_some.1 h
      obtain ⟨ds, hds, h⟩ := h
      injection h with h; injection h with h1 h2; subst h1 h2
      refine ⟨gives_pure ho ?_, rfl⟩
      have e := (hT t ti ht).agg_self hk
      subst e
      have key : ∀ (ks : List KT) (vs : List Value) (ds : List D), constAgg ks vs = some ds → vs.length = ks.length ∧ ds.length = ks.length ∧ ∀ i (h1 : i < ks.length) (h2 : i < vs.length) (h3 : i < ds.length), Rep E.tt M ks[i] vs[i] ds[i] := by
        intro ks
        induction ks with
        | nil => intro vs ds h; cases vs with
          | nil => simp [constAgg] at h; subst h; exact ⟨rfl, rfl, fun i h1 => absurd h1 (by simp)⟩
          | cons => simp [constAgg] at h
        | cons k ks ih => intro vs ds h; cases vs with
          | nil => simp [constAgg] at h
          | cons v vs =>
            simp only [constAgg] at h
            replace h := opt_some.1 h
            obtain ⟨s, hs, h⟩ := h
            replace h := opt_some.1 h
            obtain ⟨d, hd, h⟩ := h
            replace h := opt_some.1 h
            obtain ⟨r, hr, h⟩ := h
            injection h with h; subst h
            obtain ⟨i1, i2, i3⟩ := ih vs r hr
            refine ⟨by simp [i1], by simp [i2], ?_⟩
            intro i h1 h2 h3
            cases i with
            | zero => exact svD_rel (ι := ι) hd (SVRel.of0 (const_rel hs))
            | succ i => simpa using i3 i (by simpa using h1) (by simpa using h2) (by simpa using h3)
      obtain ⟨k1, k2, k3⟩ := key _ _ _ hds
      show Rep E.tt M ti.kt (.agg cs) (.agg ds)
      rw [hk]
      have := Rep.agg u ti cs.toList ds ht hk k1 k2 (M := M) k3
      simpa using this
    · cases h
  · replace h := opt_some.1 h
    obtain ⟨s, hs, h⟩ := h
    injection h with h; injection h with h1 h2; subst h1 h2
    exact ⟨gives_pure ho (hev x s hs), rfl⟩

theorem pickD_rep {tt : TT} {k : KT} {b : Bool} {da db : D} {va vb : Value} (ha : b = true → Rep tt M k va da) (hb : b = false → Rep tt M k vb db) : Rep tt M k (if b then va else vb) (pickD k b da db) := by
  cases b with
  | true =>
    have h := ha rfl
    have : pickD k true da db = canon k da := by cases k <;> rfl
    rw [this, h.canon]; exact h
  | false =>
    have h := hb rfl
    have : pickD k false da db = canon k db := by cases k <;> rfl
    rw [this, h.canon]; exact h

include hev hevp in
theorem pick_sound {o : Oper} {x y z : Operand} (ho : o.op = .pick x y z) {c : Bool} {v : SV} (h : pickO st ops L x y z = some (.sv c v)) : Gives P E.tt ι M a w o v ∧ c = true := by
  unfold pickO at h
  replace h := opt_some.1 h
  obtain ⟨tc, htc, h⟩ := h
  replace h := opt_some.1 h
  obtain ⟨sc, hsc, h⟩ := h
  have hrc := hev x sc hsc
  cases x with
  | tmp t =>
    simp only [opdTmp, Option.some.injEq] at htc
    subst htc
    split at h
    · rename_i dc
      obtain ⟨hb, hd⟩ := Rep.inv_bool hrc
      split at h
      · rename_i ka da kb db hya hzb
        replace h := cond_some.1 h
        obtain ⟨he, h⟩ := h
        have he := KT.eq_iff.1 he
        subst he
        have hy : dc.toBool = true → Rep E.tt M ka (a.eval y) da := fun h1 => hevp t true y _ (by rw [hb, h1]) hya
        have hz : dc.toBool = false → Rep E.tt M ka (a.eval z) db := fun h1 => hevp t false z _ (by rw [hb, h1]) hzb
        have hrun : (execOp a.eval o).run P w = .ok (.value (if dc.toBool then a.eval y else a.eval z)) w := by
          simp [execOp, ho, asBool, hb]
        have hgen : Rep E.tt M ka (if dc.toBool then a.eval y else a.eval z) (pickD ka dc.toBool da db) := pickD_rep hy hz
        split at h
        · cases h1 : sameTmp t y with
          | true =>
            rw [h1] at h
            injection h with h; injection h with h2 h3; subst h2 h3
            refine ⟨⟨_, hrun, ?_⟩, rfl⟩
            have e : a.eval y = .bool dc.toBool := by
              cases y with
              | tmp t' => simp only [sameTmp] at h1; rw [beq_iff.1 h1]; exact hb
              | _ => simp [sameTmp] at h1
            show Rep E.tt M .bool _ (.bool (dc.toBool || db.toBool))
            cases hd2 : dc.toBool with
            | true => simp only [if_true]; rw [e, hd2]; exact .bool _
            | false =>
              simp only [Bool.false_or]
              obtain ⟨q1, q2⟩ := (hz hd2).inv_bool
              rw [if_neg (by simp), q1]; exact .bool _
          | false =>
            rw [h1] at h
            cases h2 : sameTmp t z with
            | true =>
              rw [h2] at h
              injection h with h; injection h with h2 h3; subst h2 h3
              refine ⟨⟨_, hrun, ?_⟩, rfl⟩
              have e : a.eval z = .bool dc.toBool := by
                cases z with
                | tmp t' => simp only [sameTmp] at h2; rw [beq_iff.1 h2]; exact hb
                | _ => simp [sameTmp] at h2
              show Rep E.tt M .bool _ (.bool (dc.toBool && da.toBool))
              cases hd2 : dc.toBool with
              | true =>
                simp only [if_true, Bool.true_and]
                obtain ⟨q1, q2⟩ := (hy hd2).inv_bool
                rw [q1]; exact .bool _
              | false => rw [if_neg (by simp), e, hd2]; exact .bool _
            | false =>
              rw [h2] at h
              injection h with h; injection h with h2 h3; subst h2 h3
              exact ⟨⟨_, hrun, hgen⟩, rfl⟩
        · injection h with h; injection h with h2 h3; subst h2 h3
          exact ⟨⟨_, hrun, hgen⟩, rfl⟩
      · cases h
    · cases h
  | _ => simp [opdTmp] at htc

include hT hev in
theorem fieldAddr_sound {o : Oper} {t : TypeId} {x : Operand} {f : Nat} (ho : o.op = .fieldAddr t x f) {c : Bool} {v : SV} (h : fieldAddrO E st ops L t x f = some (.sv c v)) : Gives P E.tt ι M a w o v ∧ c = true := by
  unfold fieldAddrO at h
  replace h := opt_some.1 h
  obtain ⟨ti, ht, h⟩ := h
  replace h := opt_some.1 h
  obtain ⟨ft, hft, h⟩ := h
  replace h := opt_some.1 h
  obtain ⟨fi, hfi, h⟩ := h
  replace h := cond_some.1 h
  obtain ⟨hn, h⟩ := h
  simp only [Bool.and_eq_true, Bool.not_eq_true'] at hn
  replace h := opt_some.1 h
  obtain ⟨s, hs, h⟩ := h
  have hsv := hev x s hs
  have hi := hT t ti ht
  have hu := hi.under
  have hpos : 0 < fi.cells.length := by cases hc : fi.cells with
    | nil => rw [hc] at hn; simp [isNilL] at hn
    | cons => simp
  have hagg : ∃ s, ti.kt = .agg s := by
    have := hn.2
    cases hk : ti.kt <;> rw [hk] at this <;> first | exact ⟨_, rfl⟩ | simp [isAggK] at this
  have hrunat : ∀ (b off : Nat), (Instr.fieldAt t (.pointer (some ⟨b, off, none⟩)) f).run P w = .ok (.pointer (some ⟨b, off + ft.1, none⟩)) w := by
    obtain ⟨s, hk⟩ := hagg
    intro b off
    rw [hk] at hu
    obtain ⟨rfl, fs, hun, hfs, _⟩ := hu
    rw [hfs, List.getElem?_map, Option.map_eq_some_iff] at hft
    obtain ⟨fl, hfl, rfl⟩ := hft
    rw [Array.getElem?_toList] at hfl
    obtain ⟨fI, hfI, hsz, _⟩ := (hT _ _ hfi).info
    simp only [Instr.fieldAt, Sem.run_bind, run_underlying hun, Result.andThen_ok, hfl, Instr.sureAddr, Sem.run_pure, fieldPlace, run_size hfI, hsz]
    rw [if_neg (by omega)]
    simp [add_spot]
  have hexec : execOp a.eval o = (do pure (.value (← Instr.fieldAt t (a.eval x) f))) := by simp [execOp, ho]
  cases s with
  | eptr k d =>
    replace h := cond_some.1 h
    obtain ⟨hk, h⟩ := h
    have hk := KT.eq_iff.1 hk
    injection h with h; injection h with h1 h2; subst h1 h2
    obtain ⟨ad, u, t', ti', hv, hsp, ht', hk', hr, hM⟩ := hsv
    have hka : KindAt E.tt t ft.1 fi.kt := by simpa using (KindAt.self hT ht).field hT ht hft hfi hagg
    obtain ⟨pv, hpr, hpc⟩ := part_rep hT ht (by rw [← hk]; exact hr) hka
    refine ⟨⟨.pointer (some ⟨ad.block, ad.off + ft.1, none⟩), execOp_value hexec ?_, ?_⟩, rfl⟩
    · rw [hv]
      have e : ad = ⟨ad.block, ad.off, none⟩ := by cases ad; simp_all
      rw [e]
      exact hrunat _ _
    · exact ⟨_, pv, ft.2, fi, rfl, rfl, hfi, rfl, hpr, fun j c hj => by simp only; rw [Nat.add_assoc]; exact hM _ _ (hpc j c hj)⟩
  | bptr id u off k =>
    replace h := cond_some.1 h
    obtain ⟨hk, h⟩ := h
    have hk := KT.eq_iff.1 hk
    injection h with h; injection h with h1 h2; subst h1 h2
    obtain ⟨hka, b, hι, hv⟩ := hsv
    rw [hk] at hka
    exact ⟨⟨_, execOp_value hexec (by rw [hv]; exact hrunat _ _), hka.field hT ht hft hfi hagg, b, hι, rfl⟩, rfl⟩
  | optr id e i off k =>
    replace h := cond_some.1 h
    obtain ⟨hk, h⟩ := h
    have hk := KT.eq_iff.1 hk
    injection h with h; injection h with h1 h2; subst h1 h2
    obtain ⟨hka, b, n, cap, ei, hei, hι, hi0, hin, hv⟩ := hsv
    rw [hk] at hka
    exact ⟨⟨_, execOp_value hexec (by rw [hv]; exact hrunat _ _), hka.field hT ht hft hfi hagg, b, n, cap, ei, hei, hι, hi0, hin, by rw [Nat.add_assoc]⟩, rfl⟩
  | _ => simp at h

include hT hev hobj in
theorem indexAddr_sound {o : Oper} {t : TypeId} {x y : Operand} (ho : o.op = .indexAddr t x y) {c : Bool} {v : SV} (h : indexAddrO E st ops L t x y = some (.sv c v)) (hc : c = true) : Gives P E.tt ι M a w o v := by
  subst hc
  unfold indexAddrO at h
  replace h := opt_some.1 h
  obtain ⟨ti, ht, h⟩ := h
  replace h := opt_some.1 h
  obtain ⟨s, hs, h⟩ := h
  replace h := opt_some.1 h
  obtain ⟨si, hsi, h⟩ := h
  have hi := hT t ti ht
  have hu := hi.under
  have hsv := hev x s hs
  have hiv := hev y si hsi
  have hexec : execOp a.eval o = (do pure (.value (← Instr.indexAt t (a.eval x) (a.eval y)))) := by simp [execOp, ho]
  split at h
  · rename_i e e' d q di hk
    rw [hk] at hu
    replace h := cond_some.1 h
    obtain ⟨he, h⟩ := h
    have he := beq_iff.1 he
    subst he
    replace h := opt_some.1 h
    obtain ⟨ei, hei, h⟩ := h
    injection h with h; injection h with h1 h2; subst h2
    obtain ⟨hb, _, _⟩ := Rep.inv_int hiv
    obtain ⟨A, cap, hv, hd, hlc, hcap, hall⟩ := Rep.inv_slice hsv
    simp only [inb, Bool.and_eq_true, decide_eq_true_eq] at h1
    obtain ⟨ei', ad, vs, rfl, hei', hsp, hz, hM, hr⟩ := hall (by omega)
    rw [hei] at hei'; cases hei'
    have hlt : di.toInt.toNat < d.toList.length := by omega
    obtain ⟨eI, heI, hsz, _⟩ := (hT _ _ hei).info
    refine ⟨.pointer (some ⟨ad.block, ad.off + di.toInt.toNat * ei.cells.length, none⟩), execOp_value hexec ?_, ?_⟩
    · rw [hv, hb]
      simp only [Instr.indexAt, asIntOf, Sem.run_bind, Sem.run_pure, Result.andThen_ok, run_underlying hu.1, Sem.run_ite]
      rw [if_pos ⟨h1.1, by exact_mod_cast h1.2⟩]
      simp [run_size heI, hsz, add_spot _ hsp]
    · refine ⟨_, vs di.toInt.toNat, e, ei, rfl, rfl, hei, rfl, ?_, ?_⟩
      · have : d.toList.getD di.toInt.toNat .no = d.toList[di.toInt.toNat] := by simp [List.getD_eq_getElem?_getD, List.getElem?_eq_getElem hlt]
        rw [this]; exact hr _ hlt
      · intro j c hj
        simp only
        rw [Nat.add_assoc]
        exact hM _ _ _ hlt hj
  · rename_i e id q di hk
    rw [hk] at hu
    cases hob : st.objs id with
    | none => rw [hob] at h; cases h
    | some ob =>
      rw [hob] at h
      have hor := hobj id ob hob
      cases ob with
      | box u' bc => cases h
      | arr e' es =>
        replace h := cond_some.1 h
        obtain ⟨he, h⟩ := h
        have he := beq_iff.1 he
        subst he
        replace h := opt_some.1 h
        obtain ⟨ei, hei, h⟩ := h
        injection h with h; injection h with h1 h2; subst h2
        obtain ⟨hb, _, _⟩ := Rep.inv_int hiv
        simp only [inb, Bool.and_eq_true, decide_eq_true_eq] at h1
        obtain ⟨ei', hei', hpos, harr⟩ := hor
        rw [hei] at hei'; cases hei'
        have hv : a.eval x = ι id := hsv.1
        rcases harr with ⟨_, he0⟩ | ⟨b, cap, cur, tt', fr, vs, hι, hheap, hlen, hcap, hcur, hfr, hall⟩
        · subst he0; simp at h1; omega
        · obtain ⟨eI, heI, hsz, _⟩ := (hT _ _ hei).info
          refine ⟨.pointer (some ⟨b, di.toInt.toNat * ei.cells.length, none⟩), execOp_value hexec ?_, ?_⟩
          · rw [hv, hι, hb]
            simp only [Instr.indexAt, asIntOf, Sem.run_bind, Sem.run_pure, Result.andThen_ok, run_underlying hu.1, Sem.run_ite]
            rw [if_pos ⟨h1.1, by exact_mod_cast h1.2⟩]
            simp [run_size heI, hsz, add_spot]
          · exact ⟨KindAt.self hT hei, b, es.length, cap, ei, hei, hι, h1.1, h1.2, rfl⟩
  · cases h

include hT hev in
theorem index_sound {o : Oper} {t : TypeId} {x y : Operand} (ho : o.op = .index t x y) {c : Bool} {v : SV} (h : indexO E st ops L t x y = some (.sv c v)) (hc : c = true) : Gives P E.tt ι M a w o v := by
  subst hc
  unfold indexO at h
  replace h := opt_some.1 h
  obtain ⟨ti, ht, h⟩ := h
  replace h := opt_some.1 h
  obtain ⟨s, hs, h⟩ := h
  replace h := opt_some.1 h
  obtain ⟨si, hsi, h⟩ := h
  have hu := (hT t ti ht).under
  have hsv := hev x s hs
  have hiv := hev y si hsi
  have hexec : execOp a.eval o = (do pure (.value (← Instr.index t (a.eval x) (a.eval y)))) := by simp [execOp, ho]
  split at h
  · rename_i d q di hk
    rw [hk] at hu
    injection h with h; injection h with h1 h2; subst h2
    obtain ⟨hb, _, _⟩ := Rep.inv_int hiv
    obtain ⟨s, hv, hd, hsz⟩ := Rep.inv_str hsv
    subst hd
    simp only [inb, Bool.and_eq_true, decide_eq_true_eq, D.toStr, Array.length_toList] at h1
    have h11 : di.toInt < (s.data.size : Int) := of_decide_eq_true h1.2
    have hlt : di.toInt.toNat < s.size := by have : s.data.size = s.size := rfl; have := h1.1; omega
    refine ⟨.int .u8 ((s[di.toInt.toNat]'hlt).toNat : Int), execOp_value hexec ?_, ?_⟩
    · rw [hv, hb]
      simp only [Instr.index, asIntOf, Sem.run_bind, Sem.run_pure, Result.andThen_ok, run_underlying hu.1]
      rw [if_pos h1.1]
      simp [hlt]
    · have e : (D.str s.data.toList).toStr.getD di.toInt.toNat 0 = s[di.toInt.toNat]'hlt := by
        simp only [D.toStr, List.getD_eq_getElem?_getD, Array.getElem?_toList]
        rw [Array.getElem?_eq_getElem hlt]; rfl
      rw [e]
      refine .int _ _ ?_
      have := (s[di.toInt.toNat]'hlt).toNat_lt
      simp only [Lit.wf, IntKind.min, IntKind.max, IntKind.signed, IntKind.bits, Bool.and_eq_true, decide_eq_true_eq]
      simp
      omega
  · cases h

include hT hev hobj in
theorem len_sound {o : Oper} {cl : Call} {t : TypeId} {x : Operand} (ho : o.op = .call cl) (hcl : cl.callee = .builtin .len) (hx : cl.args.toList = [x]) (ht' : cl.argTypes.toList = [t]) {c : Bool} {v : SV} (h : lenO E st ops L t x = some (.sv c v)) : Gives P E.tt ι M a w o v ∧ c = true := by
  unfold lenO at h
  replace h := opt_some.1 h
  obtain ⟨ti, ht, h⟩ := h
  replace h := opt_some.1 h
  obtain ⟨s, hs, h⟩ := h
  have hu := (hT t ti ht).under
  have hsv := hev x s hs
  have hx' : cl.args = #[x] := by rw [← Array.toList_inj]; exact hx
  have ht'' : cl.argTypes = #[t] := by rw [← Array.toList_inj]; exact ht'
  have hexec : ∀ n : Nat, (Builtin.len_ #[t] o.type #[a.eval x]).run P w = .ok (.int .i64 (n : Int)) w → (execOp a.eval o).run P w = .ok (.value (.int .i64 (n : Int))) w := by
    intro n hn
    simp [execOp, ho, resolve, hcl, invoke, builtin, hx', ht'', hn]
  have hwf : ∀ n : Nat, n ≤ maxLen → (Lit.int .i64 (n : Int)).wf = true := by
    intro n hn
    simp only [Lit.wf, IntKind.min, IntKind.max, IntKind.signed, IntKind.bits, Bool.and_eq_true, decide_eq_true_eq]
    unfold maxLen at hn
    simp; omega
  split at h
  · rename_i d hk
    rw [hk] at hu
    injection h with h; injection h with h1 h2; subst h1 h2
    obtain ⟨s, hv, hd, hsz⟩ := Rep.inv_str hsv
    subst hd
    have e : (D.str s.data.toList).toStr.length = s.size := by simp only [D.toStr, Array.length_toList]; rfl
    rw [e]
    exact ⟨⟨_, hexec _ (by rw [hv]; simp [Builtin.len_, run_underlying hu.1, goInt]), .int _ _ (hwf _ hsz)⟩, rfl⟩
  · rename_i e e' d hk
    rw [hk] at hu
    injection h with h; injection h with h1 h2; subst h1 h2
    obtain ⟨A, cap, hv, hd, hlc, hcap, _⟩ := Rep.inv_slice hsv
    exact ⟨⟨_, hexec _ (by rw [hv]; simp [Builtin.len_, run_underlying hu.1, goInt]), .int _ _ (hwf _ (by omega))⟩, rfl⟩
  · rename_i e hk
    rw [hk] at hu
    injection h with h; injection h with h1 h2; subst h1 h2
    have hv : a.eval x = .slice none 0 0 := hsv
    exact ⟨⟨_, hexec 0 (by rw [hv]; simp [Builtin.len_, run_underlying hu.1, goInt]), .int _ _ (hwf 0 (by omega))⟩, rfl⟩
  · rename_i e id hk
    rw [hk] at hu
    cases hob : st.objs id with
    | none => rw [hob] at h; cases h
    | some ob =>
      rw [hob] at h
      have hor := hobj id ob hob
      cases ob with
      | box u' bc => cases h
      | arr e' es =>
        injection h with h; injection h with h1 h2; subst h1 h2
        obtain ⟨ei, hei, hpos, harr⟩ := hor
        have hv : a.eval x = ι id := hsv.1
        rcases harr with ⟨hι, he0⟩ | ⟨b, cap, cur, tt', fr, vs, hι, hheap, hlen, hcap, hcur, hfr, hall⟩
        · subst he0
          exact ⟨⟨_, hexec 0 (by rw [hv, hι]; simp [Builtin.len_, run_underlying hu.1, goInt]), .int _ _ (hwf 0 (by omega))⟩, rfl⟩
        · exact ⟨⟨_, hexec es.length (by rw [hv, hι]; simp [Builtin.len_, run_underlying hu.1, goInt]), .int _ _ (hwf _ (by omega))⟩, rfl⟩
  · cases h

include hT hev in
theorem field_sound {o : Oper} {t : TypeId} {x : Operand} {f : Nat} (ho : o.op = .field t x f) {c : Bool} {v : SV} (h : fieldO E st ops L t x f = some (.sv c v)) : Gives P E.tt ι M a w o v := by
  unfold fieldO at h
  obtain ⟨ti, ht, h⟩ := opt_some.1 h
  obtain ⟨ft, hft, h⟩ := opt_some.1 h
  obtain ⟨fi, hfi, h⟩ := opt_some.1 h
  obtain ⟨hn, h⟩ := cond_some.1 h
  simp only [Bool.and_eq_true, Bool.not_eq_true'] at hn
  obtain ⟨s, hs, h⟩ := opt_some.1 h
  have hsv := hev x s hs
  have hu := (hT t ti ht).under
  have hpos : 0 < fi.cells.length := by cases hc : fi.cells with
    | nil => rw [hc] at hn; simp [isNilL] at hn
    | cons => simp
  have hagg : ∃ s, ti.kt = .agg s := by
    have := hn.2
    cases hk : ti.kt <;> rw [hk] at this <;> first | exact ⟨_, rfl⟩ | simp [isAggK] at this
  cases s with
  | val k d =>
    replace h := cond_some.1 h
    obtain ⟨hk, h⟩ := h
    have hk := KT.eq_iff.1 hk
    injection h with h; injection h with h1 h2; subst h1 h2
    have hr : Rep E.tt M ti.kt (a.eval x) d := by rw [← hk]; exact hsv
    have hka : KindAt E.tt t ft.1 fi.kt := by simpa using (KindAt.self hT ht).field hT ht hft hfi hagg
    obtain ⟨pv, hpr, hpc⟩ := part_rep hT ht hr hka
    have hfs := hpr.kt_cells hT hfi
    refine ⟨pv, execOp_value (s := Instr.field t (a.eval x) f) (by simp [execOp, ho]) ?_, hpr⟩
    obtain ⟨s, hks⟩ := hagg
    rw [hks] at hu hr
    obtain ⟨rfl, fs, hun, hfl, _⟩ := hu
    rw [hfl, List.getElem?_map, Option.map_eq_some_iff] at hft
    obtain ⟨fl, hfl2, rfl⟩ := hft
    rw [Array.getElem?_toList] at hfl2
    obtain ⟨fI, hfI, hsz, _⟩ := (hT _ _ hfi).info
    obtain ⟨ti', cs, hv, _, _, _, _, _, _⟩ := Rep.inv_agg hr
    rw [hv] at hpc ⊢
    have hcs : (Value.agg cs.toArray).cells = cs.toArray := rfl
    rw [hcs] at hpc
    simp only [Instr.field, Sem.run_bind, run_underlying hun, Result.andThen_ok, hfl2, asAgg, Sem.run_pure, part, run_isAgg (hT _ _ hfi), run_size hfI, hsz]
    cases hsg : fi.kt.single with
    | true =>
      have h1 := (hpr.cells_single hsg).1
      have h2 := hpc 0 pv (by rw [h1]; rfl)
      rw [Nat.add_zero] at h2
      simp [h2]
    | false =>
      cases hkf : fi.kt with
      | agg s2 =>
        rw [hkf] at hpr
        obtain ⟨ti2, cs2, hpv, _, ht2, _, hl2, _, _⟩ := Rep.inv_agg hpr
        have e2 := (hT _ _ hfi).agg_self hkf
        subst e2
        rw [hfi] at ht2; injection ht2 with ht2; subst ht2
        subst hpv
        have hpc2 : ∀ j c, cs2.toArray[j]? = some c → cs.toArray[fl.offset + j]? = some c := fun j c hj => hpc j c hj
        have e : cs.toArray.extract fl.offset (fl.offset + fi.cells.length) = cs2.toArray := by
          apply Array.ext_getElem?
          intro j
          by_cases hj : j < cs2.length
          · have hx := List.getElem?_eq_getElem hj
            have hy := hpc2 j cs2[j] (by rw [List.getElem?_toArray]; exact hx)
            rw [Array.getElem?_extract]
            simp only [List.getElem?_toArray] at hy ⊢
            rw [hx]
            have : fl.offset + j < cs.length := by
              refine Classical.byContradiction fun hn => ?_
              rw [List.getElem?_eq_none (by omega)] at hy; cases hy
            rw [if_pos (by simp; omega), hy]
          · rw [Array.getElem?_extract, if_neg (by simp; omega), List.getElem?_toArray, List.getElem?_eq_none (by omega)]
        simp only [Bool.not_false, if_true, Sem.run_bind, run_size (show P.info? fl.type = some fI from hfI), Result.andThen_ok, hsz, Sem.run_pure, e]
      | _ => rw [hkf] at hsg; simp [KT.single] at hsg
  | _ => cases h
theorem fieldO_ob {t : TypeId} {x : Operand} {f : Nat} {c : Bool} {id : Nat} {ob : Obj} {scr : Bool} {v : SV} (h : fieldO E st ops L t x f = some (.ob c id ob scr v)) : False := by
  unfold fieldO at h
  obtain ⟨ti, ht, h⟩ := opt_some.1 h
  obtain ⟨ft, hft, h⟩ := opt_some.1 h
  obtain ⟨fi, hfi, h⟩ := opt_some.1 h
  obtain ⟨hn, h⟩ := cond_some.1 h
  obtain ⟨s, hs, h⟩ := opt_some.1 h
  split at h
  · have := (cond_some.1 h).2; cases this
  · cases h

end
end Go.Proofs.YtjofkhdnidjleabDoor.DS
