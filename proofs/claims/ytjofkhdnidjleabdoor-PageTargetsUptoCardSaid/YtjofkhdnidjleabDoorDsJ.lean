/- Slicing, conversions, minima; all world-preserving operations together. -/
import Derived.Test.YtjofkhdnidjleabDoorDsI
set_option linter.unusedVariables false
set_option linter.unusedSimpArgs false
namespace Go.Proofs.YtjofkhdnidjleabDoor.DS
open Go.RowKit

section
variable {P : Program} {E : Env} (hT : TTok P E.tt) {draw : Bool} {st : St} {ops : List Oper} {L : List (Nat × Bool)} {a : Act} {w : World} {ι : Nat → Value} {M : Mem}
  (hev : ∀ x s, ev st ops L x = some s → SVRel E.tt ι M s (a.eval x))
  (hevp : ∀ tc b x s, a.eval (.tmp tc) = .bool b → evPick st ops L tc b x = some s → SVRel E.tt ι M s (a.eval x))
  (hobj : ∀ id o, st.objs id = some o → ObjRel E.tt ι M w id o)
  (hmem : ∀ ad v, M ad = some v → w.cell? ad = some v)

include hev in
theorem evInt_sound {x : Operand} {i : Int} (h : evInt st ops L x = some i) : ∃ k, a.eval x = .int k i := by
  unfold evInt at h
  replace h := opt_some.1 h
  obtain ⟨s, hs, h⟩ := h
  split at h
  · rename_i k d
    injection h with h; subst h
    exact ⟨k, (Rep.inv_int (hev x _ hs)).1⟩
  · cases h

def OptI (v : Option Value) : Option Int → Prop
  | none => v = none
  | some n => ∃ k, v = some (.int k n)
include hev in
theorem optInt_sound {x : Option Operand} {i : Option Int} (h : optInt st ops L x = some i) : OptI (x.map a.eval) i := by
  cases x with
  | none => injection h with h; subst h; rfl
  | some x =>
    simp only [optInt] at h
    replace h := opt_some.1 h
    obtain ⟨n, hn, h⟩ := h
    injection h with h; subst h
    obtain ⟨k, hk⟩ := evInt_sound hev hn
    exact ⟨k, by simp [hk]⟩

/-- The bounds of a slice expression, as the model reads them. -/
theorem bounds_run {P : Program} {w : World} {lo hi : Option Value} {l h : Option Int} (isS : Bool) (n cap : Nat) (hcap : n ≤ cap) (hl : OptI lo l) (hh : OptI hi h)
    (hok : cutOk n l h = true) : (Instr.sliceBounds isS n cap lo hi none).run P w = .ok ((l.getD 0).toNat, (h.getD n).toNat, cap) w := by
  cases l with
  | none =>
    cases h with
    | none =>
      simp only [OptI] at hl hh; subst hl hh
      simp [Instr.sliceBounds]
    | some h =>
      simp only [OptI] at hl; subst hl
      obtain ⟨k, rfl⟩ := hh
      simp only [cutOk, Bool.and_eq_true, decide_eq_true_eq] at hok
      simp only [Instr.sliceBounds, Instr.sliceBound, asIntOf, Sem.run_bind, Sem.run_pure, Result.andThen_ok, Sem.run_ite]
      rw [if_pos ⟨hok.1, by omega⟩]
      simp
  | some l =>
    cases h with
    | none =>
      simp only [OptI] at hh; subst hh
      obtain ⟨k, rfl⟩ := hl
      simp only [cutOk, Bool.and_eq_true, decide_eq_true_eq] at hok
      simp only [Instr.sliceBounds, Instr.sliceBound, asIntOf, Sem.run_bind, Sem.run_pure, Result.andThen_ok, Sem.run_ite]
      rw [if_pos ⟨hok.1, by omega⟩]
      simp
    | some h =>
      obtain ⟨k, rfl⟩ := hl
      obtain ⟨k', rfl⟩ := hh
      simp only [cutOk, Bool.and_eq_true, decide_eq_true_eq] at hok
      simp only [Instr.sliceBounds, Instr.sliceBound, asIntOf, Sem.run_bind, Sem.run_pure, Result.andThen_ok, Sem.run_ite]
      rw [if_pos ⟨by omega, by omega⟩]
      simp only [Result.andThen_ok, Sem.run_pure]
      rw [if_pos ⟨hok.1, by omega⟩]
      simp

theorem cutL_length {α : Type} (s : List α) (l h : Option Int) (hok : cutOk s.length l h = true) : (cutL s l h).length = (h.getD s.length).toNat - (l.getD 0).toNat ∧ (l.getD 0).toNat ≤ (h.getD s.length).toNat ∧ (h.getD s.length).toNat ≤ s.length := by
  cases l <;> cases h <;> simp only [cutOk, Bool.and_eq_true, decide_eq_true_eq] at hok <;> simp [cutL] <;> omega
theorem cutL_get {α : Type} (s : List α) (l h : Option Int) (hok : cutOk s.length l h = true) (i : Nat) : (cutL s l h)[i]? = if i < (cutL s l h).length then s[(l.getD 0).toNat + i]? else none := by
  obtain ⟨h1, h2, h3⟩ := cutL_length s l h hok
  split
  · rename_i hi
    rw [h1] at hi
    cases l <;> cases h <;> simp only [cutOk, Bool.and_eq_true, decide_eq_true_eq] at hok <;> simp only [Option.getD_none, Option.getD_some] at hi <;> simp [cutL, List.getElem?_take] <;> omega
  · exact List.getElem?_eq_none (by omega)

include hT hev in
theorem slice_sound {o : Oper} {t : TypeId} {x : Operand} {lo hi mx : Option Operand} (ho : o.op = .slice t x lo hi mx) {c : Bool} {v : SV} (h : sliceO E draw st ops L t x lo hi mx = some (.sv c v)) (hc : c = true) : Gives P E.tt ι M a w o v := by
  subst hc
  unfold sliceO at h
  split at h
  · cases h
  · replace h := opt_some.1 h
    obtain ⟨ti, ht, h⟩ := h
    replace h := opt_some.1 h
    obtain ⟨s, hs, h⟩ := h
    replace h := opt_some.1 h
    obtain ⟨l, hl, h⟩ := h
    replace h := opt_some.1 h
    obtain ⟨hh, hhi, h⟩ := h
    have hu := (hT t ti ht).under
    have hsv := hev x s hs
    have hlr := optInt_sound hev hl
    have hhr := optInt_sound hev hhi
    have hexec : execOp a.eval o = (do pure (.value (← Instr.sliceAt t (a.eval x) (lo.map a.eval) (hi.map a.eval) none))) := by simp [execOp, ho]
    split at h
    · rename_i d hk
      rw [hk] at hu
      injection h with h; injection h with h1 h2; subst h2
      obtain ⟨s, hv, hd, hsz⟩ := Rep.inv_str hsv
      subst hd
      simp only [D.toStr] at h1 ⊢
      have e : s.data.toList.length = s.size := by rw [Array.length_toList]; rfl
      have hb := bounds_run (P := P) (w := w) false s.size s.size (Nat.le_refl _) hlr hhr (by rw [← e]; exact h1)
      obtain ⟨c1, c2, c3⟩ := cutL_length _ _ _ h1
      rw [e] at c1 c2 c3
      refine ⟨.string (s.extract (l.getD 0).toNat (hh.getD s.size).toNat), execOp_value hexec ?_, ?_⟩
      · rw [hv]
        simp only [Instr.sliceAt, Instr.slice, Sem.run_bind, run_underlying hu.1, Result.andThen_ok, Option.isSome_none, Bool.false_eq_true, if_false, hb, Sem.run_pure]
      · have e2 : cutL s.data.toList l hh = (s.extract (l.getD 0).toNat (hh.getD s.size).toNat).data.toList := by
          apply List.ext_getElem?
          intro i
          rw [cutL_get _ _ _ h1, c1, ByteArray.data_extract]
          simp only [Array.toList_extract, List.extract_eq_take_drop, List.getElem?_take, List.getElem?_drop]
        rw [e2]
        refine .str _ ?_
        have : (s.extract (l.getD 0).toNat (hh.getD s.size).toNat).size ≤ s.size := by rw [ByteArray.size_extract]; omega
        omega
    · rename_i e e' d hk
      rw [hk] at hu
      replace h := cond_some.1 h
      obtain ⟨he, h⟩ := h
      have he := beq_iff.1 he
      subst he
      injection h with h; injection h with h1 h2; subst h2
      obtain ⟨A, cap, hv, hd, hlc, hcap, hall⟩ := Rep.inv_slice hsv
      have hb := bounds_run (P := P) (w := w) true d.toList.length cap hlc hlr hhr h1
      obtain ⟨c1, c2, c3⟩ := cutL_length _ _ _ h1
      obtain ⟨hun, _, hee⟩ := hu
      obtain ⟨ei, hei⟩ := Option.isSome_iff_exists.1 hee
      obtain ⟨eI, heI, hsz, _⟩ := (hT _ _ hei).info
      have hrun : ∀ A' : Option Addr, A' = (if cap = (l.getD 0).toNat then A else A.map (·.add ((l.getD 0).toNat * ei.cells.length))) → (Instr.sliceAt t (a.eval x) (lo.map a.eval) (hi.map a.eval) none).run P w = .ok (.slice A' ((hh.getD d.toList.length).toNat - (l.getD 0).toNat) (cap - (l.getD 0).toNat)) w := by
        rintro _ rfl
        rw [hv]
        simp only [Instr.sliceAt, Instr.slice, Sem.run_bind, run_underlying hun, Result.andThen_ok, hb, run_size heI, hsz, Sem.run_pure]
      refine ⟨_, execOp_value hexec (hrun _ rfl), ?_⟩
      rw [← c1]
      show Rep E.tt M (.slice e) _ (.list (cutL d.toList l hh))
      rcases Nat.eq_zero_or_pos (cutL d.toList l hh).length with h0 | h0
      · have : cutL d.toList l hh = [] := List.eq_nil_of_length_eq_zero h0
        rw [this]
        exact .nil _ _ _ (by omega)
      · obtain ⟨ei', ad, vs, rfl, hei', hsp, hz, hM, hr⟩ := hall (by omega)
        rw [hei] at hei'; cases hei'
        rw [if_neg (by omega)]
        simp only [Option.map_some]
        refine .slice e ei _ _ _ (fun i => vs ((l.getD 0).toNat + i)) h0 (by omega) (by omega) hei (by rw [add_spot _ hsp]) (fun i hi => hz _ (by omega)) ?_ ?_
        · intro i j u hi hu
          rw [add_spot _ hsp]
          have := hM ((l.getD 0).toNat + i) j u (by omega) hu
          simp only at this ⊢
          rw [← this]
          congr 2
          rw [Nat.add_mul]; omega
        · intro i hi
          have := cutL_get d.toList l hh h1 i
          rw [if_pos hi, List.getElem?_eq_getElem hi, List.getElem?_eq_getElem (by omega)] at this
          injection this with this
          rw [this]
          exact hr _ _
    · revert h
      cases draw with
      | true => simp
      | false =>
        simp only [cond_false]
        intro h
        split at h
        · replace h := cond_some.1 h
          obtain ⟨_, h⟩ := h
          cases h
        · cases h
    · cases h

theorem addr_eta (ad : Addr) (h : ad.spot = none) : ad = ⟨ad.block, ad.off, none⟩ := by
  cases ad; simp only at h; subst h; rfl
theorem dsz (xs : List D) (n : Nat) (h : xs.length ≤ n) : (ByteArray.mk (dBytes xs).toArray).size ≤ n := by
  have : (ByteArray.mk (dBytes xs).toArray).size = xs.length := by simp [ByteArray.size, dBytes]
  omega

include hT hev hobj hmem in
theorem convert_sound {o : Oper} {t t' : TypeId} {x : Operand} (ho : o.op = .convert t t' x) {c : Bool} {v : SV} (h : convertO E st ops L o.dst t t' x = some (.sv c v)) : Gives P E.tt ι M a w o v ∧ c = true := by
  unfold convertO at h
  replace h := opt_some.1 h
  obtain ⟨si, hsi, h⟩ := h
  replace h := opt_some.1 h
  obtain ⟨ti, hti, h⟩ := h
  replace h := opt_some.1 h
  obtain ⟨s, hs, h⟩ := h
  have hsu := (hT t si hsi).under
  have htu := (hT t' ti hti).under
  have hsv := hev x s hs
  have hexec : execOp a.eval o = (do pure (.value (← convert t t' (a.eval x)))) := by simp [execOp, ho]
  -- the bytes of a row, as a string
  have hbytes : ∀ (b cap0 off0 : Nat) (xs : List D) (vs : Nat → Value), (∀ i (hi : i < xs.length), w.cell? ⟨b, off0 + i, none⟩ = some (vs i) ∧ Rep E.tt M (.int .u8) (vs i) xs[i]) →
      (Conv.bytesToString (.slice (some ⟨b, off0, none⟩) xs.length cap0)).run P w = .ok (.string ⟨(dBytes xs).toArray⟩) w := by
    intro b cap0 off0 xs vs hall
    have hcells : (loadCells ⟨b, off0, none⟩ xs.length).run P w = .ok (xs.map fun d => Value.int .u8 d.toInt).toArray w := by
      have := run_loadCells_list (P := P) w ⟨b, off0, none⟩ (xs.map fun d => Value.int .u8 d.toInt) (fun j v hj => by
        rw [List.getElem?_map, Option.map_eq_some_iff] at hj
        obtain ⟨d, hd, rfl⟩ := hj
        have hlt : j < xs.length := (List.getElem?_eq_some_iff.1 hd).1
        obtain ⟨q1, q2⟩ := hall j hlt
        have q3 : xs[j] = d := (List.getElem?_eq_some_iff.1 hd).2
        rw [add_spot _ rfl, q1, (q2.inv_int).1, q3])
      simpa using this
    simp only [Conv.bytesToString, Sem.run_bind, hcells, Result.andThen_ok]
    have hfold : ∀ (ys : List D) (acc : ByteArray), ys.foldl (fun b a => b.push (UInt8.ofNat a.toInt.toNat)) acc = ⟨acc.data ++ (dBytes ys).toArray⟩ := by
      intro ys
      induction ys with
      | nil => intro acc; simp [dBytes]
      | cons y r ih =>
        intro acc
        rw [List.foldl_cons, ih]
        congr 1
        apply Array.ext'
        simp [dBytes, ByteArray.push]
    have := hfold xs ByteArray.empty
    simp
    rw [this]
    simp
  have hu8 : ∀ {e : TypeId} {ei : TI}, lk e E.tt = some ei → ei.kt = .int .u8 → P.underlying e = some (.int .u8) ∧ ei.cells.length = 1 := by
    intro e ei he hk
    have := (hT e ei he).under
    rw [hk] at this
    exact ⟨this.1, by rw [this.2]; rfl⟩
  split at h
  · rename_i q k q' d hk1 hk2
    rw [hk1] at hsu; rw [hk2] at htu
    injection h with h; injection h with h1 h2; subst h1 h2
    obtain ⟨hv, _, _⟩ := Rep.inv_int hsv
    refine ⟨⟨_, execOp_value hexec (u := .int k (k.wrap d.toInt)) ?_, .int _ _ (wf_wrap _ _)⟩, rfl⟩
    rw [hv]
    simp only [convert, Sem.run_bind, run_underlying hsu.1, run_underlying htu.1, Result.andThen_ok, Conv.intToInt, Sem.run_pure]
  · rename_i d hk1 hk2
    rw [hk1] at hsu; rw [hk2] at htu
    injection h with h; injection h with h1 h2; subst h1 h2
    obtain ⟨s, hv, hd, hsz⟩ := Rep.inv_str hsv
    subst hd
    refine ⟨⟨_, execOp_value hexec (u := .string s) ?_, .str _ hsz⟩, rfl⟩
    rw [hv]
    simp only [convert, Sem.run_bind, run_underlying hsu.1, run_underlying htu.1, Result.andThen_ok, Sem.run_pure]
  · rename_i e e' d hk1 hk2
    rw [hk1] at hsu; rw [hk2] at htu
    replace h := cond_some.1 h
    obtain ⟨he, h⟩ := h
    have he := beq_iff.1 he
    subst he
    replace h := opt_some.1 h
    obtain ⟨ei, hei, h⟩ := h
    replace h := cond_some.1 h
    obtain ⟨hku, h⟩ := h
    have hku := KT.eq_iff.1 hku
    injection h with h; injection h with h1 h2; subst h1 h2
    obtain ⟨hun, hlen⟩ := hu8 hei hku
    obtain ⟨A, cap, hv, hd, hlc, hcap, hall⟩ := Rep.inv_slice hsv
    have hrun : ∀ u, (Conv.bytesToString (.slice A d.toList.length cap)).run P w = .ok u w → (convert t t' (a.eval x)).run P w = .ok u w := by
      intro u hu
      rw [hv]
      simp only [convert, Sem.run_bind, run_underlying hsu.1, run_underlying htu.1, Result.andThen_ok, run_underlying hun, hu]
    have hrep : Rep E.tt M .str (.string ⟨(dBytes d.toList).toArray⟩) (.str (dBytes d.toList)) := by
      have := Rep.str (tt := E.tt) (M := M) ⟨(dBytes d.toList).toArray⟩ (dsz _ _ (by omega))
      simpa using this
    refine ⟨⟨_, execOp_value hexec (hrun _ ?_), hrep⟩, rfl⟩
    rcases Nat.eq_zero_or_pos d.toList.length with h0 | h0
    · have hnil : d.toList = [] := List.eq_nil_of_length_eq_zero h0
      rw [hnil]
      cases A with
      | none => rfl
      | some ad => rfl
    · obtain ⟨ei', ad, vs, rfl, hei', hsp, hz, hM, hr⟩ := hall h0
      rw [hei] at hei'; cases hei'
      have e : ad = ⟨ad.block, ad.off, none⟩ := addr_eta ad hsp
      rw [e]
      refine hbytes ad.block cap ad.off d.toList vs (fun i hi => ?_)
      have hri := hr i hi
      rw [hku] at hri
      refine ⟨hmem _ _ ?_, hri⟩
      have := hM i 0 (vs i) hi (by rw [(hri.cells_single rfl).1]; rfl)
      rw [hlen] at this
      simpa using this
  · rename_i e id hk1 hk2
    rw [hk1] at hsu; rw [hk2] at htu
    cases hob : st.objs id with
    | none => rw [hob] at h; cases h
    | some ob =>
      rw [hob] at h
      have hor := hobj id ob hob
      cases ob with
      | box u' bc => cases h
      | arr e' es =>
        replace h := cond_some.1 h
        obtain ⟨he, h⟩ := h
        have he := beq_iff.1 he
        subst he
        replace h := opt_some.1 h
        obtain ⟨ei, hei, h⟩ := h
        replace h := cond_some.1 h
        obtain ⟨hku, h⟩ := h
        have hku := KT.eq_iff.1 hku
        injection h with h; injection h with h1 h2; subst h1 h2
        obtain ⟨hun, hlen⟩ := hu8 hei hku
        obtain ⟨ei', hei', hpos, harr⟩ := hor
        rw [hei] at hei'; cases hei'
        have hv : a.eval x = ι id := hsv.1
        rcases harr with ⟨hι, he0⟩ | ⟨b, cap, cur, tt', fr, vs, hι, hheap, hlen2, hcap, hcur, hfr, hall⟩
        · subst he0
          refine ⟨⟨.string .empty, execOp_value hexec ?_, .str ByteArray.empty (by decide)⟩, rfl⟩
          rw [hv, hι]
          simp [convert, run_underlying hsu.1, run_underlying htu.1, run_underlying hun, Conv.bytesToString]
        · have hrep : Rep E.tt M .str (.string ⟨(dBytes es).toArray⟩) (.str (dBytes es)) := by
            have := Rep.str (tt := E.tt) (M := M) ⟨(dBytes es).toArray⟩ (dsz _ _ (by omega))
            simpa using this
          refine ⟨⟨_, execOp_value hexec ?_, hrep⟩, rfl⟩
          rw [hv, hι]
          have := hbytes b cap 0 es vs (fun i hi => ?_)
          · simp only [convert, Sem.run_bind, run_underlying hsu.1, run_underlying htu.1, Result.andThen_ok, run_underlying hun, this]
          · obtain ⟨q1, q2, q3⟩ := hall i hi
            rw [hku] at q3
            refine ⟨?_, q3⟩
            have := q2 0 (vs i) (by rw [(q3.cells_single rfl).1]; rfl)
            rw [hlen] at this
            simp only [World.cell?, hheap]
            simpa using this
  · rename_i e hk1 hk2
    rw [hk1] at hsu; rw [hk2] at htu
    replace h := opt_some.1 h
    obtain ⟨ei, hei, h⟩ := h
    replace h := cond_some.1 h
    obtain ⟨hku, h⟩ := h
    have hku := KT.eq_iff.1 hku
    injection h with h; injection h with h1 h2; subst h1 h2
    obtain ⟨hun, hlen⟩ := hu8 hei hku
    have hv : a.eval x = .slice none 0 0 := hsv
    refine ⟨⟨.string .empty, execOp_value hexec ?_, .str ByteArray.empty (by decide)⟩, rfl⟩
    rw [hv]
    simp [convert, run_underlying hsu.1, run_underlying htu.1, run_underlying hun, Conv.bytesToString]
  · replace h := opt_some.1 h
    obtain ⟨ei, hei, h⟩ := h
    replace h := cond_some.1 h
    obtain ⟨_, h⟩ := h
    unfold withObj at h
    split at h
    · replace h := cond_some.1 h
      obtain ⟨_, h⟩ := h
      cases h
    · cases h
  · cases h

include hev in
theorem mmFold_sound (isMax : Bool) (k : IntKind) (l : List Operand) : ∀ (n m : Int), (Lit.int k n).wf = true → mmFold st ops L isMax k l n = some m → (Lit.int k m).wf = true ∧
    ((l.map a.eval).foldlM (if isMax then Builtin.max2 else Builtin.min2) (.int k n) : Sem Value).run P w = .ok (.int k m) w := by
  induction l with
  | nil => intro n m hw h; injection h with h; subst h; exact ⟨hw, by simp⟩
  | cons x r ih =>
    intro n m hw h
    simp only [mmFold] at h
    replace h := opt_some.1 h
    obtain ⟨s, hs, h⟩ := h
    split at h
    · rename_i k' d
      replace h := cond_some.1 h
      obtain ⟨he, h⟩ := h
      have he := ikEq_iff.1 he
      subst he
      obtain ⟨hv, _, hwd⟩ := Rep.inv_int (hev x _ hs)
      have hwn : (Lit.int k (mmInt isMax n d.toInt)).wf = true := by
        unfold mmInt
        cases isMax
        · simp only [cond_false]; cases decide (d.toInt < n) <;> assumption
        · simp only [cond_true]; cases decide (n < d.toInt) <;> assumption
      obtain ⟨h1, h2⟩ := ih _ _ hwn h
      refine ⟨h1, ?_⟩
      rw [List.map_cons, List.foldlM_cons]
      have : ((if isMax = true then Builtin.max2 else Builtin.min2) (.int k n) (a.eval x)).run P w = .ok (.int k (mmInt isMax n d.toInt)) w := by
        rw [hv]
        cases isMax
        · simp only [Bool.false_eq_true, if_false, Builtin.min2, Sem.run_pure, mmInt, cond_false]
          congr 2
          by_cases hlt : d.toInt < n <;> simp [hlt]
        · simp only [if_true, Builtin.max2, Sem.run_pure, mmInt, cond_true]
          congr 2
          by_cases hlt : n < d.toInt <;> simp [hlt]
      simp only [Sem.run_bind, this, Result.andThen_ok]
      exact h2
    · cases h

include hev in
theorem mm_sound {o : Oper} {cl : Call} (isMax : Bool) (ho : o.op = .call cl) (hcl : cl.callee = .builtin (if isMax then .max else .min)) {c : Bool} {v : SV} (h : mmO st ops L isMax cl.args.toList = some (.sv c v)) : Gives P E.tt ι M a w o v ∧ c = true := by
  have hm : ∀ l : List Operand, cl.args.toList = l → (cl.args.map a.eval).toList = l.map a.eval := by
    intro l hl; rw [Array.toList_map, hl]
  generalize hl : cl.args.toList = l at h
  cases l with
  | nil => cases h
  | cons x r =>
    simp only [mmO] at h
    replace h := opt_some.1 h
    obtain ⟨s, hs, h⟩ := h
    split at h
    · rename_i k d
      replace h := opt_some.1 h
      obtain ⟨m, hm', h⟩ := h
      injection h with h; injection h with h1 h2; subst h1 h2
      obtain ⟨hv, _, hwd⟩ := Rep.inv_int (hev x _ hs)
      obtain ⟨h1, h2⟩ := mmFold_sound (P := P) (w := w) hev isMax k r _ _ hwd hm'
      refine ⟨⟨.int k m, ?_, .int _ _ h1⟩, rfl⟩
      have e := hm _ hl
      rw [List.map_cons, hv] at e
      cases isMax
      · simp only [Bool.false_eq_true, if_false] at hcl h2
        simp [execOp, ho, resolve, hcl, invoke, builtin, Builtin.min_, hl, hv, h2]
      · simp only [if_true] at hcl h2
        simp [execOp, ho, resolve, hcl, invoke, builtin, Builtin.max_, hl, hv, h2]
    · cases h

theorem withObj_sv {dst : Option Nat} {ob : Obj} {vv : Nat → SV} {c0 : Bool} {c : Bool} {v : SV} (h : withObj st dst ob vv c0 = some (.sv c v)) : False := by
  unfold withObj at h
  split at h
  · replace h := cond_some.1 h
    obtain ⟨_, h⟩ := h
    cases h
  · cases h

include hT hev hevp hobj hmem in
/-- Every operation that leaves the state alone does so in memory, and gives what it says. -/
theorem sv_sound {o : Oper} {c : Bool} {v : SV} (h : opO E draw st ops L o = some (.sv c v)) (hc : c = true) : Gives P E.tt ι M a w o v := by
  unfold opO at h
  split at h
  case h_1 x hx => exact (move_sound hT hev (by simp [execOp, hx]) h).1
  case h_2 x hx => exact (move_sound hT hev (by simp [execOp, hx]) h).1
  case h_3 x y z hx => exact (pick_sound hev hevp hx h).1
  case h_4 t hx => 
    unfold allocO at h
    replace h := opt_some.1 h
    obtain ⟨ti, _, h⟩ := h
    exact (withObj_sv h).elim
  case h_5 t x hx =>
    unfold boxO at h
    replace h := opt_some.1 h
    obtain ⟨ti, _, h⟩ := h
    replace h := opt_some.1 h
    obtain ⟨s, _, h⟩ := h
    replace h := opt_some.1 h
    obtain ⟨d, _, h⟩ := h
    exact (withObj_sv h).elim
  case h_6 t ps hx => exact build_sound hT hev hx h
  case h_7 t n ps hx =>
    unfold buildSliceO at h
    replace h := opt_some.1 h
    obtain ⟨ti, _, h⟩ := h
    split at h
    · replace h := opt_some.1 h
      obtain ⟨ei, _, h⟩ := h
      replace h := opt_some.1 h
      obtain ⟨ds, _, h⟩ := h
      replace h := cond_some.1 h
      exact (withObj_sv h.2).elim
    · cases h
  case h_8 t x hx => exact (load_sound hT hev hobj hmem hx h).1
  case h_9 t x y hx =>
    unfold storeO at h
    replace h := opt_some.1 h
    obtain ⟨ti, _, h⟩ := h
    replace h := opt_some.1 h
    obtain ⟨s, _, h⟩ := h
    replace h := opt_some.1 h
    obtain ⟨s', _, h⟩ := h
    split at h
    · replace h := cond_some.1 h
      replace h := h.2
      split at h
      · replace h := cond_some.1 h
        replace h := h.2
        replace h := opt_some.1 h
        obtain ⟨ui, _, h⟩ := h
        replace h := opt_some.1 h
        obtain ⟨c', _, h⟩ := h
        cases h
      · cases h
    · replace h := cond_some.1 h
      replace h := h.2
      replace h := opt_some.1 h
      obtain ⟨d, _, h⟩ := h
      split at h
      · replace h := cond_some.1 h
        replace h := h.2
        replace h := opt_some.1 h
        obtain ⟨c', _, h⟩ := h
        revert h
        generalize (Nat.beq _ _ && _) = b1
        generalize (isAggK _) = b2
        intro h
        cases b1 <;> cases b2 <;> cases h
      · cases h
    · cases h
  case h_10 op t x y yt hx =>
    replace h := opt_some.1 h
    obtain ⟨s1, hs1, h⟩ := h
    replace h := opt_some.1 h
    obtain ⟨s2, hs2, h⟩ := h
    obtain ⟨u, hu, hr⟩ := bin_gives (P := P) (w := w) hT (hev x s1 hs1) (hev y s2 hs2) h hc
    exact ⟨u, execOp_value (s := do eqGuard op t x y (a.eval x) (a.eval y); binOp op t (a.eval x) (a.eval y)) (by simp [execOp, hx]) (hu x y), hr⟩
  case h_11 op t x hx =>
    replace h := opt_some.1 h
    obtain ⟨s1, hs1, h⟩ := h
    have hsv := hev x s1 hs1
    unfold unO at h
    split at h
    · injection h with h; injection h with h1 h2; subst h2
      obtain ⟨hv, _⟩ := Rep.inv_bool hsv
      exact ⟨_, execOp_value (s := Op.unary .not (a.eval x)) (by simp [execOp, hx]) (by rw [hv]; simp only [Op.unary, Sem.run_pure]; first | done | rfl), .bool _⟩
    · injection h with h; injection h with h1 h2; subst h2
      obtain ⟨hv, _⟩ := Rep.inv_int hsv
      exact ⟨_, execOp_value (s := Op.unary .neg (a.eval x)) (by simp [execOp, hx]) (by rw [hv]; simp only [Op.unary, Op.intArith, Sem.run_pure]; first | done | rfl), .int _ _ (wf_wrap _ _)⟩
    · cases h
  case h_12 s t x hx => exact (convert_sound hT hev hobj hmem hx h).1
  case h_13 t x y hx =>
    unfold makeSliceO at h
    replace h := opt_some.1 h
    obtain ⟨ti, _, h⟩ := h
    replace h := opt_some.1 h
    obtain ⟨n, _, h⟩ := h
    replace h := opt_some.1 h
    obtain ⟨m, _, h⟩ := h
    split at h
    · replace h := opt_some.1 h
      obtain ⟨ei, _, h⟩ := h
      split at h
      · cases h
      · cases h
      · exact (withObj_sv (cond_some.1 h).2).elim
    · cases h
  case h_14 t x lo hi mx hx => exact slice_sound hT hev hx h hc
  case h_15 t x f hx => exact (fieldAddr_sound hT hev hx h).1
  case h_16 t x y hx => exact indexAddr_sound hT hev hobj hx h hc
  case h_17 t x y hx => exact index_sound hT hev hx h hc
  case h_18 x hx =>
    replace h := opt_some.1 h
    obtain ⟨s1, hs1, h⟩ := h
    have hsv := hev x s1 hs1
    have hp : ∃ ad, a.eval x = .pointer (some ad) ∧ s1 = v := by
      split at h
      · injection h with h; injection h with h1 h2; subst h2
        obtain ⟨ad, _, _, _, hv, _⟩ := hsv
        exact ⟨ad, hv, rfl⟩
      · injection h with h; injection h with h1 h2; subst h2
        obtain ⟨_, b, _, hv⟩ := hsv
        exact ⟨_, hv, rfl⟩
      · injection h with h; injection h with h1 h2; subst h2
        obtain ⟨_, b, n, cap, ei, _, _, _, _, hv⟩ := hsv
        exact ⟨_, hv, rfl⟩
      · cases h
    obtain ⟨ad, hv, rfl⟩ := hp
    exact gives_pure (u := a.eval x) (by simp [execOp, hx, hv]) hsv
  case h_19 x i hx =>
    replace h := opt_some.1 h
    obtain ⟨s1, hs1, h⟩ := h
    have hsv := hev x s1 hs1
    split at h
    · rename_i l
      split at h
      · cases h
      · cases h
      · rename_i s' _ _ hs'
        injection h with h; injection h with h1 h2; subst h2
        obtain ⟨vs, hv, hl, hr⟩ := hsv
        have hlt : i < vs.length := by rw [hl]; exact (List.getElem?_eq_some_iff.1 hs').1
        refine ⟨vs[i], execOp_value (s := Instr.extract (a.eval x) i) (by simp [execOp, hx]) ?_, SVRel.of0 (hr i s' vs[i] hs' (List.getElem?_eq_getElem hlt))⟩
        rw [hv]
        simp [Instr.extract, hlt]
      · cases h
    · cases h
  case h_20 cl hx =>
    unfold callO at h
    split at h
    · replace h := opt_some.1 h
      obtain ⟨sg, _, h⟩ := h
      rcases callF_out h with ⟨_, _, h⟩ | ⟨_, _, _, h⟩ <;> cases h
    · rename_i hcl
      split at h
      · rename_i x t h1 h2
        exact (len_sound hT hev hobj hx hcl h1 h2 h).1
      · cases h
    · split at h
      · unfold appendO at h
        replace h := opt_some.1 h
        obtain ⟨ti, _, h⟩ := h
        replace h := opt_some.1 h
        obtain ⟨xi, _, h⟩ := h
        replace h := opt_some.1 h
        obtain ⟨s1, _, h⟩ := h
        replace h := opt_some.1 h
        obtain ⟨s2, _, h⟩ := h
        split at h
        · replace h := opt_some.1 h
          obtain ⟨ei, _, h⟩ := h
          replace h := cond_some.1 h
          replace h := h.2
          replace h := opt_some.1 h
          obtain ⟨ds, _, h⟩ := h
          split at h
          · exact (withObj_sv h).elim
          · split at h
            · revert h
              rename_i q1 q2 q3 q4 q5
              intro h
              generalize hq : Nat.beq _ _ = bb at h
              cases bb with
              | true => cases h
              | false =>
                simp only [cond_false] at h
                split at h
                · replace h := cond_some.1 h
                  replace h := h.2
                  cases h
                · cases h
            · split at h
              · replace h := cond_some.1 h
                replace h := h.2
                cases h
              · cases h
          · cases h
        · cases h
      · cases h
    · rename_i hcl
      exact (mm_sound hev true hx (by rw [hcl]; rfl) h).1
    · rename_i hcl
      exact (mm_sound hev false hx (by rw [hcl]; rfl) h).1
    · obtain ⟨_, _, _, _, _, _, _, _, _, h⟩ := clo_out h
      cases h
    · cases h
  case h_21 f fs cs hx =>
    obtain ⟨_, x, id, u, k, h1, h2, h3, h4⟩ := mkf_out h
    injection h4 with h4 h5
    subst h5
    obtain ⟨_, b, h6, h7⟩ := hev x _ h3
    refine ⟨.func (.func f) #[] #[.pointer (some ⟨b, 0, none⟩)], ?_, ⟨b, h6, rfl⟩⟩
    have e1 : fs = #[] := by apply Array.toList_inj.1; rw [h1]
    have e2 : cs = #[x] := by apply Array.toList_inj.1; rw [h2]
    subst e1 e2
    refine execOp_value (s := Instr.makeFunc (.func f) #[] #[a.eval x]) (by simp [execOp, hx]) ?_
    rw [h7]; rfl
  case h_22 t x f hx => exact field_sound hT hev hx h
  case h_23 => cases h

end
end Go.Proofs.YtjofkhdnidjleabDoor.DS
