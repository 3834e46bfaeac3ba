/- What an argument reads, as data. -/
import Derived.Test.YtjofkhdnidjleabDoorDtD
import Derived.Carry
import Derived.ChangeShapes
import GoSem.ClaimChange
set_option linter.unusedVariables false
set_option linter.unusedSimpArgs false
namespace Go.Proofs.YtjofkhdnidjleabDoor.DS
open Go.RowKit

/-- How much a reading holds (of what the data keep). -/
def bulk {H : Type} : DataW H → Nat
  | .lit (.string bytes) => bytes.length + 1
  | .lit _ => 1
  | .nil => 1
  | .slice elems _ => bulkAll elems + 1
  | .agg parts => bulkAll parts + 1
  | _ => 0
where bulkAll {H : Type} : List (DataW H) → Nat
  | [] => 0
  | d :: r => bulk d + bulkAll r
def dmass : D → Nat
  | .str s => s.length + 1
  | .list xs => dmAll xs + 1
  | .agg cs => dmAll cs
  | .no => 0
  | _ => 1
where dmAll : List D → Nat
  | [] => 0
  | d :: r => dmass d + dmAll r
theorem dmAll_append (l m : List D) : dmass.dmAll (l ++ m) = dmass.dmAll l + dmass.dmAll m := by
  induction l with
  | nil => simp [dmass.dmAll]
  | cons d r ih => simp [dmass.dmAll, ih]; omega

theorem mapM_get {α β : Type} {f : α → Option β} : ∀ (l : List α) (r : List β), l.mapM f = some r → r.length = l.length ∧ ∀ (i : Nat) x, l[i]? = some x → ∃ y, r[i]? = some y ∧ f x = some y := by
  intro l
  induction l with
  | nil => intro r h; simp at h; subst h; exact ⟨rfl, fun i x h => by simp at h⟩
  | cons a l ih =>
    intro r h
    rw [List.mapM_cons] at h
    cases hf : f a with
    | none => rw [hf] at h; cases h
    | some y =>
      rw [hf] at h
      cases hl : l.mapM f with
      | none => rw [hl] at h; cases h
      | some ys =>
        rw [hl] at h
        injection h with h; subst h
        obtain ⟨h1, h2⟩ := ih ys hl
        refine ⟨by simp [h1], fun i x hx => ?_⟩
        cases i with
        | zero => simp at hx; subst hx; exact ⟨y, rfl, hf⟩
        | succ i => exact h2 i x (by simpa using hx)

/-- The fields of a struct lie side by side. -/
def tight (tt : TT) (total : Nat) : Nat → List (Nat × TypeId) → Bool
  | off, [] => Nat.beq off total
  | off, (o, t) :: r => Nat.beq o off && (match lk t tt with | some fi => tight tt total (off + fi.cells.length) r | none => false)
def Tight (tt : TT) : Prop := ∀ t ti, lk t tt = some ti → ti.kt.single = false → tight tt ti.cells.length 0 ti.fields = true
/-- Types through which no pointer is reached. -/
def NoPtr (tt : TT) (S : List Nat) : Prop := ∀ t ∈ S, ∀ ti, lk t tt = some ti → ti.kt ≠ .ptr ∧ (∀ e, ti.kt = .slice e → e ∈ S) ∧ ∀ f ∈ ti.fields, f.2 ∈ S
def fldIn (S : List Nat) : List (Nat × TypeId) → Bool
  | [] => true
  | (_, t) :: r => cond (memN t S) (fldIn S r) false
def npOk (tt : TT) (S : List Nat) (t : Nat) : Bool := match lk t tt with
  | some ti => (match ti.kt with | .ptr => false | .slice e => memN e S | _ => true) && fldIn S ti.fields
  | none => false
def npStep (tt : TT) (S : List Nat) : List Nat → List Nat
  | [] => []
  | t :: r => cond (npOk tt S t) (t :: npStep tt S r) (npStep tt S r)
def npIter (tt : TT) : Nat → List Nat → List Nat
  | 0, S => S
  | n + 1, S => let S' := npStep tt S S; cond (Nat.beq S'.length S.length) S (npIter tt n S')
def npSet (tt : TT) : List Nat := npIter tt 40 (keysN tt)
def npAll (tt : TT) (S : List Nat) : List Nat → Bool
  | [] => true
  | t :: r => cond (npOk tt S t) (npAll tt S r) false
theorem fldIn_spec {S : List Nat} : ∀ {l : List (Nat × TypeId)}, fldIn S l = true → ∀ f ∈ l, f.2 ∈ S := by
  intro l
  induction l with
  | nil => intro _ f h; cases h
  | cons x r ih =>
    obtain ⟨o, t⟩ := x
    intro h f hf
    simp only [fldIn] at h
    cases hb : memN t S with
    | false => rw [hb] at h; cases h
    | true =>
      rw [hb] at h
      rcases List.mem_cons.1 hf with rfl | hf
      · exact memN_iff.1 hb
      · exact ih h f hf
theorem npAll_spec {tt : TT} {S : List Nat} : ∀ {l : List Nat}, npAll tt S l = true → ∀ t ∈ l, npOk tt S t = true := by
  intro l
  induction l with
  | nil => intro _ t h; cases h
  | cons x r ih =>
    intro h t ht
    simp only [npAll] at h
    cases hb : npOk tt S x with
    | false => rw [hb] at h; cases h
    | true =>
      rw [hb] at h
      rcases List.mem_cons.1 ht with rfl | ht
      · exact hb
      · exact ih h t ht
theorem npAll_no {tt : TT} {S : List Nat} (h : npAll tt S S = true) : NoPtr tt S := by
  intro t ht ti hti
  have := npAll_spec h t ht
  unfold npOk at this
  rw [hti] at this
  simp only [Bool.and_eq_true] at this
  obtain ⟨h1, h2⟩ := this
  refine ⟨fun e => ?_, fun e he => ?_, fldIn_spec h2⟩
  · rw [e] at h1; cases h1
  · rw [he] at h1; exact memN_iff.1 h1
/-- No element has no cells. -/
def Elems (tt : TT) : Prop := ∀ t ti e, lk t tt = some ti → ti.kt = .slice e → ∃ ei, lk e tt = some ei ∧ 0 < ei.cells.length

section
variable {H : Type} {enc : TypeId × Value → H} {P : Program} {tt : TT} (hT : TTok P tt) (hti : Tight tt) (hel : Elems tt)

theorem cells_get {w : World} {a : Addr} {n : Nat} {cs : List Value} (h : w.cells? 0 a n = some cs) : cs.length = n ∧ ∀ j, j < n → ∃ c, cs[j]? = some c ∧ w.cell? (a.add j) = some c := by
  unfold World.cells? at h
  rw [if_pos (Nat.zero_le _)] at h
  obtain ⟨h1, h2⟩ := mapM_get _ _ h
  refine ⟨by simpa using h1, fun j hj => h2 j j ?_⟩
  simp [hj]

/-- Memory, all of it. -/
def allMem (w : World) : Mem := fun ad => w.cell? ad
theorem spot_of_cell {w : World} {a : Addr} {v : Value} (h : w.cell? a = some v) : a.spot = none := by
  unfold World.cell? at h
  split at h
  · cases hs : a.spot with
    | none => rfl
    | some s => rw [hs] at h; simp at h
  · cases h

/-- The fields' data, one behind the other. -/
theorem fields_rep {M : Mem} {ti : TI} {cs : List Value} {fs : List (Nat × TypeId)} (hT : TTok P tt) : ∀ (dWs : List (DataW H)) (off : Nat), tight tt ti.cells.length off fs = true → dWs.length = fs.length →
    (∀ (i : Nat) (f : Nat × TypeId) (dW : DataW H), fs[i]? = some f → dWs[i]? = some dW → ∃ fi v d, lk f.2 tt = some fi ∧ (ti.cells.drop f.1).take fi.cells.length = fi.cells ∧ Rep tt M fi.kt v d ∧ v.cells.toList = (cs.drop f.1).take fi.cells.length ∧ dmass d ≤ bulk dW) →
    ∃ ds : List D, off + ds.length = ti.cells.length ∧ (∀ (i : Nat) k c d, ti.cells[off + i]? = some k → cs[off + i]? = some c → ds[i]? = some d → Rep tt M k c d) ∧ dmass.dmAll ds ≤ bulk.bulkAll dWs := by
  induction fs with
  | nil =>
    intro dWs off h hl _
    exact ⟨[], by have := beq_iff.1 h; simpa using this, fun i k c d _ _ h => by simp at h, by simp [dmass.dmAll]⟩
  | cons f r ih =>
    intro dWs off h hl hall
    obtain ⟨o, t⟩ := f
    simp only [tight, Bool.and_eq_true] at h
    obtain ⟨ho, h⟩ := h
    have ho := beq_iff.1 ho
    subst ho
    cases dWs with
    | nil => simp at hl
    | cons dW dWs =>
      obtain ⟨fi, v, d, hfi, hcell, hrep, hv, hm⟩ := hall 0 (o, t) dW rfl rfl
      rw [hfi] at h
      simp only at h
      obtain ⟨ds, h1, h2, h3⟩ := ih dWs (o + fi.cells.length) h (by simpa using hl) (fun i f dW hf hd => hall (i + 1) f dW (by simpa using hf) (by simpa using hd))
      obtain ⟨q1, q2, q3⟩ := hrep.kt_cells hT hfi
      have hcl : dmass.dmAll d.cells ≤ dmass d := by
        cases d <;> simp [D.cells, dmass.dmAll, dmass]
      refine ⟨d.cells ++ ds, by rw [List.length_append, q2]; omega, ?_, by rw [dmAll_append]; simp only [bulk.bulkAll]; omega⟩
      intro i k c dd hk hc hd
      by_cases hi : i < d.cells.length
      · rw [List.getElem?_append_left hi] at hd
        have hk2 : fi.cells[i]? = some k := by
          rw [← hcell, List.getElem?_take, if_pos (by rw [← q2]; exact hi), List.getElem?_drop]; exact hk
        have hc2 : v.cells.toList[i]? = some c := by
          rw [hv, List.getElem?_take, if_pos (by rw [← q2]; exact hi), List.getElem?_drop]; exact hc
        obtain ⟨hk3, hk4⟩ := List.getElem?_eq_some_iff.1 hk2
        obtain ⟨hc3, hc4⟩ := List.getElem?_eq_some_iff.1 hc2
        obtain ⟨hd3, hd4⟩ := List.getElem?_eq_some_iff.1 hd
        have := q3 i hk3 (by simpa using hc3) hd3
        rw [hk4, hd4] at this
        rw [← hc4]
        simpa using this
      · rw [List.getElem?_append_right (by omega), q2] at hd
        rw [q2] at hi
        exact h2 (i - fi.cells.length) k c dd (by rw [← hk]; congr 1; omega) (by rw [← hc]; congr 1; omega) hd

theorem list_rep {α : Type} : ∀ (elems : List (DataW H × α)) (Q : Nat → Value → D → Prop), (∀ (i : Nat) x, elems[i]? = some x → ∃ v d, Q i v d ∧ dmass d ≤ bulk x.1) →
    ∃ (vs : List Value) (ds : List D), vs.length = elems.length ∧ ds.length = elems.length ∧ (∀ i v d, vs[i]? = some v → ds[i]? = some d → Q i v d) ∧ dmass.dmAll ds ≤ bulk.bulkAll (elems.map (·.1)) := by
  intro elems
  induction elems with
  | nil => intro Q _; exact ⟨[], [], rfl, rfl, fun i v d h => by simp at h, by simp [dmass.dmAll]⟩
  | cons x r ih =>
    intro Q h
    obtain ⟨v, d, h1, h2⟩ := h 0 x rfl
    obtain ⟨vs, ds, k1, k2, k3, k4⟩ := ih (fun i => Q (i + 1)) (fun i y hy => h (i + 1) y (by simpa using hy))
    refine ⟨v :: vs, d :: ds, by simp [k1], by simp [k2], ?_, by simp only [dmass.dmAll, List.map_cons, bulk.bulkAll]; omega⟩
    intro i v' d' hv hd
    cases i with
    | zero => simp at hv hd; subst hv hd; exact h1
    | succ i => exact k3 i v' d' (by simpa using hv) (by simpa using hd)

include hT hti hel in
theorem trod_rep {S : List Nat} (hnp : NoPtr tt S) {w : World} {sp : Nat → Bool} {hd : Bool} : ∀ fuel t ti cs (dW : DataW H) ps, lk t tt = some ti → t ∈ S → DataW.trod enc P w 0 sp hd fuel t cs = some (dW, ps) →
    ∃ v d, Rep tt (allMem w) ti.kt v d ∧ v.cells.toList = cs ∧ dmass d ≤ bulk dW := by
  intro fuel
  induction fuel with
  | zero => intro t ti cs dW ps _ _ h; cases h
  | succ fuel ih =>
    intro t ti cs dW ps ht htS h
    obtain ⟨np1, np2, np3⟩ := hnp t htS ti ht
    have hi := hT t ti ht
    have hu := hi.under
    cases hk : ti.kt with
    | ptr => exact absurd hk np1
    | bool =>
      rw [hk] at hu
      obtain ⟨b, rfl, hx⟩ := DataW.trod_bool hu.1 h
      injection hx with h1 h2; subst h1
      exact ⟨_, _, .bool b, rfl, by simp [dmass, bulk]⟩
    | int k =>
      rw [hk] at hu
      obtain ⟨n, rfl, hx, hw⟩ := DataW.trod_int hu.1 h
      injection hx with h1 h2; subst h1
      exact ⟨_, _, .int k n hw, rfl, by simp [dmass, bulk]⟩
    | str =>
      rw [hk] at hu
      obtain ⟨s, rfl, hx, hw⟩ := DataW.trod_string hu.1 h
      injection hx with h1 h2; subst h1
      exact ⟨_, _, .str s hw, rfl, by simp [dmass, bulk]⟩
    | slice e =>
      rw [hk] at hu
      obtain ⟨ei, he, hpos⟩ := hel t ti e ht hk
      have hes : P.cellsOf e = ei.cells.length := (hT e ei he).size
      rcases DataW.trod_slice hu.1 h with ⟨rfl, hx⟩ | ⟨a, len, cap, elems, rest, n, hn, rfl, hx, _, hlc, hcm, hlen, hel2, _⟩
      · injection hx with h1 h2; subst h1
        exact ⟨_, _, .nil e none 0 (Nat.zero_le _), rfl, by simp [dmass, bulk, dmass.dmAll]⟩
      · injection hx with h1 h2; subst h1
        injection hn with hn; subst hn
        rw [hes] at hel2
        have hget : ∀ (i : Nat) x, elems[i]? = some x → ∃ v d, (∃ cs, w.cells? 0 (a.add (i * ei.cells.length)) ei.cells.length = some cs ∧ v.cells.toList = cs ∧ Rep tt (allMem w) ei.kt v d) ∧ dmass d ≤ bulk x.1 := by
          intro i x hx
          have hil := (List.getElem?_eq_some_iff.1 hx).1
          have h1 := hel2 i (by omega)
          rw [hx] at h1
          cases hc : w.cells? 0 (a.add (i * ei.cells.length)) ei.cells.length with
          | none => rw [hc] at h1; cases h1
          | some cs =>
            rw [hc] at h1
            obtain ⟨v, d, s1, s2, s3⟩ := ih e ei cs x.1 x.2 he (np2 e hk) h1
            exact ⟨v, d, ⟨cs, rfl, s2, s1⟩, s3⟩
        obtain ⟨vs, ds, v1, v2, v3, v4⟩ := list_rep elems _ hget
        have hds : ds.length = len := by omega
        have hcell : ∀ i v d, vs[i]? = some v → ds[i]? = some d → Rep tt (allMem w) ei.kt v d ∧ v.cells.size = ei.cells.length ∧ ∀ j u, v.cells[j]? = some u → a.spot = none ∧ w.cell? ⟨a.block, a.off + (i * ei.cells.length + j), none⟩ = some u := by
          intro i v d hv hd
          obtain ⟨cs, c1, c2, c3⟩ := v3 i v d hv hd
          obtain ⟨g1, g2⟩ := cells_get c1
          have hsz : v.cells.size = ei.cells.length := by rw [← Array.length_toList, c2, g1]
          refine ⟨c3, hsz, fun j u hu => ?_⟩
          have hj : j < ei.cells.length := by rw [← hsz]; exact (Array.getElem?_eq_some_iff.1 hu).1
          obtain ⟨c, e1, e2⟩ := g2 j hj
          have huc : u = c := by
            rw [← c2, Array.getElem?_toList, hu] at e1
            injection e1
          subst huc
          have ha : a.spot = none := by
            obtain ⟨cs0, k1, k2, k3⟩ := v3 0 _ _ (List.getElem?_eq_getElem (show 0 < vs.length by have := (List.getElem?_eq_some_iff.1 hv).1; omega)) (List.getElem?_eq_getElem (show 0 < ds.length by have := (List.getElem?_eq_some_iff.1 hd).1; omega))
            obtain ⟨_, k5⟩ := cells_get k1
            obtain ⟨c1, _, k6⟩ := k5 0 (by omega)
            have := spot_of_cell k6
            simpa [Addr.add] using this
          refine ⟨ha, ?_⟩
          rw [add_spot a ha, add_spot _ rfl] at e2
          rw [← e2]
          congr 2
          simp only; omega
        cases hd0 : ds with
        | nil =>
          subst hd0
          simp at hds
          subst hds
          exact ⟨_, _, .nil e (some a) cap hcm, rfl, by simp [dmass, dmass.dmAll, bulk]⟩
        | cons d0 dr =>
          have hpos2 : 0 < ds.length := by rw [hd0]; simp
          have hget2 : ∀ i, i < ds.length → vs[i]? = some (vs.getD i undef) := fun i hi => by
            rw [List.getD_eq_getElem?_getD, List.getElem?_eq_getElem (show i < vs.length by omega)]; rfl
          have hspot : a.spot = none := by
            obtain ⟨_, k2, k3⟩ := hcell 0 _ _ (hget2 0 hpos2) (List.getElem?_eq_getElem hpos2)
            exact (k3 0 _ (Array.getElem?_eq_getElem (by rw [k2]; exact hpos))).1
          refine ⟨.slice (some a) ds.length cap, .list ds, .slice e ei a cap ds (fun i => vs.getD i undef) hpos2 (by omega) hcm he hspot ?_ ?_ ?_, by rw [hds]; rfl, by simp only [dmass, bulk]; omega⟩
          · intro i hi
            exact (hcell i _ _ (hget2 i hi) (List.getElem?_eq_getElem hi)).2.1
          · intro i j u hi hu
            exact ((hcell i _ _ (hget2 i hi) (List.getElem?_eq_getElem hi)).2.2 j u hu).2
          · intro i hi
            exact (hcell i _ _ (hget2 i hi) (List.getElem?_eq_getElem hi)).1
    | agg u =>
      rw [hk] at hu
      obtain ⟨rfl, fs, hfs, hfields, hall⟩ := hu
      obtain ⟨xs, n, hn, hx, hcl, hxl, hget⟩ := DataW.trod_struct hfs h
      injection hx with h1 h2; subst h1
      injection hn with hn; subst hn
      have htight := hti _ ti ht (by rw [hk]; rfl)
      obtain ⟨ds, q1, q2, q3⟩ := fields_rep (M := allMem w) (cs := cs) (ti := ti) hT (xs.map (·.1)) 0 htight (by rw [hfields]; simp [hxl]) (by
        intro i f dW hf hd
        rw [hfields, List.getElem?_map, Option.map_eq_some_iff] at hf
        obtain ⟨fd, hfd, rfl⟩ := hf
        obtain ⟨fi, r1, r2, r3⟩ := hall fd (List.mem_of_getElem? hfd)
        rw [List.getElem?_map, Option.map_eq_some_iff] at hd
        obtain ⟨x, hx, rfl⟩ := hd
        have hg := hget i fd (by rw [← hfd]; simp)
        rw [hx, (hT _ fi r1).size] at hg
        obtain ⟨v, d, s1, s2, s3⟩ := ih fd.type fi _ x.1 x.2 r1 (np3 (fd.offset, fd.type) (by rw [hfields]; exact List.mem_map.2 ⟨fd, List.mem_of_getElem? hfd, rfl⟩)) hg
        exact ⟨fi, v, d, r1, r2, s1, s2, s3⟩)
      have hsz := hi.size
      refine ⟨.agg cs.toArray, .agg ds, .agg _ ti cs ds ht hk (by omega) (by omega) (fun i h1 h2 h3 => ?_), by simp [Value.cells], by simp only [dmass, bulk]; omega⟩
      exact q2 i _ _ _ (by rw [Nat.zero_add]; exact List.getElem?_eq_getElem h1) (by rw [Nat.zero_add]; exact List.getElem?_eq_getElem h2) (List.getElem?_eq_getElem h3)

end
end Go.Proofs.YtjofkhdnidjleabDoor.DS
