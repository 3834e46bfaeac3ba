/- The data-level semantics: plain data, an interpreter of the program over them, and its soundness; part 6. -/
import Derived.Test.YtbinmfenhbpdnaaF5
import Derived.Carry
import Derived.ChangeShapes
import GoSem.ClaimChange
import Derived.ProofKit
import Derived.Lib.Bytealg
set_option linter.unusedVariables false
set_option linter.unusedSimpArgs false
namespace Go.Proofs.Ytbinmfenhbpdnaa.DS
open Go.RowKit

/-- How much a reading holds (of what the data keep). -/
def bulk {H : Type} : DataW H → Nat
  | .lit (.string bytes) => bytes.length + 1
  | .lit _ => 1
  | .nil => 1
  | .slice elems _ => bulkAll elems + 1
  | .agg parts => bulkAll parts + 1
  | _ => 0
where bulkAll {H : Type} : List (DataW H) → Nat
  | [] => 0
  | d :: r => bulk d + bulkAll r
def dmass : D → Nat
  | .str s => s.length + 1
  | .list xs => dmAll xs + 1
  | .agg cs => dmAll cs
  | .no => 0
  | _ => 1
where dmAll : List D → Nat
  | [] => 0
  | d :: r => dmass d + dmAll r
theorem dmAll_append (l m : List D) : dmass.dmAll (l ++ m) = dmass.dmAll l + dmass.dmAll m := by
  induction l with
  | nil => simp [dmass.dmAll]
  | cons d r ih => simp [dmass.dmAll, ih]; omega

theorem mapM_get {α β : Type} {f : α → Option β} : ∀ (l : List α) (r : List β), l.mapM f = some r → r.length = l.length ∧ ∀ (i : Nat) x, l[i]? = some x → ∃ y, r[i]? = some y ∧ f x = some y := by
  intro l
  induction l with
  | nil => intro r h; simp at h; subst h; exact ⟨rfl, fun i x h => by simp at h⟩
  | cons a l ih =>
    intro r h
    rw [List.mapM_cons] at h
    cases hf : f a with
    | none => rw [hf] at h; cases h
    | some y =>
      rw [hf] at h
      cases hl : l.mapM f with
      | none => rw [hl] at h; cases h
      | some ys =>
        rw [hl] at h
        injection h with h; subst h
        obtain ⟨h1, h2⟩ := ih ys hl
        refine ⟨by simp [h1], fun i x hx => ?_⟩
        cases i with
        | zero => simp at hx; subst hx; exact ⟨y, rfl, hf⟩
        | succ i => exact h2 i x (by simpa using hx)

/-- The fields of a struct lie side by side. -/
def tight (tt : TT) (total : Nat) : Nat → List (Nat × TypeId) → Bool
  | off, [] => Nat.beq off total
  | off, (o, t) :: r => Nat.beq o off && (match lk t tt with | some fi => tight tt total (off + fi.cells.length) r | none => false)
def Tight (tt : TT) : Prop := ∀ t ti, lk t tt = some ti → ti.kt.single = false → tight tt ti.cells.length 0 ti.fields = true
/-- Types through which no pointer is reached. -/
def NoPtr (tt : TT) (S : List Nat) : Prop := ∀ t ∈ S, ∀ ti, lk t tt = some ti → ti.kt ≠ .ptr ∧ (∀ e, ti.kt = .slice e → e ∈ S) ∧ ∀ f ∈ ti.fields, f.2 ∈ S
def fldIn (S : List Nat) : List (Nat × TypeId) → Bool
  | [] => true
  | (_, t) :: r => cond (memN t S) (fldIn S r) false
def npOk (tt : TT) (S : List Nat) (t : Nat) : Bool := match lk t tt with
  | some ti => (match ti.kt with | .ptr => false | .slice e => memN e S | _ => true) && fldIn S ti.fields
  | none => false
def npStep (tt : TT) (S : List Nat) : List Nat → List Nat
  | [] => []
  | t :: r => cond (npOk tt S t) (t :: npStep tt S r) (npStep tt S r)
def npIter (tt : TT) : Nat → List Nat → List Nat
  | 0, S => S
  | n + 1, S => let S' := npStep tt S S; cond (Nat.beq S'.length S.length) S (npIter tt n S')
def npSet (tt : TT) : List Nat := npIter tt 40 (keysN tt)
def npAll (tt : TT) (S : List Nat) : List Nat → Bool
  | [] => true
  | t :: r => cond (npOk tt S t) (npAll tt S r) false
theorem fldIn_spec {S : List Nat} : ∀ {l : List (Nat × TypeId)}, fldIn S l = true → ∀ f ∈ l, f.2 ∈ S := by
  intro l
  induction l with
  | nil => intro _ f h; cases h
  | cons x r ih =>
    obtain ⟨o, t⟩ := x
    intro h f hf
    simp only [fldIn] at h
    cases hb : memN t S with
    | false => rw [hb] at h; cases h
    | true =>
      rw [hb] at h
      rcases List.mem_cons.1 hf with rfl | hf
      · exact memN_iff.1 hb
      · exact ih h f hf
theorem npAll_spec {tt : TT} {S : List Nat} : ∀ {l : List Nat}, npAll tt S l = true → ∀ t ∈ l, npOk tt S t = true := by
  intro l
  induction l with
  | nil => intro _ t h; cases h
  | cons x r ih =>
    intro h t ht
    simp only [npAll] at h
    cases hb : npOk tt S x with
    | false => rw [hb] at h; cases h
    | true =>
      rw [hb] at h
      rcases List.mem_cons.1 ht with rfl | ht
      · exact hb
      · exact ih h t ht
theorem npAll_no {tt : TT} {S : List Nat} (h : npAll tt S S = true) : NoPtr tt S := by
  intro t ht ti hti
  have := npAll_spec h t ht
  unfold npOk at this
  rw [hti] at this
  simp only [Bool.and_eq_true] at this
  obtain ⟨h1, h2⟩ := this
  refine ⟨fun e => ?_, fun e he => ?_, fldIn_spec h2⟩
  · rw [e] at h1; cases h1
  · rw [he] at h1; exact memN_iff.1 h1
/-- No element has no cells. -/
def Elems (tt : TT) : Prop := ∀ t ti e, lk t tt = some ti → ti.kt = .slice e → ∃ ei, lk e tt = some ei ∧ 0 < ei.cells.length

section
variable {H : Type} {enc : TypeId × Value → H} {P : Program} {tt : TT} (hT : TTok P tt) (hti : Tight tt) (hel : Elems tt)

theorem cells_get {w : World} {a : Addr} {n : Nat} {cs : List Value} (h : w.cells? 0 a n = some cs) : cs.length = n ∧ ∀ j, j < n → ∃ c, cs[j]? = some c ∧ w.cell? (a.add j) = some c := by
  unfold World.cells? at h
  rw [if_pos (Nat.zero_le _)] at h
  obtain ⟨h1, h2⟩ := mapM_get _ _ h
  refine ⟨by simpa using h1, fun j hj => h2 j j ?_⟩
  simp [hj]

/-- Memory, all of it. -/
def allMem (w : World) : Mem := fun ad => w.cell? ad
theorem spot_of_cell {w : World} {a : Addr} {v : Value} (h : w.cell? a = some v) : a.spot = none := by
  unfold World.cell? at h
  split at h
  · cases hs : a.spot with
    | none => rfl
    | some s => rw [hs] at h; simp at h
  · cases h

/-- The fields' data, one behind the other. -/
theorem fields_rep {M : Mem} {ti : TI} {cs : List Value} {fs : List (Nat × TypeId)} (hT : TTok P tt) : ∀ (dWs : List (DataW H)) (off : Nat), tight tt ti.cells.length off fs = true → dWs.length = fs.length →
    (∀ (i : Nat) (f : Nat × TypeId) (dW : DataW H), fs[i]? = some f → dWs[i]? = some dW → ∃ fi v d, lk f.2 tt = some fi ∧ (ti.cells.drop f.1).take fi.cells.length = fi.cells ∧ Rep tt M fi.kt v d ∧ v.cells.toList = (cs.drop f.1).take fi.cells.length ∧ dmass d ≤ bulk dW) →
    ∃ ds : List D, off + ds.length = ti.cells.length ∧ (∀ (i : Nat) k c d, ti.cells[off + i]? = some k → cs[off + i]? = some c → ds[i]? = some d → Rep tt M k c d) ∧ dmass.dmAll ds ≤ bulk.bulkAll dWs := by
  induction fs with
  | nil =>
    intro dWs off h hl _
    exact ⟨[], by have := beq_iff.1 h; simpa using this, fun i k c d _ _ h => by simp at h, by simp [dmass.dmAll]⟩
  | cons f r ih =>
    intro dWs off h hl hall
    obtain ⟨o, t⟩ := f
    simp only [tight, Bool.and_eq_true] at h
    obtain ⟨ho, h⟩ := h
    have ho := beq_iff.1 ho
    subst ho
    cases dWs with
    | nil => simp at hl
    | cons dW dWs =>
      obtain ⟨fi, v, d, hfi, hcell, hrep, hv, hm⟩ := hall 0 (o, t) dW rfl rfl
      rw [hfi] at h
      simp only at h
      obtain ⟨ds, h1, h2, h3⟩ := ih dWs (o + fi.cells.length) h (by simpa using hl) (fun i f dW hf hd => hall (i + 1) f dW (by simpa using hf) (by simpa using hd))
      obtain ⟨q1, q2, q3⟩ := hrep.kt_cells hT hfi
      have hcl : dmass.dmAll d.cells ≤ dmass d := by
        cases d <;> simp [D.cells, dmass.dmAll, dmass]
      refine ⟨d.cells ++ ds, by rw [List.length_append, q2]; omega, ?_, by rw [dmAll_append]; simp only [bulk.bulkAll]; omega⟩
      intro i k c dd hk hc hd
      by_cases hi : i < d.cells.length
      · rw [List.getElem?_append_left hi] at hd
        have hk2 : fi.cells[i]? = some k := by
          rw [← hcell, List.getElem?_take, if_pos (by rw [← q2]; exact hi), List.getElem?_drop]; exact hk
        have hc2 : v.cells.toList[i]? = some c := by
          rw [hv, List.getElem?_take, if_pos (by rw [← q2]; exact hi), List.getElem?_drop]; exact hc
        obtain ⟨hk3, hk4⟩ := List.getElem?_eq_some_iff.1 hk2
        obtain ⟨hc3, hc4⟩ := List.getElem?_eq_some_iff.1 hc2
        obtain ⟨hd3, hd4⟩ := List.getElem?_eq_some_iff.1 hd
        have := q3 i hk3 (by simpa using hc3) hd3
        rw [hk4, hd4] at this
        rw [← hc4]
        simpa using this
      · rw [List.getElem?_append_right (by omega), q2] at hd
        rw [q2] at hi
        exact h2 (i - fi.cells.length) k c dd (by rw [← hk]; congr 1; omega) (by rw [← hc]; congr 1; omega) hd

theorem list_rep {α : Type} : ∀ (elems : List (DataW H × α)) (Q : Nat → Value → D → Prop), (∀ (i : Nat) x, elems[i]? = some x → ∃ v d, Q i v d ∧ dmass d ≤ bulk x.1) →
    ∃ (vs : List Value) (ds : List D), vs.length = elems.length ∧ ds.length = elems.length ∧ (∀ i v d, vs[i]? = some v → ds[i]? = some d → Q i v d) ∧ dmass.dmAll ds ≤ bulk.bulkAll (elems.map (·.1)) := by
  intro elems
  induction elems with
  | nil => intro Q _; exact ⟨[], [], rfl, rfl, fun i v d h => by simp at h, by simp [dmass.dmAll]⟩
  | cons x r ih =>
    intro Q h
    obtain ⟨v, d, h1, h2⟩ := h 0 x rfl
    obtain ⟨vs, ds, k1, k2, k3, k4⟩ := ih (fun i => Q (i + 1)) (fun i y hy => h (i + 1) y (by simpa using hy))
    refine ⟨v :: vs, d :: ds, by simp [k1], by simp [k2], ?_, by simp only [dmass.dmAll, List.map_cons, bulk.bulkAll]; omega⟩
    intro i v' d' hv hd
    cases i with
    | zero => simp at hv hd; subst hv hd; exact h1
    | succ i => exact k3 i v' d' (by simpa using hv) (by simpa using hd)

include hT hti hel in
theorem trod_rep {S : List Nat} (hnp : NoPtr tt S) {w : World} {sp : Nat → Bool} {hd : Bool} : ∀ fuel t ti cs (dW : DataW H) ps, lk t tt = some ti → t ∈ S → DataW.trod enc P w 0 sp hd fuel t cs = some (dW, ps) →
    ∃ v d, Rep tt (allMem w) ti.kt v d ∧ v.cells.toList = cs ∧ dmass d ≤ bulk dW := by
  intro fuel
  induction fuel with
  | zero => intro t ti cs dW ps _ _ h; cases h
  | succ fuel ih =>
    intro t ti cs dW ps ht htS h
    obtain ⟨np1, np2, np3⟩ := hnp t htS ti ht
    have hi := hT t ti ht
    have hu := hi.under
    cases hk : ti.kt with
    | ptr => exact absurd hk np1
    | bool =>
      rw [hk] at hu
      obtain ⟨b, rfl, hx⟩ := DataW.trod_bool hu.1 h
      injection hx with h1 h2; subst h1
      exact ⟨_, _, .bool b, rfl, by simp [dmass, bulk]⟩
    | int k =>
      rw [hk] at hu
      obtain ⟨n, rfl, hx, hw⟩ := DataW.trod_int hu.1 h
      injection hx with h1 h2; subst h1
      exact ⟨_, _, .int k n hw, rfl, by simp [dmass, bulk]⟩
    | str =>
      rw [hk] at hu
      obtain ⟨s, rfl, hx, hw⟩ := DataW.trod_string hu.1 h
      injection hx with h1 h2; subst h1
      exact ⟨_, _, .str s hw, rfl, by simp [dmass, bulk]⟩
    | slice e =>
      rw [hk] at hu
      obtain ⟨ei, he, hpos⟩ := hel t ti e ht hk
      have hes : P.cellsOf e = ei.cells.length := (hT e ei he).size
      rcases DataW.trod_slice hu.1 h with ⟨rfl, hx⟩ | ⟨a, len, cap, elems, rest, n, hn, rfl, hx, _, hlc, hcm, hlen, hel2, _⟩
      · injection hx with h1 h2; subst h1
        exact ⟨_, _, .nil e none 0 (Nat.zero_le _), rfl, by simp [dmass, bulk, dmass.dmAll]⟩
      · injection hx with h1 h2; subst h1
        injection hn with hn; subst hn
        rw [hes] at hel2
        have hget : ∀ (i : Nat) x, elems[i]? = some x → ∃ v d, (∃ cs, w.cells? 0 (a.add (i * ei.cells.length)) ei.cells.length = some cs ∧ v.cells.toList = cs ∧ Rep tt (allMem w) ei.kt v d) ∧ dmass d ≤ bulk x.1 := by
          intro i x hx
          have hil := (List.getElem?_eq_some_iff.1 hx).1
          have h1 := hel2 i (by omega)
          rw [hx] at h1
          cases hc : w.cells? 0 (a.add (i * ei.cells.length)) ei.cells.length with
          | none => rw [hc] at h1; cases h1
          | some cs =>
            rw [hc] at h1
            obtain ⟨v, d, s1, s2, s3⟩ := ih e ei cs x.1 x.2 he (np2 e hk) h1
            exact ⟨v, d, ⟨cs, rfl, s2, s1⟩, s3⟩
        obtain ⟨vs, ds, v1, v2, v3, v4⟩ := list_rep elems _ hget
        have hds : ds.length = len := by omega
        have hcell : ∀ i v d, vs[i]? = some v → ds[i]? = some d → Rep tt (allMem w) ei.kt v d ∧ v.cells.size = ei.cells.length ∧ ∀ j u, v.cells[j]? = some u → a.spot = none ∧ w.cell? ⟨a.block, a.off + (i * ei.cells.length + j), none⟩ = some u := by
          intro i v d hv hd
          obtain ⟨cs, c1, c2, c3⟩ := v3 i v d hv hd
          obtain ⟨g1, g2⟩ := cells_get c1
          have hsz : v.cells.size = ei.cells.length := by rw [← Array.length_toList, c2, g1]
          refine ⟨c3, hsz, fun j u hu => ?_⟩
          have hj : j < ei.cells.length := by rw [← hsz]; exact (Array.getElem?_eq_some_iff.1 hu).1
          obtain ⟨c, e1, e2⟩ := g2 j hj
          have huc : u = c := by
            rw [← c2, Array.getElem?_toList, hu] at e1
            injection e1
          subst huc
          have ha : a.spot = none := by
            obtain ⟨cs0, k1, k2, k3⟩ := v3 0 _ _ (List.getElem?_eq_getElem (show 0 < vs.length by have := (List.getElem?_eq_some_iff.1 hv).1; omega)) (List.getElem?_eq_getElem (show 0 < ds.length by have := (List.getElem?_eq_some_iff.1 hd).1; omega))
            obtain ⟨_, k5⟩ := cells_get k1
            obtain ⟨c1, _, k6⟩ := k5 0 (by omega)
            have := spot_of_cell k6
            simpa [Addr.add] using this
          refine ⟨ha, ?_⟩
          rw [add_spot a ha, add_spot _ rfl] at e2
          rw [← e2]
          congr 2
          simp only; omega
        cases hd0 : ds with
        | nil =>
          subst hd0
          simp at hds
          subst hds
          exact ⟨_, _, .nil e (some a) cap hcm, rfl, by simp [dmass, dmass.dmAll, bulk]⟩
        | cons d0 dr =>
          have hpos2 : 0 < ds.length := by rw [hd0]; simp
          have hget2 : ∀ i, i < ds.length → vs[i]? = some (vs.getD i undef) := fun i hi => by
            rw [List.getD_eq_getElem?_getD, List.getElem?_eq_getElem (show i < vs.length by omega)]; rfl
          have hspot : a.spot = none := by
            obtain ⟨_, k2, k3⟩ := hcell 0 _ _ (hget2 0 hpos2) (List.getElem?_eq_getElem hpos2)
            exact (k3 0 _ (Array.getElem?_eq_getElem (by rw [k2]; exact hpos))).1
          refine ⟨.slice (some a) ds.length cap, .list ds, .slice e ei a cap ds (fun i => vs.getD i undef) hpos2 (by omega) hcm he hspot ?_ ?_ ?_, by rw [hds]; rfl, by simp only [dmass, bulk]; omega⟩
          · intro i hi
            exact (hcell i _ _ (hget2 i hi) (List.getElem?_eq_getElem hi)).2.1
          · intro i j u hi hu
            exact ((hcell i _ _ (hget2 i hi) (List.getElem?_eq_getElem hi)).2.2 j u hu).2
          · intro i hi
            exact (hcell i _ _ (hget2 i hi) (List.getElem?_eq_getElem hi)).1
    | agg u =>
      rw [hk] at hu
      obtain ⟨rfl, fs, hfs, hfields, hall⟩ := hu
      obtain ⟨xs, n, hn, hx, hcl, hxl, hget⟩ := DataW.trod_struct hfs h
      injection hx with h1 h2; subst h1
      injection hn with hn; subst hn
      have htight := hti _ ti ht (by rw [hk]; rfl)
      obtain ⟨ds, q1, q2, q3⟩ := fields_rep (M := allMem w) (cs := cs) (ti := ti) hT (xs.map (·.1)) 0 htight (by rw [hfields]; simp [hxl]) (by
        intro i f dW hf hd
        rw [hfields, List.getElem?_map, Option.map_eq_some_iff] at hf
        obtain ⟨fd, hfd, rfl⟩ := hf
        obtain ⟨fi, r1, r2, r3⟩ := hall fd (List.mem_of_getElem? hfd)
        rw [List.getElem?_map, Option.map_eq_some_iff] at hd
        obtain ⟨x, hx, rfl⟩ := hd
        have hg := hget i fd (by rw [← hfd]; simp)
        rw [hx, (hT _ fi r1).size] at hg
        obtain ⟨v, d, s1, s2, s3⟩ := ih fd.type fi _ x.1 x.2 r1 (np3 (fd.offset, fd.type) (by rw [hfields]; exact List.mem_map.2 ⟨fd, List.mem_of_getElem? hfd, rfl⟩)) hg
        exact ⟨fi, v, d, r1, r2, s1, s2, s3⟩)
      have hsz := hi.size
      refine ⟨.agg cs.toArray, .agg ds, .agg _ ti cs ds ht hk (by omega) (by omega) (fun i h1 h2 h3 => ?_), by simp [Value.cells], by simp only [dmass, bulk]; omega⟩
      exact q2 i _ _ _ (by rw [Nat.zero_add]; exact List.getElem?_eq_getElem h1) (by rw [Nat.zero_add]; exact List.getElem?_eq_getElem h2) (List.getElem?_eq_getElem h3)

end
end Go.Proofs.Ytbinmfenhbpdnaa.DS

namespace Go.Proofs.Ytbinmfenhbpdnaa.DS
open Go.RowKit Go.ChangeShapes

/-- How parameters of these types are handed over. -/
def paramsOf0 (tt : TT) (S : List Nat) : List TypeId → Option (List PM)
  | [] => some []
  | t :: r => opt (lk t tt) fun ti => cond (memN t S) (opt (paramsOf0 tt S r) fun x => some (.val ti.kt :: x)) none
def paramsOf (tt : TT) (ts : List TypeId) : Option (List PM) := cond (npAll tt (npSet tt) (npSet tt)) (paramsOf0 tt (npSet tt) ts) none

section
variable {H : Type} {enc : TypeId × Value → H} {P : Program} {tt : TT} (hT : TTok P tt) (hti : Tight tt) (hel : Elems tt)

include hT hti hel in
theorem open_one {S : List Nat} (hnp : NoPtr tt S) {W : World} {base : Nat} {t : TypeId} {ti : TI} {v : Value} {d : DataW H} {ps : List MemPlace} (ht : lk t tt = some ti) (htS : t ∈ S) (hval : Value.okWide P W .any base t v) (h : DataW.Trod enc P W 0 (fun _ => true) true t v d ps) :
    ∃ x, Rep tt (allMem W) ti.kt v x ∧ dmass x ≤ bulk d := by
  obtain ⟨fuel, hf⟩ := h
  obtain ⟨v', x, h1, h2, h3⟩ := trod_rep hT hti hel hnp fuel t ti _ d ps ht htS hf
  have hu := (hT t ti ht).under
  have hone : ti.kt.single = true → v.cells = #[v] → v' = v := by
    intro hk hc
    have := (h1.cells_single hk).1
    rw [this, hc] at h2
    simpa using h2
  have : v' = v := by
    cases hk : ti.kt with
    | bool => rw [hk] at hu; obtain ⟨b, rfl⟩ := WideShapes.okWide_bool hu.1 hval; exact hone (by rw [hk]; rfl) rfl
    | int k => rw [hk] at hu; obtain ⟨b, rfl⟩ := WideShapes.okWide_int hu.1 hval; exact hone (by rw [hk]; rfl) rfl
    | str => rw [hk] at hu; obtain ⟨b, rfl⟩ := WideShapes.okWide_string hu.1 hval; exact hone (by rw [hk]; rfl) rfl
    | slice e => rw [hk] at hu; obtain ⟨_, _, _, rfl⟩ := WideShapes.okWide_slice hu.1 hval; exact hone (by rw [hk]; rfl) rfl
    | ptr => rw [hk] at h1; cases h1
    | agg u =>
      rw [hk] at hu
      obtain ⟨rfl, fs, hfs, _⟩ := hu
      obtain ⟨cs, rfl, _⟩ := WideShapes.okWide_struct hfs hval
      rw [hk] at h1
      obtain ⟨_, cs', rfl, _⟩ := h1.inv_agg
      simp only [Value.cells] at h2
      congr 1
      exact Array.toList_inj.1 h2
  subst this
  exact ⟨x, h1, h3⟩

include hT hti hel in
theorem open_all {S : List Nat} (hnp : NoPtr tt S) {W : World} {base : Nat} : ∀ (ts : List TypeId) (vs : List Value) (ds : List (DataW H)) (ps : List MemPlace) (pms : List PM), DataW.TrodAll enc P W 0 (fun _ => true) true ts vs ds ps →
    (∀ (j : Nat) t v, ts[j]? = some t → vs[j]? = some v → Value.okWide P W .any base t v) → paramsOf0 tt S ts = some pms → ∃ xs, ArgsRep tt (allMem W) pms vs xs ∧ dmass.dmAll xs ≤ bulk.bulkAll ds := by
  intro ts
  induction ts with
  | nil =>
    intro vs ds ps pms h _ hp
    obtain ⟨rfl, rfl, _⟩ := trodAll_nil h
    injection hp with hp; subst hp
    exact ⟨[], trivial, by simp [dmass.dmAll]⟩
  | cons t ts ih =>
    intro vs ds ps pms h hval hp
    obtain ⟨v, vs', d, ds', p, q, rfl, rfl, rfl, h0, h1⟩ := trodAll_cons h
    obtain ⟨ti, ht, hp⟩ := opt_some.1 hp
    obtain ⟨htS, hp⟩ := cond_some.1 hp
    obtain ⟨x, hx, hp⟩ := opt_some.1 hp
    injection hp with hp; subst hp
    obtain ⟨y, hy1, hy2⟩ := open_one hT hti hel hnp ht (memN_iff.1 htS) (hval 0 t v rfl rfl) h0
    obtain ⟨ys, hys1, hys2⟩ := ih vs' ds' q x h1 (fun j t v h1 h2 => hval (j + 1) t v (by simpa using h1) (by simpa using h2)) hx
    exact ⟨y :: ys, ⟨hy1, hys1⟩, by simp only [dmass.dmAll, bulk.bulkAll]; omega⟩

theorem trodAll_stays {W W' : World} (hl : laidOutB P = true) (hb : Below W.heap.size W W') {sp : Nat → Bool} : ∀ (ts : List TypeId) (vs : List Value) (ds : List (DataW H)) (ps : List MemPlace), (∀ t ∈ ts, P.readableRec t = true ∧ t < P.types.size) →
    DataW.TrodAll enc P W 0 (fun _ => true) true ts vs ds ps → (∀ x ∈ ps, x.block < W.heap.size) → (∀ x ∈ ps, sp x.block = true) → DataW.TrodAll enc P W' 0 sp true ts vs ds ps := by
  intro ts
  induction ts with
  | nil => intro vs ds ps _ h _ _; obtain ⟨rfl, rfl, rfl⟩ := trodAll_nil h; rfl
  | cons t ts ih =>
    intro vs ds ps hr h hlt hsp
    obtain ⟨v, vs', d, ds', p, q, rfl, rfl, rfl, h0, h1⟩ := trodAll_cons h
    obtain ⟨r1, r2⟩ := hr t List.mem_cons_self
    refine ⟨p, q, WideElems.Trod_stays hl r1 r2 h0 (fun x hx => hb.same (hlt x (List.mem_append_left _ hx))) (fun x hx => hsp x (List.mem_append_left _ hx)), ?_, rfl⟩
    exact ih vs' ds' q (fun t ht => hr t (List.mem_cons_of_mem _ ht)) h1 (fun x hx => hlt x (List.mem_append_right _ hx)) (fun x hx => hsp x (List.mem_append_right _ hx))
end

theorem paramsOf0_vals {tt : TT} {S : List Nat} : ∀ (ts : List TypeId) (ps : List PM), paramsOf0 tt S ts = some ps → allValP ps = true := by
  intro ts
  induction ts with
  | nil => intro ps h; injection h with h; subst h; rfl
  | cons t r ih =>
    intro ps h
    obtain ⟨ti, _, h⟩ := opt_some.1 h
    obtain ⟨_, h⟩ := cond_some.1 h
    obtain ⟨x, hx, h⟩ := opt_some.1 h
    injection h with h; subst h
    exact ih x hx

theorem law_contract_at {H : Type} {enc : TypeId × Value → H} {P : Program} {E : Env} {W : World} (hE : EnvOK P E W) (hti : Tight E.tt) (hel : Elems E.tt) {f : Nat} {fn : Func} {c : Code} {sg : Sig} (hf : P.funcs[f]? = some fn) (hname : (fn.name == "runtime.NumGoroutine") = false) (hbody : fn.body = some c)
    (hsg : lk f E.sigs = some sg) (hpm : paramsOf E.tt fn.params.toList = some sg.params) (hrs : sg.results = [.val .bool]) {tb : TypeId} (hrt : fn.resultTypes = #[tb]) (htb : P.underlying tb = some .bool) (hlaid : laidOutB P = true)
    (hread : ∀ t ∈ fn.params.toList, P.readableRec t = true ∧ t < P.types.size) {s : ChangeSpec} (hsv : s.vars = []) {apart fresh handsOn again : Bool} {base : Nat} {args : Array Value} {ds gs : List (DataW H)} {before : List MemPlace}
    (hval : ∀ (j : Nat) t v, fn.params[j]? = some t → args[j]? = some v → Value.okWide P W .any base t v) (hW : DataW.Whole enc P fn.params.toList s.vars apart W args.toList ds gs before)
    (hfn : s.fn H (ds ++ gs) = { results := [.lit (.bool true)], args := ds })
    (hrun : ∀ xs, ArgsRep E.tt (allMem W) sg.params args.toList xs → dmass.dmAll xs ≤ bulk.bulkAll ds → ∃ k, run E k f xs = some [.bool true]) :
    Calls P f args W fun e W' => ∃ v, e = .returned v ∧ s.post enc P fn apart fresh handsOn again W args v W' := by
  have hW' := hW
  obtain ⟨p, q, hA, hV, rfl, hfz, hnd⟩ := hW
  rw [hsv] at hV
  obtain ⟨rfl, rfl⟩ := trodVars_none hV
  obtain ⟨hnp, hpm⟩ := cond_some.1 hpm
  obtain ⟨xs, hx1, hx2⟩ := open_all hE.tt hti hel (npAll_no hnp) _ _ _ _ _ hA (fun j t v h1 h2 => hval j t v (by simpa using h1) (by simpa using h2)) hpm
  obtain ⟨k, hk⟩ := hrun xs hx1 hx2
  have hC := (run_sound hE k f sg xs _ hsg hk W (allMem W) args.toList (fun _ => False) (Same.refl W) (fun _ h => h.elim) (argsOK_of hx1 (fun _ _ h => h))).mono fun v w' hret => ret_vals (noBox_outs (noBox_of_val (paramsOf0_vals _ _ hpm))) hret
  rw [Array.toArray_toList] at hC
  have hent : (callFunc f args).run P W = .ok (.enter f args) W := by
    have h2 : ¬ fn.name = "runtime.NumGoroutine" := by simpa using hname
    simp [callFunc, hf, h2, hbody]
  have hcalls : Calls P f args W (fun | .returned v, w' => RetV E W (allMem W) sg.results [.bool true] v w' | _, _ => False) := by
    rcases hC with ⟨_, h⟩ | ⟨v, w', h, _⟩
    · exact h
    · rw [hent] at h; cases h
  refine hcalls.mono fun e W' he => ?_
  cases e with
  | panicked _ => exact he.elim
  | outgrown => exact he.elim
  | returned v =>
    obtain ⟨ι, M', HR, hv⟩ := he 0 [.val .bool (.bool true)] [] (by rw [hrs]; rfl)
    have hv2 : v = .bool true := (Rep.inv_bool (tt := E.tt) (M := M') (d := .bool true) hv).1
    subst hv2
    have hb : Below W.heap.size W W' := ⟨HR.os, HR.tape, HR.output, HR.size, fun k hk => HR.keep k hk (fun h => h)⟩
    have hlt : ∀ x ∈ p, x.block < W.heap.size := fun x hx => by simpa using hW'.lt x (List.mem_append_left _ hx)
    have hres : ∀ (b : Nat) (sp : Nat → Bool) (hd : Bool), DataW.TrodAll enc P W' b sp hd fn.resultTypes.toList ((Value.bool true).resultList fn.resultTypes.size) (s.fn H (ds ++ [])).results [] := by
      intro b sp hd
      rw [hrt, hfn]
      exact trodAll_cons_mk (shut_bool htb _) trodAll_mk0
    have hargs : ∀ sp : Nat → Bool, (∀ x ∈ p, sp x.block = true) → DataW.TrodAll enc P W' 0 sp true fn.params.toList args.toList (s.fn H (ds ++ [])).args p := by
      intro sp hsp
      rw [hfn]
      exact trodAll_stays hlaid hb _ _ _ _ hread hA hlt hsp
    have hvars : ∀ sp : Nat → Bool, DataW.TrodVars enc P W' sp s.vars (s.fn H (ds ++ [])).vars [] := by
      intro sp
      rw [hsv, hfn]; rfl
    refine ⟨_, rfl, ds, [], p ++ [], [], p, [], hW', hres _ _ _, hargs _ (fun x hx => by simpa using hlt x hx), hvars _, hb.frame _, fun _ => ?_⟩
    refine ⟨ok_one hrt rfl (okWide_bool_mk htb _), [.lit (.bool true)] ++ (s.fn H (ds ++ [])).args, (s.fn H (ds ++ [])).vars, ([] ++ p) ++ [], ⟨[] ++ p, [], ?_, hvars _, rfl, ?_, ?_⟩, fun x hx _ => by simpa using hx⟩
    · have h1 := hres 0 (fun _ => true) true
      rw [hfn] at h1
      exact trodAll_append (hargs _ (fun _ _ => rfl)) h1
    · intro b off hp
      have hp' : MemPlace.cell b off ∈ p := by simpa using hp
      rw [hb.frozen (hlt _ hp')]
      exact hfz b off (by simpa using hp')
    · intro ha
      simpa using hnd ha

end Go.Proofs.Ytbinmfenhbpdnaa.DS

namespace Go.Proofs.Ytbinmfenhbpdnaa.DS

def ktsEq : List KT → List KT → Bool
  | [], [] => true
  | a :: r, b :: s => KT.eq a b && ktsEq r s
  | _, _ => false
theorem ktsEq_iff {a b : List KT} : ktsEq a b = true ↔ a = b := by
  induction a generalizing b with
  | nil => cases b <;> simp [ktsEq]
  | cons x r ih => cases b <;> simp [ktsEq, KT.eq_iff, ih]
def fieldsEq : List (Nat × TypeId) → List Field → Bool
  | [], [] => true
  | (o, t) :: r, f :: s => Nat.beq o f.offset && (Nat.beq t f.type && fieldsEq r s)
  | _, _ => false
theorem fieldsEq_spec {a : List (Nat × TypeId)} {b : List Field} (h : fieldsEq a b = true) : a = b.map (fun f => (f.offset, f.type)) := by
  induction a generalizing b with
  | nil => cases b with
    | nil => rfl
    | cons _ _ => cases h
  | cons x r ih =>
    obtain ⟨o, t⟩ := x
    cases b with
    | nil => cases h
    | cons f s =>
      simp only [fieldsEq, Bool.and_eq_true] at h
      obtain ⟨h1, h2, h3⟩ := h
      rw [ih h3, beq_iff.1 h1, beq_iff.1 h2]; rfl
def isZeroV : KT → Value → Bool
  | .bool, .bool b => !b
  | .int k, .int k' n => ikEq k k' && decide (n = 0)
  | .str, .string s => isNilL s.data.toList
  | .slice _, .slice none 0 0 => true
  | .ptr, .pointer none => true
  | _, _ => false
theorem isZeroV_spec {k : KT} {v : Value} (h : isZeroV k v = true) : v = zeroV k := by
  unfold isZeroV at h
  split at h
  · rename_i b; cases b with
    | true => cases h
    | false => rfl
  · simp only [Bool.and_eq_true, decide_eq_true_eq] at h
    rw [ikEq_iff.1 h.1, h.2]; rfl
  · rename_i s
    have : s.data.toList = [] := by
      cases hs : s.data.toList with
      | nil => rfl
      | cons _ _ => rw [hs] at h; cases h
    show Value.string s = .string .empty
    congr 1
    cases s with
    | mk d => congr 1; exact Array.toList_inj.1 this
  · rfl
  · rfl
  · cases h
def zerosB : List KT → List Value → Bool
  | [], [] => true
  | k :: r, v :: s => isZeroV k v && zerosB r s
  | _, _ => false
theorem zerosB_spec {ks : List KT} {vs : List Value} (h : zerosB ks vs = true) : vs.length = ks.length ∧ ∀ (j : Nat) k, ks[j]? = some k → vs[j]? = some (zeroV k) := by
  induction ks generalizing vs with
  | nil => cases vs with
    | nil => exact ⟨rfl, fun j k h => by simp at h⟩
    | cons _ _ => cases h
  | cons k r ih =>
    cases vs with
    | nil => cases h
    | cons v s =>
      simp only [zerosB, Bool.and_eq_true] at h
      obtain ⟨h1, h2⟩ := ih h.2
      refine ⟨by simp [h1], fun j k' hj => ?_⟩
      cases j with
      | zero => simp at hj; subst hj; simp [isZeroV_spec h.1]
      | succ j => simpa using h2 j k' (by simpa using hj)

def underB (P : Program) (tt : TT) (t : TypeId) (ti : TI) : Bool :=
  match ti.kt, P.underlying t with
  | .bool, some .bool => ktsEq ti.cells [.bool]
  | .int k, some (.int k') => ikEq k k' && ktsEq ti.cells [.int k]
  | .str, some .string => ktsEq ti.cells [.str]
  | .ptr, some (.pointer _) => ktsEq ti.cells [.ptr]
  | .slice e, some (.slice e') => Nat.beq e e' && (ktsEq ti.cells [.slice e] && (match lk e tt with | some ei => Nat.ble 1 ei.cells.length | none => false))
  | .agg u, some (.struct fs) => Nat.beq u t && (fieldsEq ti.fields fs.toList && (fs.toList.all (fun f => match lk f.type tt with
    | some fi => ktsEq ((ti.cells.drop f.offset).take fi.cells.length) fi.cells && Nat.ble (f.offset + fi.cells.length) ti.cells.length
    | none => false) && tight tt ti.cells.length 0 ti.fields))
  | _, _ => false
def zeroB (ti : TI) (z : Value) : Bool :=
  match ti.kt with
  | .agg _ => match z with
    | .agg cs => zerosB ti.cells cs.toList
    | _ => false
  | k => isZeroV k z && zerosB ti.cells [z]
/-- A struct of plain fields can be compared. -/
def namesB (P : Program) (tt : TT) (t : TypeId) (ti : TI) : Bool := !plainF tt ti.fields 0 || match P.underlying t with
  | some (.struct fs) => fs.toList.all (fun f => !(f.name == "_")) && (!P.stoodInHeld t && !P.eqGuardType P.depth t)
  | _ => true
theorem namesB_spec {P : Program} {tt : TT} {t : TypeId} {ti : TI} (h : namesB P tt t ti = true) (hp : plainF tt ti.fields 0 = true) (fs : Array Field) (hu : P.underlying t = some (.struct fs)) : (∀ f ∈ fs.toList, f.name ≠ "_") ∧ P.stoodInHeld t = false ∧ P.eqGuardType P.depth t = false := by
  unfold namesB at h
  rw [hp, hu] at h
  simp only [Bool.not_true, Bool.false_or, Bool.and_eq_true, Bool.not_eq_true'] at h
  refine ⟨fun f hf e => ?_, h.2.1, h.2.2⟩
  have := List.all_eq_true.1 h.1 f hf
  rw [e] at this
  simp at this
def tiB (P : Program) (tt : TT) (t : TypeId) (ti : TI) : Bool :=
  match P.info? t with
  | none => false
  | some i => Nat.beq (P.cellsOf t) ti.cells.length && (Nat.beq i.size ti.cells.length && (Nat.beq i.bytes ti.bytes && (underB P tt t ti && (namesB P tt t ti && (ti.cells.all KT.single && (match i.zero with
    | some z => zeroB ti z
    | none => false))))))
def ttB (P : Program) (tt : TT) : TT → Bool
  | [] => true
  | (t, ti) :: r => tiB P tt t ti && ttB P tt r

theorem tiB_spec {P : Program} {tt : TT} {t : TypeId} {ti : TI} (h : tiB P tt t ti = true) : TIok P tt t ti ∧ (ti.kt.single = false → tight tt ti.cells.length 0 ti.fields = true) ∧ (∀ e, ti.kt = .slice e → ∃ ei, lk e tt = some ei ∧ 0 < ei.cells.length) := by
  unfold tiB at h
  cases hi : P.info? t with
  | none => rw [hi] at h; cases h
  | some i =>
    rw [hi] at h
    simp only [Bool.and_eq_true] at h
    obtain ⟨h1, h2, h3, h4, h4n, h5, h6⟩ := h
    have h1 := beq_iff.1 h1
    have h2 := beq_iff.1 h2
    have h3 := beq_iff.1 h3
    have hz : ∃ z, i.zero = some z ∧ zeroB ti z = true := by
      cases hz : i.zero with
      | none => rw [hz] at h6; cases h6
      | some z => rw [hz] at h6; exact ⟨z, rfl, h6⟩
    obtain ⟨z, hz, h6⟩ := hz
    have hzero : z.cells.size = ti.cells.length ∧ (ti.kt.single = false → ∃ cs, z = .agg cs) ∧ (ti.kt.single = true → z.cells = #[z]) ∧ ∀ (j : Nat) (k : KT), ti.cells[j]? = some k → z.cells[j]? = some (zeroV k) := by
      unfold zeroB at h6
      have hsing : ∀ k, ti.kt = k → k.single = true → isZeroV k z = true → zerosB ti.cells [z] = true → z.cells = #[z] ∧ ∀ (j : Nat) (k : KT), ti.cells[j]? = some k → z.cells[j]? = some (zeroV k) := by
        intro k hk hs q1 q2
        have hz2 := isZeroV_spec q1
        have hc : z.cells = #[z] := by rw [hz2]; cases k <;> first | rfl | (simp [KT.single] at hs)
        refine ⟨hc, fun j k' hj => ?_⟩
        rw [hc]
        have := (zerosB_spec q2).2 j k' hj
        simpa using this
      have hlen : zerosB ti.cells [z] = true → ti.cells.length = 1 := fun q => by have := (zerosB_spec q).1; simpa using this.symm
      cases hk : ti.kt with
      | agg u =>
        rw [hk] at h6
        cases z with
        | agg cs =>
          obtain ⟨q1, q2⟩ := zerosB_spec h6
          refine ⟨by simpa [Value.cells] using q1, fun _ => ⟨cs, rfl⟩, fun h => by simp [KT.single] at h, fun j k hj => ?_⟩
          have := q2 j k hj
          simpa [Value.cells] using this
        | _ => cases h6
      | _ =>
        rw [hk] at h6
        simp only [Bool.and_eq_true] at h6
        obtain ⟨q1, q2⟩ := hsing _ hk rfl h6.1 h6.2
        exact ⟨by rw [q1, hlen h6.2]; rfl, fun h => by simp [KT.single] at h, fun _ => q1, q2⟩
    unfold underB at h4
    refine ⟨⟨h1, ⟨i, hi, h2, h3⟩, ?_, fun k hk => List.all_eq_true.1 h5 k hk, namesB_spec h4n, ⟨i, z, hi, hz, hzero⟩⟩, ?_, ?_⟩
    · split at h4
      · rename_i e1 e2; rw [e1]; exact ⟨e2, ktsEq_iff.1 h4⟩
      · rename_i e1 e2; simp only [Bool.and_eq_true] at h4; rw [e1, ikEq_iff.1 h4.1]; exact ⟨e2, by rw [← ikEq_iff.1 h4.1]; exact ktsEq_iff.1 h4.2⟩
      · rename_i e1 e2; rw [e1]; exact ⟨e2, ktsEq_iff.1 h4⟩
      · rename_i e1 e2; rw [e1]; exact ⟨⟨_, e2⟩, ktsEq_iff.1 h4⟩
      · rename_i e e' e1 e2
        simp only [Bool.and_eq_true] at h4
        rw [e1]
        have := beq_iff.1 h4.1
        subst this
        refine ⟨e2, ktsEq_iff.1 h4.2.1, ?_⟩
        cases hl : lk e tt with
        | none => rw [hl] at h4; simp at h4
        | some _ => rfl
      · rename_i u fs e1 e2
        simp only [Bool.and_eq_true] at h4
        rw [e1]
        refine ⟨beq_iff.1 h4.1, fs, e2, fieldsEq_spec h4.2.1, fun f hf => ?_⟩
        have := List.all_eq_true.1 h4.2.2.1 f hf
        cases hl : lk f.type tt with
        | none => rw [hl] at this; cases this
        | some fi =>
          rw [hl] at this
          simp only [Bool.and_eq_true] at this
          exact ⟨fi, rfl, ktsEq_iff.1 this.1, Nat.le_of_ble_eq_true this.2⟩
      · cases h4
    · intro hs
      split at h4
      case h_6 => simp only [Bool.and_eq_true] at h4; exact h4.2.2.2
      case h_7 => cases h4
      all_goals (rename_i e1 e2; rw [e1] at hs; simp [KT.single] at hs)
    · intro e he
      rw [he] at h4
      split at h4
      case h_5 e1 e2 e3 e4 =>
        injection e3 with e3; subst e3
        simp only [Bool.and_eq_true] at h4
        cases hl : lk e tt with
        | none => rw [hl] at h4; simp at h4
        | some ei => rw [hl] at h4; exact ⟨ei, rfl, Nat.le_of_ble_eq_true h4.2.2⟩
      case h_7 => cases h4
      all_goals (rename_i e1 e2; cases e1)

theorem ttB_spec {P : Program} {tt : TT} : ∀ (l : TT), ttB P tt l = true → ∀ t ti, lk t l = some ti → tiB P tt t ti = true := by
  intro l
  induction l with
  | nil => intro _ t ti h; cases h
  | cons p r ih =>
    obtain ⟨u, x⟩ := p
    intro h t ti hl
    simp only [ttB, Bool.and_eq_true] at h
    simp only [lk] at hl
    cases hb : Nat.beq t u with
    | true => rw [hb] at hl; injection hl with hl; subst hl; rw [beq_iff.1 hb]; exact h.1
    | false => rw [hb] at hl; exact ih h.2 t ti hl
theorem tt_ok {P : Program} {tt : TT} (h : ttB P tt tt = true) : TTok P tt ∧ Tight tt ∧ Elems tt :=
  ⟨fun t ti hl => (tiB_spec (ttB_spec tt h t ti hl)).1, fun t ti hl => (tiB_spec (ttB_spec tt h t ti hl)).2.1, fun t ti e hl => (tiB_spec (ttB_spec tt h t ti hl)).2.2 e⟩

def fnB (E : Env) (f : Nat) (fn : Func) : Bool :=
  !(fn.name == "runtime.NumGoroutine") && ((match fn.body with | some c => okCode c | none => true) && (match lk f E.sigs with | some sg => Nat.ble sg.params.length fn.ntmps && (match fn.body with | some c => noDst (boxPs sg.params 0) c | none => true) | none => true))
theorem fnB_spec {P : Program} {E : Env} {f : Nat} {fn : Func} (hget : P.funcs[f]? = some fn) (h : fnB E f fn = true) : FnOK P E f fn := by
  simp only [fnB, Bool.and_eq_true, Bool.not_eq_true'] at h
  obtain ⟨h1, h2, h3⟩ := h
  refine ⟨hget, h1, fun c hc => by rw [hc] at h2; exact h2, fun sg hsg => ?_, fun sg hsg c hc => ?_⟩
  · rw [hsg] at h3
    simp only [Bool.and_eq_true] at h3
    exact Nat.le_of_ble_eq_true h3.1
  · rw [hsg] at h3
    simp only [Bool.and_eq_true, hc] at h3
    exact h3.2

end Go.Proofs.Ytbinmfenhbpdnaa.DS

namespace Go.Proofs.Ytbinmfenhbpdnaa.DS

inductive LB : D → Prop
  | no : LB .no
  | bool (b : Bool) : LB (.bool b)
  | int (n : Int) : LB (.int n)
  | str (s : List UInt8) (h : s.length ≤ maxLen) : LB (.str s)
  | list (xs : List D) (h : xs.length ≤ maxLen) (hx : ∀ x ∈ xs, LB x) : LB (.list xs)
  | agg (cs : List D) (hx : ∀ x ∈ cs, LB x) : LB (.agg cs)
theorem LB.of_rep {tt : TT} {M : Mem} {k : KT} {v : Value} {d : D} (h : Rep tt M k v d) : LB d := by
  induction h with
  | bool b => exact .bool b
  | int k n h => exact .int n
  | str s h => exact .str _ (by rw [Array.length_toList]; exact h)
  | nil e a cap h => exact .list [] (Nat.zero_le _) (fun x hx => by cases hx)
  | slice e ei ad cap xs vs h0 hc hm he hs hz hMM hr ih =>
    refine .list xs (Nat.le_trans hc hm) (fun x hx => ?_)
    obtain ⟨i, hi, rfl⟩ := List.mem_iff_getElem.1 hx
    exact ih i hi
  | agg t ti cs ds ht hk hl hd hr ih =>
    refine .agg ds (fun x hx => ?_)
    obtain ⟨i, hi, rfl⟩ := List.mem_iff_getElem.1 hx
    exact ih i (by omega) (by omega) hi
theorem LB.list_inv {xs : List D} (h : LB (.list xs)) : xs.length ≤ maxLen ∧ ∀ x ∈ xs, LB x := by cases h with | list _ h1 h2 => exact ⟨h1, h2⟩
theorem LB.cell {d : D} (h : LB d) (i : Nat) : LB (d.cell i) := by
  have key : ∀ cs : List D, (∀ x ∈ cs, LB x) → LB (cs.getD i .no) := by
    intro cs hcs
    rw [List.getD_eq_getElem?_getD]
    cases hi : cs[i]? with
    | none => exact .no
    | some x => exact hcs x (List.mem_of_getElem? hi)
  cases h with
  | agg cs hx => exact key cs hx
  | no => exact key [.no] (fun x hx => by simp at hx; subst hx; exact .no)
  | bool b => exact key [.bool b] (fun x hx => by simp at hx; subst hx; exact .bool b)
  | int n => exact key [.int n] (fun x hx => by simp at hx; subst hx; exact .int n)
  | str s h => exact key [.str s] (fun x hx => by simp at hx; subst hx; exact .str s h)
  | list xs h hx => exact key [.list xs] (fun x hx' => by simp at hx'; subst hx'; exact .list xs h hx)
theorem LB.toList {d : D} (h : LB d) : LB (.list d.toList) := by
  cases h with
  | list xs h hx => exact .list xs h hx
  | _ => exact .list [] (Nat.zero_le _) (fun x hx => by cases hx)

theorem size_cell (d : D) (i : Nat) : SizeOf.sizeOf (d.cell i) ≤ SizeOf.sizeOf d := by
  have key : ∀ cs : List D, SizeOf.sizeOf (cs.getD i .no) ≤ 1 + SizeOf.sizeOf cs := by
    intro cs
    rw [List.getD_eq_getElem?_getD]
    cases hi : cs[i]? with
    | none => simp
    | some x => have := List.sizeOf_lt_of_mem (List.mem_of_getElem? hi); simp; omega
  cases d with
  | agg cs =>
    have h1 := key cs
    have h2 : SizeOf.sizeOf (D.agg cs) = 1 + SizeOf.sizeOf cs := by simp
    show SizeOf.sizeOf (cs.getD i .no) ≤ SizeOf.sizeOf (D.agg cs)
    omega
  | _ => cases i <;> simp [D.cell, D.cells] <;> omega
theorem size_toList (d : D) : SizeOf.sizeOf d.toList ≤ SizeOf.sizeOf d := by
  cases d <;> simp [D.toList] <;> omega
theorem size_kids {xs : List D} {i : Nat} (hi : i < xs.length) (j : Nat) : SizeOf.sizeOf ((xs.getD i .no).cell j).toList < SizeOf.sizeOf xs := by
  have h1 : xs.getD i .no ∈ xs := by rw [List.getD_eq_getElem?_getD, List.getElem?_eq_getElem hi]; exact List.getElem_mem hi
  have := List.sizeOf_lt_of_mem h1
  have := size_cell (xs.getD i .no) j
  have := size_toList ((xs.getD i .no).cell j)
  omega

theorem args_nil {tt : TT} {M : Mem} {vs : List Value} {xs : List D} (h : ArgsRep tt M [] vs xs) : vs = [] ∧ xs = [] := by
  cases vs <;> cases xs <;> first | exact ⟨rfl, rfl⟩ | exact False.elim h
theorem args_cons {tt : TT} {M : Mem} {k : KT} {ps : List PM} {vs : List Value} {xs : List D} (h : ArgsRep tt M (.val k :: ps) vs xs) : ∃ v vs' x xs', vs = v :: vs' ∧ xs = x :: xs' ∧ Rep tt M k v x ∧ ArgsRep tt M ps vs' xs' := by
  cases vs with
  | nil => cases xs <;> exact False.elim h
  | cons v vs =>
    cases xs with
    | nil => exact False.elim h
    | cons x xs => exact ⟨v, vs, x, xs, rfl, rfl, h.1, h.2⟩

def Ev (E : Env) (f : Nat) (args r : List D) : Prop := ∃ k0, ∀ k, k0 ≤ k → run E k f args = some r
theorem choose_all {β : Type} {P : Nat → β → Nat → Prop} [Inhabited β] (hmono : ∀ i b k k', k ≤ k' → P i b k → P i b k') : ∀ n, (∀ i, i < n → ∃ b k, P i b k) → ∃ B : Nat → β, ∃ K, ∀ i, i < n → P i (B i) K := by
  intro n
  induction n with
  | zero => intro _; exact ⟨fun _ => default, 0, fun i h => absurd h (Nat.not_lt_zero _)⟩
  | succ n ih =>
    intro h
    obtain ⟨B, K, hB⟩ := ih (fun i hi => h i (by omega))
    obtain ⟨b, k, hb⟩ := h n (by omega)
    refine ⟨put B n b, max K k, fun i hi => ?_⟩
    by_cases e : i = n
    · subst e; rw [put_same]; exact hmono _ _ _ _ (Nat.le_max_right _ _) hb
    · rw [put_other _ _ _ e]; exact hmono _ _ _ _ (Nat.le_max_left _ _) (hB i (by omega))

theorem wrap64 {i : Int} (h0 : -9223372036854775808 ≤ i) (h1 : i ≤ 9223372036854775807) : IntKind.i64.wrap i = i := by
  simp only [IntKind.wrap, IntKind.signed, IntKind.bits]
  simp
  omega

end Go.Proofs.Ytbinmfenhbpdnaa.DS

namespace Go.Proofs.Ytbinmfenhbpdnaa.DS

section
variable (E : Env) (callk : Nat → List D → R) (an : List (Nat × Norm)) (n : Nat)
def stepK (b : Code) (K : Ex → St → R) : Ex → St → R := fun e st' => match e with
  | .normal => opt (normAt E.tt an b st') fun st'' => execK E callk an n b st'' K
  | .exit i => K (.exit i) st'
  | .ret => K .ret st'
def blkK (id : Nat) (K : Ex → St → R) : Ex → St → R := fun e st' => match e with
  | .normal => K .normal st'
  | .exit i => cond (Nat.beq i id) (K .normal st') (K (.exit i) st')
  | .ret => K .ret st'
def lopK (c : Code) (m : Nat) (K : Ex → St → R) : Ex → St → R := fun e st' => match e with
  | .normal => opt (normAt E.tt an c st') fun st'' => iterK (normAt E.tt an c) (execK E callk an n c) m st'' K
  | .exit i => K (.exit i) st'
  | .ret => K .ret st'
/-- The continuation of the part at a path; fs: the rounds left to the loops that the path goes into. -/
def conAt : Code → List Nat → List Nat → (Ex → St → R) → Ex → St → R
  | _, [], _, K => K
  | .seq a b, 0 :: p, fs, K => conAt a p fs (stepK E callk an n b K)
  | .seq _ b, _ :: p, fs, K => conAt b p fs K
  | .cond _ a _, 0 :: p, fs, K => conAt a p fs K
  | .cond _ _ b, _ :: p, fs, K => conAt b p fs K
  | .block id c, _ :: p, fs, K => conAt c p fs (blkK id K)
  | .loop c, _ :: p, m :: fs, K => conAt c p fs (lopK E callk an n c m K)
  | _, _, _, K => K
def subAt : Code → List Nat → Code
  | c, [] => c
  | .seq a _, 0 :: p => subAt a p
  | .seq _ b, _ :: p => subAt b p
  | .cond _ a _, 0 :: p => subAt a p
  | .cond _ _ b, _ :: p => subAt b p
  | .block _ c, _ :: p => subAt c p
  | .loop c, _ :: p => subAt c p
  | c, _ => c
/-- One round of the loop at a path, and all that follows: m more rounds. -/
def loopAt (c : Code) (p fs : List Nat) (K : Ex → St → R) (m : Nat) (st : St) : R := match subAt c p with
  | .loop b => iterK (normAt E.tt an b) (execK E callk an n b) m st (conAt E callk an n c p fs K)
  | _ => none
end
/-- The round of a function's loop. -/
def loopOf (E : Env) (f : Nat) (fn : Func) (k : Nat) (p fs : List Nat) (m : Nat) (st : St) : R := match fn.body, lk f E.sigs with
  | some c, some sg => loopAt E (run E k) (annOf E f) k c p fs (finK E fn sg) m st
  | _, _ => none
/-- A state, written out. -/
def mkSt (n : Nat) (sl : List (Nat × SV)) (os : List (Nat × Obj)) : St := ⟨n, fun t => lk t sl, fun i => lk i os⟩

/-- The loops of a code and the paths to them. -/
def pathsOf : Code → List Nat → List (List Nat × Option Nat)
  | .seq a b, p => pathsOf a (p ++ [0]) ++ pathsOf b (p ++ [1])
  | .cond _ a b, p => pathsOf a (p ++ [0]) ++ pathsOf b (p ++ [1])
  | .block _ c, p => pathsOf c (p ++ [0])
  | .loop c, p => (p, lead c) :: pathsOf c (p ++ [0])
  | _, _ => []

end Go.Proofs.Ytbinmfenhbpdnaa.DS

namespace Go.Proofs.Ytbinmfenhbpdnaa.DS

/-- F settles at x. -/
structure Tends {α : Type} (F : Nat → Option α) (x : Option α) : Prop where
  mono : ∀ m n a, m ≤ n → F m = some a → F n = some a
  sub : ∀ n a, F n = some a → x = some a
  reach : ∀ a, x = some a → ∃ n, F n = some a

open Classical in
noncomputable def limR {α : Type} (F : Nat → Option α) : Option α := if h : ∃ a n, F n = some a then some (Classical.choose h) else none

theorem tends_lim {α : Type} {F : Nat → Option α} (h : ∀ m n a, m ≤ n → F m = some a → F n = some a) : Tends F (limR F) := by
  refine ⟨h, fun n a hn => ?_, fun a ha => ?_⟩
  · have hx : ∃ a n, F n = some a := ⟨a, n, hn⟩
    obtain ⟨k, hk⟩ := Classical.choose_spec hx
    have h1 := h n (max n k) a (Nat.le_max_left _ _) hn
    have h2 := h k (max n k) _ (Nat.le_max_right _ _) hk
    rw [h1] at h2
    simp only [limR, dif_pos hx]
    exact h2.symm
  · unfold limR at ha
    split at ha
    · rename_i hx
      injection ha with ha
      obtain ⟨k, hk⟩ := Classical.choose_spec hx
      exact ⟨k, by rw [hk, ha]⟩
    · cases ha

theorem Tends.uniq {α : Type} {F : Nat → Option α} {x y : Option α} (h : Tends F x) (h' : Tends F y) : x = y := by
  cases x with
  | none =>
    cases y with
    | none => rfl
    | some b => obtain ⟨n, hn⟩ := h'.reach b rfl; have := h.sub n b hn; cases this
  | some a => obtain ⟨n, hn⟩ := h.reach a rfl; exact (h'.sub n a hn).symm
theorem Tends.const {α : Type} (x : Option α) : Tends (fun _ => x) x := ⟨fun _ _ _ _ h => h, fun _ _ h => h, fun _ h => ⟨0, h⟩⟩
theorem Tends.none {α : Type} : Tends (fun _ => (Option.none : Option α)) .none := .const _
theorem Tends.opt {α β : Type} {F : Nat → Option α} {x : Option α} (h : Tends F x) {G : Nat → α → Option β} {y : α → Option β} (hg : ∀ a, Tends (fun n => G n a) (y a)) : Tends (fun n => DS.opt (F n) (G n)) (DS.opt x y) := by
  refine ⟨fun m n a hmn hm => ?_, fun n a hn => ?_, fun a ha => ?_⟩
  · obtain ⟨b, h1, h2⟩ := opt_some.1 hm
    exact opt_some.2 ⟨b, h.mono m n b hmn h1, (hg b).mono m n a hmn h2⟩
  · obtain ⟨b, h1, h2⟩ := opt_some.1 hn
    exact opt_some.2 ⟨b, h.sub n b h1, (hg b).sub n a h2⟩
  · obtain ⟨b, h1, h2⟩ := opt_some.1 ha
    obtain ⟨n1, h1⟩ := h.reach b h1
    obtain ⟨n2, h2⟩ := (hg b).reach a h2
    exact ⟨max n1 n2, opt_some.2 ⟨b, h.mono _ _ _ (Nat.le_max_left _ _) h1, (hg b).mono _ _ _ (Nat.le_max_right _ _) h2⟩⟩
theorem Tends.optC {α β : Type} (x : Option α) {G : Nat → α → Option β} {y : α → Option β} (hg : ∀ a, x = some a → Tends (fun n => G n a) (y a)) : Tends (fun n => DS.opt x (G n)) (DS.opt x y) := by
  cases x with
  | none => exact .none
  | some a => exact hg a rfl
theorem Tends.cond {α : Type} (c : Bool) {F G : Nat → Option α} {x y : Option α} (h : Tends F x) (h' : Tends G y) : Tends (fun n => cond c (F n) (G n)) (cond c x y) := by
  cases c
  · exact h'
  · exact h

/-- What one says, the other says too. -/
def Le {α : Type} (x y : Option α) : Prop := ∀ a, x = some a → y = some a
theorem Le.refl {α : Type} (x : Option α) : Le x x := fun _ h => h
theorem Le.opt {α β : Type} {x x' : Option α} (h : Le x x') {f f' : α → Option β} (hf : ∀ a, Le (f a) (f' a)) : Le (DS.opt x f) (DS.opt x' f') := by
  intro b hb
  obtain ⟨a, h1, h2⟩ := opt_some.1 hb
  exact opt_some.2 ⟨a, h a h1, hf a b h2⟩
theorem Le.cond {α : Type} (c : Bool) {x x' y y' : Option α} (h : Le x x') (h' : Le y y') : Le (cond c x y) (cond c x' y') := by
  cases c
  · exact h'
  · exact h

section
variable {E : Env} {ca cb : Nat → List D → R} (hc : ∀ f ds, Le (ca f ds) (cb f ds))
include hc
theorem opK_mono {α : Type} (ops : List Oper) (draw : Bool) (i : Nat) (st : St) {K K' : St → Option α} (hK : ∀ st, Le (K st) (K' st)) : Le (opK E ca ops draw i st K) (opK E cb ops draw i st K') := by
  unfold opK
  cases nthOp ops i with
  | none => exact .refl _
  | some o =>
    simp only
    cases chainOf ops i with
    | nil =>
      simp only
      cases opO E draw st ops [] o with
      | none => exact .refl _
      | some out =>
        cases out with
        | sv c v => exact .cond _ (.opt (.refl _) fun st' => hK st') (.refl _)
        | ob c id ob scr v => exact .cond _ (.opt (.refl _) fun st' => hK st') (.refl _)
        | call f ds rs => exact .cond _ (.opt (hc f ds) fun r => .opt (.refl _) fun u => .opt (.refl _) fun st' => hK st') (.refl _)
        | hcall f ds sg rows boxes => exact .cond _ (.opt (hc f ds) fun r => .opt (.refl _) fun u => .opt (.refl _) fun st' => hK st') (.opt (hc f ds) fun r => .opt (.refl _) fun st' => hK st')
    | cons p L =>
      simp only
      refine .cond _ ?_ (.refl _)
      cases opO E draw st ops (p :: L) o with
      | none => exact .refl _
      | some out =>
        cases out with
        | sv c v => exact .cond _ (.opt (.refl _) fun st' => hK st') (.refl _)
        | ob c id ob scr v => exact .opt (.refl _) fun u => .opt (.refl _) fun st' => hK st'
        | call f ds rs => exact .cond _ (.opt (.cond _ (hc f ds) (.refl _)) fun r => .opt (.refl _) fun u => .opt (.refl _) fun st' => hK st') (.refl _)
        | hcall f ds sg rows boxes => exact .refl _
theorem opsK_mono {α : Type} (ops : List Oper) (draw : Bool) : ∀ (is : List Nat) (st : St) {K K' : St → Option α} (_ : ∀ st, Le (K st) (K' st)), Le (opsK E ca ops draw is st K) (opsK E cb ops draw is st K') := by
  intro is
  induction is with
  | nil => intro st K K' hK; exact hK st
  | cons i r ih => intro st K K' hK; exact opK_mono hc ops draw i st fun st' => ih st' hK
theorem opsD_mono {α : Type} (ops : List Oper) : ∀ (is : List Nat) (log : List (Nat × List Nat × List Nat)) (st : St) {K K' : St → Option α} (_ : ∀ st, Le (K st) (K' st)), Le (opsD E ca ops is log st K) (opsD E cb ops is log st K') := by
  intro is
  induction is with
  | nil => intro log st K K' hK; exact hK st
  | cons i r ih => intro log st K K' hK; exact .cond _ (opK_mono hc ops true i st fun st' => ih _ st' hK) (.refl _)
omit hc in
theorem iterK_mono {nrm : St → Option St} {b b' : St → (Ex → St → R) → R} (hb : ∀ st K K', (∀ e st, Le (K e st) (K' e st)) → Le (b st K) (b' st K')) : ∀ (m n : Nat) (st : St) {K K' : Ex → St → R} (_ : ∀ e st, Le (K e st) (K' e st)), m ≤ n →
    Le (iterK nrm b m st K) (iterK nrm b' n st K') := by
  intro m
  induction m with
  | zero => intro n st K K' _ _ a h; cases h
  | succ m ih =>
    intro n st K K' hK hn
    obtain ⟨n, rfl⟩ : ∃ k, n = k + 1 := ⟨n - 1, by omega⟩
    refine hb _ _ _ fun e st' => ?_
    cases e with
    | normal => exact .opt (.refl _) fun st'' => ih n st'' hK (by omega)
    | exit i => exact hK _ _
    | ret => exact hK _ _
theorem exec_mono {an : List (Nat × Norm)} {m n : Nat} (hmn : m ≤ n) : ∀ (c : Code) (st : St) (K K' : Ex → St → R), (∀ e st, Le (K e st) (K' e st)) → Le (execK E ca an m c st K) (execK E cb an n c st K') := by
  intro c
  induction c with
  | skip => intro st K K' hK; exact hK _ _
  | region id ops draw =>
    intro st K K' hK
    exact .cond _ (opsD_mono hc _ _ _ _ fun st' => hK _ _) (opsK_mono hc _ _ _ _ fun st' => hK _ _)
  | seq x y ihx ihy =>
    intro st K K' hK
    refine ihx _ _ _ fun e st' => ?_
    cases e with
    | normal => exact .opt (.refl _) fun st'' => ihy _ _ _ hK
    | exit i => exact hK _ _
    | ret => exact hK _ _
  | cond c x y ihx ihy =>
    intro st K K' hK
    simp only [execK]
    split
    · exact .cond _ (.opt (.refl _) fun st'' => ihx _ _ _ hK) (.opt (.refl _) fun st'' => ihy _ _ _ hK)
    · exact .refl _
  | block id c ih =>
    intro st K K' hK
    refine ih _ _ _ fun e st' => ?_
    cases e with
    | normal => exact hK _ _
    | exit i => exact .cond _ (hK _ _) (hK _ _)
    | ret => exact hK _ _
  | loop c ih =>
    intro st K K' hK
    exact .opt (.refl _) fun st' => iterK_mono (fun st K K' hK => ih st K K' hK) m n st' hK hmn
  | exit i => intro st K K' hK; exact hK _ _
  | ret => intro st K K' hK; exact hK _ _
  | _ => intro st K K' hK; exact .refl _
end
theorem run_mono {E : Env} : ∀ (m n : Nat) (_ : m ≤ n) (f : Nat) (args : List D), Le (run E m f args) (run E n f args) := by
  intro m
  induction m with
  | zero => intro n _ f args r h; cases h
  | succ m ih =>
    intro n hn f args
    obtain ⟨n, rfl⟩ : ∃ k, n = k + 1 := ⟨n - 1, by omega⟩
    simp only [run]
    split
    · exact .refl _
    · exact .opt (.refl _) fun fn => .opt (.refl _) fun sg => .opt (.refl _) fun c => .opt (.refl _) fun sl => .opt (.refl _) fun st => exec_mono (fun f ds => ih n (by omega) f ds) (by omega) c st _ _ fun e st => .refl _

section
variable {E : Env} {callk : Nat → Nat → List D → R} {callI : Nat → List D → R}

theorem opK_tends {α : Type} (hc : ∀ f ds, Tends (fun n => callk n f ds) (callI f ds)) (ops : List Oper) (draw : Bool) (i : Nat) (st : St) {K : Nat → St → Option α} {KI : St → Option α} (hK : ∀ st, Tends (fun n => K n st) (KI st)) :
    Tends (fun n => opK E (callk n) ops draw i st (K n)) (opK E callI ops draw i st KI) := by
  unfold opK
  cases nthOp ops i with
  | none => exact .none
  | some o =>
    simp only
    cases chainOf ops i with
    | nil =>
      simp only
      cases opO E draw st ops [] o with
      | none => exact .none
      | some out =>
        cases out with
        | sv c v => exact .cond _ (.optC _ fun st' _ => hK st') .none
        | ob c id ob scr v => exact .cond _ (.optC _ fun st' _ => hK st') .none
        | call f ds rs => exact .cond _ (.opt (hc f ds) fun r => .optC _ fun u _ => .optC _ fun st' _ => hK st') .none
        | hcall f ds sg rows boxes => exact .cond _ (.opt (hc f ds) fun r => .optC _ fun u _ => .optC _ fun st' _ => hK st') (.opt (hc f ds) fun r => .optC _ fun st' _ => hK st')
    | cons p L =>
      simp only
      refine .cond _ ?_ .none
      cases opO E draw st ops (p :: L) o with
      | none => exact .none
      | some out =>
        cases out with
        | sv c v => exact .cond _ (.optC _ fun st' _ => hK st') .none
        | ob c id ob scr v => exact .optC _ fun u _ => .optC _ fun st' _ => hK st'
        | call f ds rs => exact .cond _ (.opt (.cond _ (hc f ds) (.const _)) fun r => .optC _ fun u _ => .optC _ fun st' _ => hK st') .none
        | hcall f ds sg rows boxes => exact .none

theorem opsK_tends {α : Type} (hc : ∀ f ds, Tends (fun n => callk n f ds) (callI f ds)) (ops : List Oper) (draw : Bool) : ∀ (is : List Nat) (st : St) {K : Nat → St → Option α} {KI : St → Option α} (_ : ∀ st, Tends (fun n => K n st) (KI st)),
    Tends (fun n => opsK E (callk n) ops draw is st (K n)) (opsK E callI ops draw is st KI) := by
  intro is
  induction is with
  | nil => intro st K KI hK; exact hK st
  | cons i r ih => intro st K KI hK; exact opK_tends hc ops draw i st fun st' => ih st' hK

theorem opsD_tends {α : Type} (hc : ∀ f ds, Tends (fun n => callk n f ds) (callI f ds)) (ops : List Oper) : ∀ (is : List Nat) (log : List (Nat × List Nat × List Nat)) (st : St) {K : Nat → St → Option α} {KI : St → Option α} (_ : ∀ st, Tends (fun n => K n st) (KI st)),
    Tends (fun n => opsD E (callk n) ops is log st (K n)) (opsD E callI ops is log st KI) := by
  intro is
  induction is with
  | nil => intro log st K KI hK; exact hK st
  | cons i r ih => intro log st K KI hK; exact .cond _ (opK_tends hc ops true i st fun st' => ih _ st' hK) .none

/-- A loop without counting. -/
noncomputable def iterI (nrm : St → Option St) (body : St → (Ex → St → R) → R) (st : St) (K : Ex → St → R) : R := limR fun n => iterK nrm body n st K

/-- A mark: the value, as it is. -/
noncomputable def cutI (_ : Code) (_ : St) (x : R) : R := limR fun _ => x
theorem cutI_eq (c : Code) (st : St) (x : R) : cutI c st x = x := ((Tends.const x).uniq (tends_lim fun _ _ _ _ h => h)).symm
def isCut (an : List (Nat × Norm)) (c : Code) : Bool := match lead c with
  | some id => match lk id an with
    | some nm => nm.cut
    | none => false
  | none => false
section
variable (lf : (St → Option St) → (St → (Ex → St → R) → R) → St → (Ex → St → R) → R) (cf : Code → St → R → R)
/-- Code, its loops by lf; cf at the marks. -/
def execG (E : Env) (callk : Nat → List D → R) (an : List (Nat × Norm)) : Code → St → (Ex → St → R) → R
  | .skip, st, K => K .normal st
  | .region _ ops draw, st, K => cond draw (opsD E callk ops.toList (upFrom 0 ops.size) [] st fun st' => K .normal (endRegion ops.toList st')) (opsK E callk ops.toList false (upFrom 0 ops.size) st fun st' => K .normal (endRegion ops.toList st'))
  | .seq a b, st, K => execG E callk an a st fun e st' => match e with
    | .normal => opt (normAt E.tt an b st') fun st'' => cond (isCut an b) (cf b st'' (execG E callk an b st'' K)) (execG E callk an b st'' K)
    | .exit i => K (.exit i) st'
    | .ret => K .ret st'
  | .cond c a b, st, K => match ev st [] [] c with
    | some (.val .bool d) => cond d.toBool (opt (normAt E.tt an a st) fun st' => execG E callk an a st' K) (opt (normAt E.tt an b st) fun st' => execG E callk an b st' K)
    | _ => none
  | .block id c, st, K => execG E callk an c st fun e st' => match e with
    | .normal => K .normal st'
    | .exit i => cond (Nat.beq i id) (K .normal st') (K (.exit i) st')
    | .ret => K .ret st'
  | .loop c, st, K => opt (normAt E.tt an c st) fun st' => lf (normAt E.tt an c) (execG E callk an c) st' K
  | .exit i, st, K => K (.exit i) st
  | .ret, st, K => K .ret st
  | _, _, _ => none
end
noncomputable abbrev execI := execG iterI cutI

/-- A body that keeps what is settled. -/
def BT (bk : Nat → St → (Ex → St → R) → R) (bI : St → (Ex → St → R) → R) : Prop :=
  ∀ (st : St) (K : Nat → Ex → St → R) (KI : Ex → St → R), (∀ e st, Tends (fun n => K n e st) (KI e st)) → Tends (fun n => bk n st (K n)) (bI st KI)

theorem iterJ_tends {nrm : St → Option St} {bk : Nat → St → (Ex → St → R) → R} {bI : St → (Ex → St → R) → R} (h : BT bk bI) : ∀ (j : Nat) (st : St) (K : Nat → Ex → St → R) (KI : Ex → St → R), (∀ e st, Tends (fun n => K n e st) (KI e st)) →
    Tends (fun n => iterK nrm (bk n) j st (K n)) (iterK nrm bI j st KI) := by
  intro j
  induction j with
  | zero => intro st K KI hK; exact .none
  | succ j ih =>
    intro st K KI hK
    refine h _ _ _ fun e st' => ?_
    cases e with
    | normal => exact .optC _ fun st'' _ => ih st'' K KI hK
    | exit i => exact hK _ _
    | ret => exact hK _ _

/-- A body's monotony. -/
def BM (b : St → (Ex → St → R) → R) : Prop := ∀ st K K', (∀ e st, Le (K e st) (K' e st)) → Le (b st K) (b st K')

theorem iterI_tends {nrm : St → Option St} {b : St → (Ex → St → R) → R} (hb : BM b) (st : St) (K : Ex → St → R) : Tends (fun n => iterK nrm b n st K) (iterI nrm b st K) :=
  tends_lim fun m n a hmn h => iterK_mono hb m n st (fun _ _ => .refl _) hmn a h

theorem loop_tends {nrm : St → Option St} {bk : Nat → St → (Ex → St → R) → R} {bI : St → (Ex → St → R) → R} (hm : ∀ m n, m ≤ n → ∀ st K K', (∀ e st, Le (K e st) (K' e st)) → Le (bk m st K) (bk n st K')) (hb : BM bI) (h : BT bk bI) (st : St) (K : Nat → Ex → St → R) (KI : Ex → St → R)
    (hK : ∀ e st, Tends (fun n => K n e st) (KI e st)) : Tends (fun n => iterK nrm (bk n) n st (K n)) (iterI nrm bI st KI) := by
  have hI := iterI_tends (nrm := nrm) hb st KI
  refine ⟨fun m n a hmn hma => ?_, fun n a hn => ?_, fun a ha => ?_⟩
  · exact iterK_mono (fun st K K' hK => hm m n hmn st K K' hK) m n st (fun e st r hr => (hK e st).mono m n r hmn hr) hmn a hma
  · exact hI.sub n a ((iterJ_tends h n st K KI hK).sub n a hn)
  · obtain ⟨j, hj⟩ := hI.reach a ha
    obtain ⟨n, hn⟩ := (iterJ_tends h j st K KI hK).reach a hj
    exact ⟨max j n, iterK_mono (fun st K K' hK => hm n (max j n) (Nat.le_max_right _ _) st K K' hK) j (max j n) st (fun e st r hr => (hK e st).mono n _ r (Nat.le_max_right _ _) hr) (Nat.le_max_left _ _) a hn⟩

theorem execI_mono {an : List (Nat × Norm)} {ca : Nat → List D → R} : ∀ c : Code, BM (execI E ca an c) := by
  intro c
  induction c with
  | skip => intro st K K' hK; exact hK _ _
  | region id ops draw =>
    intro st K K' hK
    exact .cond _ (opsD_mono (fun _ _ => .refl _) _ _ _ _ fun st' => hK _ _) (opsK_mono (fun _ _ => .refl _) _ _ _ _ fun st' => hK _ _)
  | seq x y ihx ihy =>
    intro st K K' hK
    refine ihx _ _ _ fun e st' => ?_
    cases e with
    | normal => exact .opt (.refl _) fun st'' => by rw [cutI_eq, cutI_eq]; exact .cond _ (ihy _ _ _ hK) (ihy _ _ _ hK)
    | exit i => exact hK _ _
    | ret => exact hK _ _
  | cond c x y ihx ihy =>
    intro st K K' hK
    simp only [execI, execG]
    split
    · exact .cond _ (.opt (.refl _) fun st'' => ihx _ _ _ hK) (.opt (.refl _) fun st'' => ihy _ _ _ hK)
    · exact .refl _
  | block id c ih =>
    intro st K K' hK
    refine ih _ _ _ fun e st' => ?_
    cases e with
    | normal => exact hK _ _
    | exit i => exact .cond _ (hK _ _) (hK _ _)
    | ret => exact hK _ _
  | loop c ih =>
    intro st K K' hK
    refine .opt (.refl _) fun st' => ?_
    intro a ha
    obtain ⟨n, hn⟩ := (iterI_tends ih st' K).reach a ha
    exact (iterI_tends ih st' K').sub n a (iterK_mono ih n n st' hK (Nat.le_refl _) a hn)
  | exit i => intro st K K' hK; exact hK _ _
  | ret => intro st K K' hK; exact hK _ _
  | _ => intro st K K' hK; exact .refl _

theorem exec_tends {an : List (Nat × Norm)} (hc : ∀ f ds, Tends (fun n => callk n f ds) (callI f ds)) : ∀ c : Code, BT (fun n => execK E (callk n) an n c) (execI E callI an c) := by
  intro c
  induction c with
  | skip => intro st K KI hK; exact hK _ _
  | region id ops draw =>
    intro st K KI hK
    exact .cond _ (opsD_tends hc _ _ _ _ fun st' => hK _ _) (opsK_tends hc _ _ _ _ fun st' => hK _ _)
  | seq x y ihx ihy =>
    intro st K KI hK
    refine ihx _ _ _ fun e st' => ?_
    cases e with
    | normal => exact .optC _ fun st'' _ => by rw [cutI_eq]; cases isCut an y <;> exact ihy _ _ _ hK
    | exit i => exact hK _ _
    | ret => exact hK _ _
  | cond c x y ihx ihy =>
    intro st K KI hK
    simp only [execK, execI, execG]
    cases ev st [] [] c with
    | none => exact .none
    | some s =>
      cases s with
      | val k d =>
        cases k with
        | bool => exact .cond _ (.optC _ fun st'' _ => ihx _ _ _ hK) (.optC _ fun st'' _ => ihy _ _ _ hK)
        | _ => exact .none
      | _ => exact .none
  | block id c ih =>
    intro st K KI hK
    refine ih _ _ _ fun e st' => ?_
    cases e with
    | normal => exact hK _ _
    | exit i => exact .cond _ (hK _ _) (hK _ _)
    | ret => exact hK _ _
  | loop c ih =>
    intro st K KI hK
    refine .optC _ fun st' _ => ?_
    exact loop_tends (fun m n hmn st K K' hK => exec_mono (fun f ds a ha => (hc f ds).mono m n a hmn ha) hmn c st K K' hK) (execI_mono c) ih st' K KI hK
  | exit i => intro st K KI hK; exact hK _ _
  | ret => intro st K KI hK; exact hK _ _
  | _ => intro st K KI hK; exact .none

/-- What a call of a function comes to. -/
noncomputable def RUN (E : Env) (f : Nat) (args : List D) : R := limR fun k => run E k f args
theorem run_tends (E : Env) (f : Nat) (args : List D) : Tends (fun k => run E k f args) (RUN E f args) := tends_lim fun m n a hmn h => run_mono m n hmn f args a h
def runG (lf : (St → Option St) → (St → (Ex → St → R) → R) → St → (Ex → St → R) → R) (cf : Code → St → R → R) (E : Env) (callk : Nat → List D → R) (f : Nat) (args : List D) : R := match lk f E.ext with
    | some g => g args
    | none => opt (lk f E.fns) fun fn => opt (lk f E.sigs) fun sg => opt fn.body fun c => opt (paramSt sg.params 0 args) fun sl =>
      let st : St := { n := fn.ntmps, slots := fun t => lk t sl.1, objs := fun i => lk i sl.2 }
      opt (normAt E.tt (annOf E f) c st) fun st => execG lf cf E callk (annOf E f) c st (finK E fn sg)
noncomputable abbrev runI := runG iterI cutI
theorem RUN_eq (E : Env) (f : Nat) (args : List D) : RUN E f args = runI E (RUN E) f args := by
  have h : Tends (fun k => run E (k + 1) f args) (RUN E f args) := by
    have h := run_tends E f args
    exact ⟨fun m n a hmn hm => h.mono (m + 1) (n + 1) a (by omega) hm, fun n a hn => h.sub (n + 1) a hn, fun a ha => by
      obtain ⟨n, hn⟩ := h.reach a ha
      exact ⟨n, h.mono n (n + 1) a (by omega) hn⟩⟩
  refine h.uniq ?_
  simp only [run, runI, runG]
  cases lk f E.ext with
  | some g => exact .const _
  | none => exact .optC _ fun fn _ => .optC _ fun sg _ => .optC _ fun c _ => .optC _ fun sl _ => .optC _ fun st _ => exec_tends (fun f ds => run_tends E f ds) c st _ _ fun e st => .const _
theorem RUN_run {E : Env} {f : Nat} {args r : List D} (h : RUN E f args = some r) : ∃ k, run E k f args = some r := (run_tends E f args).reach r h

theorem execI_cont {an : List (Nat × Norm)} {ca : Nat → List D → R} : ∀ c : Code, BT (fun _ => execI E ca an c) (execI E ca an c) := by
  intro c
  induction c with
  | skip => intro st K KI hK; exact hK _ _
  | region id ops draw =>
    intro st K KI hK
    exact .cond _ (opsD_tends (callk := fun _ => ca) (fun _ _ => .const _) _ _ _ _ fun st' => hK _ _) (opsK_tends (callk := fun _ => ca) (fun _ _ => .const _) _ _ _ _ fun st' => hK _ _)
  | seq x y ihx ihy =>
    intro st K KI hK
    refine ihx _ _ _ fun e st' => ?_
    cases e with
    | normal => exact .optC _ fun st'' _ => by simp only [cutI_eq]; exact .cond _ (ihy _ _ _ hK) (ihy _ _ _ hK)
    | exit i => exact hK _ _
    | ret => exact hK _ _
  | cond c x y ihx ihy =>
    intro st K KI hK
    simp only [execI, execG]
    split
    · exact .cond _ (.optC _ fun st'' _ => ihx _ _ _ hK) (.optC _ fun st'' _ => ihy _ _ _ hK)
    · exact .none
  | block id c ih =>
    intro st K KI hK
    refine ih _ _ _ fun e st' => ?_
    cases e with
    | normal => exact hK _ _
    | exit i => exact .cond _ (hK _ _) (hK _ _)
    | ret => exact hK _ _
  | loop c ih =>
    intro st K KI hK
    refine .optC _ fun st' _ => ?_
    have hb := execI_mono (E := E) (an := an) (ca := ca) c
    refine ⟨fun m n a hmn hm => ?_, fun n a hn => ?_, fun a ha => ?_⟩
    · obtain ⟨j, hj⟩ := (iterI_tends hb st' (K m)).reach a hm
      exact (iterI_tends hb st' (K n)).sub j a (iterK_mono hb j j st' (fun e st r hr => (hK e st).mono m n r hmn hr) (Nat.le_refl _) a hj)
    · obtain ⟨j, hj⟩ := (iterI_tends hb st' (K n)).reach a hn
      exact (iterI_tends hb st' KI).sub j a (iterK_mono hb j j st' (fun e st r hr => (hK e st).sub n r hr) (Nat.le_refl _) a hj)
    · obtain ⟨j, hj⟩ := (iterI_tends hb st' KI).reach a ha
      obtain ⟨n, hn⟩ := (iterJ_tends ih j st' K KI hK).reach a hj
      exact ⟨n, (iterI_tends hb st' (K n)).sub j a hn⟩
  | exit i => intro st K KI hK; exact hK _ _
  | ret => intro st K KI hK; exact hK _ _
  | _ => intro st K KI hK; exact .none

/-- A loop is one round, and then the loop. -/
theorem iterI_eq {nrm : St → Option St} {an : List (Nat × Norm)} {c : Code} (st : St) (K : Ex → St → R) : iterI nrm (execI E callI an c) st K = execI E callI an c st fun e st' => match e with
    | .normal => opt (nrm st') fun st'' => iterI nrm (execI E callI an c) st'' K
    | .exit i => K (.exit i) st'
    | .ret => K .ret st' := by
  have hb := execI_mono (E := E) (an := an) (ca := callI) c
  have h := iterI_tends (nrm := nrm) hb st K
  have h1 : Tends (fun n => iterK nrm (execI E callI an c) (n + 1) st K) (iterI nrm (execI E callI an c) st K) :=
    ⟨fun m n a hmn hm => h.mono (m + 1) (n + 1) a (by omega) hm, fun n a hn => h.sub (n + 1) a hn, fun a ha => by
      obtain ⟨n, hn⟩ := h.reach a ha
      exact ⟨n, h.mono n (n + 1) a (by omega) hn⟩⟩
  refine h1.uniq ?_
  simp only [iterK]
  refine execI_cont c st _ _ fun e st' => ?_
  cases e with
  | normal => exact .optC _ fun st'' _ => iterI_tends hb st'' K
  | exit i => exact .const _
  | ret => exact .const _
end
end Go.Proofs.Ytbinmfenhbpdnaa.DS

namespace Go.Proofs.Ytbinmfenhbpdnaa.DS

section
variable (lf : (St → Option St) → (St → (Ex → St → R) → R) → St → (Ex → St → R) → R) (cf : Code → St → R → R)
variable (E : Env) (callk : Nat → List D → R) (an : List (Nat × Norm))
def stepG (b : Code) (K : Ex → St → R) : Ex → St → R := fun e st' => match e with
  | .normal => opt (normAt E.tt an b st') fun st'' => cond (isCut an b) (cf b st'' (execG lf cf E callk an b st'' K)) (execG lf cf E callk an b st'' K)
  | .exit i => K (.exit i) st'
  | .ret => K .ret st'
def lopG (c : Code) (K : Ex → St → R) : Ex → St → R := fun e st' => match e with
  | .normal => opt (normAt E.tt an c st') fun st'' => lf (normAt E.tt an c) (execG lf cf E callk an c) st'' K
  | .exit i => K (.exit i) st'
  | .ret => K .ret st'
/-- The continuation of the part at a path. -/
def conG : Code → List Nat → (Ex → St → R) → Ex → St → R
  | _, [], K => K
  | .seq a b, 0 :: p, K => conG a p (stepG lf cf E callk an b K)
  | .seq _ b, _ :: p, K => conG b p K
  | .cond _ a _, 0 :: p, K => conG a p K
  | .cond _ _ b, _ :: p, K => conG b p K
  | .block id c, _ :: p, K => conG c p (blkK id K)
  | .loop c, _ :: p, K => conG c p (lopG lf cf E callk an c K)
  | _, _, K => K
/-- The loop at a path, and all that follows. -/
def loopG (c : Code) (p : List Nat) (K : Ex → St → R) (st : St) : R := match subAt c p with
  | .loop b => lf (normAt E.tt an b) (execG lf cf E callk an b) st (conG lf cf E callk an c p K)
  | _ => none
/-- One round of it, and all that follows. -/
def roundG (c : Code) (p : List Nat) (K : Ex → St → R) (st : St) : R := match subAt c p with
  | .loop b => execG lf cf E callk an b st (lopG lf cf E callk an b (conG lf cf E callk an c p K))
  | _ => none
/-- The part at a path, and all that follows. -/
def partG (c : Code) (p : List Nat) (K : Ex → St → R) (st : St) : R := execG lf cf E callk an (subAt c p) st (conG lf cf E callk an c p K)
end
section
variable (lf : (St → Option St) → (St → (Ex → St → R) → R) → St → (Ex → St → R) → R) (cf : Code → St → R → R)
variable (E : Env) (callk : Nat → List D → R) (f : Nat) (fn : Func) (p : List Nat) (st : St)
def ROUNDG : R := match fn.body, lk f E.sigs with
  | some c, some sg => roundG lf cf E callk (annOf E f) c p (finK E fn sg) st
  | _, _ => none
def PARTG : R := match fn.body, lk f E.sigs with
  | some c, some sg => partG lf cf E callk (annOf E f) c p (finK E fn sg) st
  | _, _ => none
end
noncomputable def LOOP (E : Env) (callk : Nat → List D → R) (f : Nat) (fn : Func) (p : List Nat) (st : St) : R := match fn.body, lk f E.sigs with
  | some c, some sg => loopG iterI cutI E callk (annOf E f) c p (finK E fn sg) st
  | _, _ => none
noncomputable abbrev ROUND := ROUNDG iterI cutI
noncomputable def PART (E : Env) (callk : Nat → List D → R) (f : Nat) (fn : Func) (p : List Nat) (st : St) : R := cutI (match fn.body with | some c => subAt c p | none => .skip) st (PARTG iterI cutI E callk f fn p st)
theorem PART_eq (E : Env) (callk : Nat → List D → R) (f : Nat) (fn : Func) (p : List Nat) (st : St) : PART E callk f fn p st = PARTG iterI cutI E callk f fn p st := cutI_eq _ _ _
theorem LOOP_eq (E : Env) (callk : Nat → List D → R) (f : Nat) (fn : Func) (p : List Nat) (st : St) : LOOP E callk f fn p st = ROUND E callk f fn p st := by
  unfold LOOP ROUND ROUNDG
  split
  · unfold loopG roundG
    split
    · rw [iterI_eq]; rfl
    · rfl
  · rfl

/-- Functions, checked. -/
def FnsOK (P : Program) (E : Env) : List (Nat × Func) → Prop
  | [] => True
  | (f, fn) :: r => (P.funcs[f]? = some fn ∧ fnB E f fn = true) ∧ FnsOK P E r
theorem fns_of {P : Program} {E : Env} : ∀ {l : List (Nat × Func)}, FnsOK P E l → ∀ f fn, lk f l = some fn → FnOK P E f fn := by
  intro l
  induction l with
  | nil => intro _ f fn h; cases h
  | cons p r ih =>
    obtain ⟨g, gn⟩ := p
    intro h f fn hf
    simp only [lk] at hf
    cases hb : Nat.beq f g with
    | true => rw [hb] at hf; injection hf with hf; subst hf; rw [beq_iff.1 hb]; exact fnB_spec h.1.1 h.1.2
    | false => rw [hb] at hf; exact ih h.2 f fn hf

/-- The loops of a code, and the marked parts: paths and leading regions. -/
def placesOf (an : List (Nat × Norm)) : Code → List Nat → List (List Nat × Bool × Option Nat)
  | .seq a b, p => placesOf an a (p ++ [0]) ++ (cond (isCut an b) [(p ++ [1], false, lead b)] []) ++ placesOf an b (p ++ [1])
  | .cond _ a b, p => placesOf an a (p ++ [0]) ++ placesOf an b (p ++ [1])
  | .block _ c, p => placesOf an c (p ++ [0])
  | .loop c, p => (p, true, lead c) :: placesOf an c (p ++ [0])
  | _, _ => []

end Go.Proofs.Ytbinmfenhbpdnaa.DS

namespace Go.Proofs.Ytbinmfenhbpdnaa.DS

/-! Small laws for the equations. -/

theorem inb_nat {i n : Nat} (h : i < n) : inb (i : Int) n = true := by unfold inb; simp; omega
theorem inb_iff {i : Int} {n : Nat} : inb i n = true ↔ 0 ≤ i ∧ i < (n : Int) := by unfold inb; simp
theorem wrap_id {i : Int} (h0 : -9223372036854775808 ≤ i) (h1 : i ≤ 9223372036854775807) : IntKind.i64.wrap i = i := wrap64 h0 h1
theorem fitL_le {n m : Nat} (h : n + m ≤ lim) : fitL n m = true := by unfold fitL; simpa using h
theorem dec_t {p : Prop} [Decidable p] (h : p) : decide p = true := by simp [h]
theorem dec_f {p : Prop} [Decidable p] (h : ¬ p) : decide p = false := by simp [h]
theorem bif_id (b : Bool) : (bif b then true else false) = b := by cases b <;> rfl
theorem bif_not (b : Bool) : (bif b then false else true) = !b := by cases b <;> rfl
theorem getD_eq {α : Type} (l : List α) (i : Nat) (d : α) (h : i < l.length) : l.getD i d = l[i] := by
  simp [List.getD_eq_getElem?_getD, List.getElem?_eq_getElem h]
theorem lim_val : lim = 68719476736 := rfl


/-! Small laws for plain proofs over the equations: data, indices, bytes, cuts. -/

theorem opt_s {α β : Type} (a : α) (f : α → Option β) : opt (some a) f = f a := rfl
theorem tI (n : Int) : D.toInt (.int n) = n := rfl
theorem tS (s : List UInt8) : D.toStr (.str s) = s := rfl
theorem tL (l : List D) : D.toList (.list l) = l := rfl
theorem tB (b : Bool) : D.toBool (.bool b) = b := rfl
theorem bt (a b : Bool) : (bif true then a else b) = a := rfl
theorem bf (a b : Bool) : (bif false then a else b) = b := rfl
theorem b_and (a b : Bool) : (bif a then b else false) = (a && b) := by cases a <;> rfl
theorem b_or (a b : Bool) : (bif a then true else b) = (a || b) := by cases a <;> rfl
theorem nxt {i : Nat} (h : i ≤ 4611686018427387904) : IntKind.wrap .i64 ((i : Int) + 1) = ((i + 1 : Nat) : Int) := by rw [wrap_id (by omega) (by omega)]; omega
theorem fit_t {n m : Nat} (h : n + m ≤ 68719476736) : fitL n m = true := fitL_le (by rw [lim_val]; exact h)
theorem lim_t {n m : Nat} (h : n + m ≤ 68719476736) : decide (n + m ≤ lim) = true := dec_t (by rw [lim_val]; exact h)
theorem wrap_u8 {i : Int} (h0 : 0 ≤ i) (h1 : i ≤ 255) : IntKind.wrap .u8 i = i := by
  rw [show IntKind.wrap .u8 i = i % 256 from by simp [IntKind.wrap, IntKind.signed, IntKind.bits]]
  exact Int.emod_eq_of_lt h0 (by omega)
theorem u8_lt (c : UInt8) : c.toNat < 256 := c.toNat_lt
theorem u8_ofInt (c : UInt8) : UInt8.ofNat (Int.toNat (c.toNat : Int)) = c := by simp
theorem getD_drop {α : Type} (l : List α) (i j : Nat) (d : α) : (l.drop i).getD j d = l.getD (i + j) d := by simp [List.getD_eq_getElem?_getD]
theorem drop_cons {α : Type} {l : List α} {i : Nat} (d : α) (h : i < l.length) : l.drop i = l.getD i d :: l.drop (i + 1) := by
  rw [getD_eq l i d h]; exact List.drop_eq_getElem_cons h
theorem take_snoc {α : Type} {l : List α} {i : Nat} (d : α) (h : i < l.length) : l.take (i + 1) = l.take i ++ [l.getD i d] := by
  rw [getD_eq l i d h]; exact List.take_succ_eq_append_getElem h
/-- A part of a row or string. -/
def sub {α : Type} (l : List α) (i k : Nat) : List α := (l.take k).drop i
theorem sub_len {α : Type} {l : List α} {i k : Nat} (hk : k ≤ l.length) : (sub l i k).length = k - i := by simp [sub]; omega
theorem sub_snoc {α : Type} {l : List α} {i k : Nat} (d : α) (hi : i ≤ k) (hk : k < l.length) : sub l i (k + 1) = sub l i k ++ [l.getD k d] := by
  unfold sub
  rw [take_snoc d hk, List.drop_append_of_le_length (by simp; omega)]
theorem sub_self {α : Type} (l : List α) (i : Nat) : sub l i i = [] := by simp [sub]
theorem sub_one {α : Type} {l : List α} {i : Nat} (d : α) (h : i < l.length) : sub l i (i + 1) = [l.getD i d] := by rw [sub_snoc d (Nat.le_refl _) h, sub_self]; rfl
theorem cut_both {α : Type} (l : List α) (i k : Nat) : cutL l (some (i : Int)) (some (k : Int)) = sub l i k := rfl
theorem cut_lo {α : Type} (l : List α) (i : Nat) : cutL l (some (i : Int)) none = l.drop i := rfl
theorem cut_hi {α : Type} (l : List α) (k : Nat) : cutL l none (some (k : Int)) = l.take k := rfl
theorem cutOk_both {n i k : Nat} (h1 : i ≤ k) (h2 : k ≤ n) : cutOk n (some (i : Int)) (some (k : Int)) = true := by simp only [cutOk, Bool.and_eq_true, decide_eq_true_eq]; omega
theorem cutOk_lo {n i : Nat} (h : i ≤ n) : cutOk n (some (i : Int)) none = true := by simp only [cutOk, Bool.and_eq_true, decide_eq_true_eq]; omega
theorem cutOk_hi {n k : Nat} (h : k ≤ n) : cutOk n none (some (k : Int)) = true := by simp only [cutOk, Bool.and_eq_true, decide_eq_true_eq]; omega
theorem inb_f {i : Int} {n : Nat} (h : i < 0 ∨ (n : Int) ≤ i) : inb i n = false := by
  rw [← Bool.not_eq_true, inb_iff]; omega

/-- How great a string or row is, in the measure of the bound. -/
theorem mass_str (s : List UInt8) (r : List D) : dmass.dmAll (.str s :: r) = s.length + 1 + dmass.dmAll r := rfl
theorem mass_list (l : List D) (r : List D) : dmass.dmAll (.list l :: r) = dmass.dmAll l + 1 + dmass.dmAll r := rfl
theorem mass_nil : dmass.dmAll [] = 0 := rfl

/-! Functions that many packages have, in plain words: small letters, equal rows, prefixes and suffixes. -/

theorem emp : Array.toList (ByteArray.data { data := #[] }) = ([] : List UInt8) := rfl
theorem bytesD_len (l : List UInt8) : (bytesD l).length = l.length := by simp [bytesD]
theorem bytesD_getD {l : List UInt8} {i : Nat} (h : i < l.length) : (bytesD l).getD i .no = .int ((l.getD i 0).toNat : Int) := by
  simp [bytesD, List.getD_eq_getElem?_getD, List.getElem?_eq_getElem h]
theorem bytesD_set (l : List UInt8) (i : Nat) (c : UInt8) : (bytesD l).set i (.int (c.toNat : Int)) = bytesD (l.set i c) := by simp [bytesD, List.map_set]
theorem dBytes_bytesD (l : List UInt8) : dBytes (bytesD l) = l := by
  unfold dBytes bytesD
  rw [List.map_map]
  conv => rhs; rw [← List.map_id l]
  apply List.map_congr_left
  intro c _
  simp [D.toInt]
theorem dBytes_append (a b : List D) : dBytes (a ++ b) = dBytes a ++ dBytes b := by simp [dBytes]
theorem bytesD_append (a b : List UInt8) : bytesD (a ++ b) = bytesD a ++ bytesD b := by simp [bytesD]

/-- A small letter in place of a great one. -/
def low1 (c : UInt8) : UInt8 := if 65 ≤ c.toNat ∧ c.toNat ≤ 90 then UInt8.ofNat (c.toNat + 32) else c
theorem low1_up {c : UInt8} (h1 : 65 ≤ c.toNat) (h2 : c.toNat ≤ 90) : ((low1 c).toNat : Int) = (c.toNat : Int) + 32 := by
  unfold low1
  rw [if_pos ⟨h1, h2⟩]
  have : (UInt8.ofNat (c.toNat + 32)).toNat = c.toNat + 32 := by
    rw [UInt8.toNat_ofNat']; omega
  rw [this]; simp
theorem low1_no {c : UInt8} (h : ¬ (65 ≤ c.toNat ∧ c.toNat ≤ 90)) : low1 c = c := by unfold low1; rw [if_neg h]

theorem set_mid {α : Type} (x y : α) (r : List α) : ∀ a : List α, (a ++ x :: r).set a.length y = a ++ y :: r := by
  intro a
  induction a with
  | nil => rfl
  | cons b a ih => simp [ih]
theorem lower_loop {L : Int → Int → List D → R} (hL : ∀ (v9 v10 : Int) (v7s : List D), L v9 v10 v7s =
    cond (decide (v10 < v9))
      (cond (inb v10 (List.length v7s))
        (cond (bif decide (65 ≤ D.toInt (List.getD v7s (Int.toNat v10) D.no)) then decide (D.toInt (List.getD v7s (Int.toNat v10) D.no) ≤ 90) else false)
          (cond (inb v10 (List.length v7s))
            (L v9 (IntKind.wrap IntKind.i64 (v10 + 1)) (List.set v7s (Int.toNat v10) (D.int (IntKind.wrap IntKind.u8 (D.toInt (List.getD v7s (Int.toNat v10) D.no) + 32)))))
            (none))
          (L v9 (IntKind.wrap IntKind.i64 (v10 + 1)) v7s))
        (none))
      (some [D.str (dBytes v7s)])) (s : List UInt8) (hs : s.length ≤ 4611686018427387904) :
    L (((bytesD s).length : Nat) : Int) 0 (bytesD s) = some [.str (s.map low1)] := by
  have key : ∀ n i : Nat, i + n = s.length → L (s.length : Int) (i : Int) (bytesD ((s.take i).map low1 ++ s.drop i)) = some [.str (s.map low1)] := by
    intro n
    induction n with
    | zero =>
      intro i hi
      have : i = s.length := by omega
      subst this
      rw [hL, dec_f (by omega)]
      simp [dBytes_bytesD]
    | succ n ih =>
      intro i hi
      have hil : i < s.length := by omega
      have hlen : (bytesD ((s.take i).map low1 ++ s.drop i)).length = s.length := by rw [bytesD_len]; simp; omega
      have hlist : (s.take (i + 1)).map low1 ++ s.drop (i + 1) = (s.take i).map low1 ++ low1 (s.getD i 0) :: s.drop (i + 1) := by rw [take_snoc 0 hil]; simp
      have hcur : (s.take i).map low1 ++ s.drop i = (s.take i).map low1 ++ s.getD i 0 :: s.drop (i + 1) := by rw [drop_cons 0 hil]
      have htl : ((s.take i).map low1).length = i := by simp; omega
      have hset : ((s.take i).map low1 ++ s.getD i 0 :: s.drop (i + 1)).set i (low1 (s.getD i 0)) = (s.take i).map low1 ++ low1 (s.getD i 0) :: s.drop (i + 1) := by
        have := set_mid (s.getD i 0) (low1 (s.getD i 0)) (s.drop (i + 1)) ((s.take i).map low1)
        rwa [htl] at this
      have hg : ((s.take i).map low1 ++ s.drop i).getD i 0 = s.getD i 0 := by
        rw [hcur, List.getD_eq_getElem?_getD, List.getElem?_append_right (by omega), htl]; simp
      have hgd : (bytesD ((s.take i).map low1 ++ s.drop i)).getD i .no = .int ((s.getD i 0).toNat : Int) := by
        rw [bytesD_getD (by rw [← bytesD_len, hlen]; exact hil), hg]
      have e1 := ih (i + 1) (by omega)
      rw [hL, dec_t (by omega), hlen, inb_nat hil, nxt (by omega)]
      simp only [cond_true, Int.toNat_natCast, hgd, tI]
      by_cases hu : 65 ≤ (s.getD i 0).toNat ∧ (s.getD i 0).toNat ≤ 90
      · rw [dec_t (by omega), dec_t (by omega)]
        simp only [cond_true]
        rw [wrap_u8 (by omega) (by omega), ← low1_up hu.1 hu.2, bytesD_set, hcur, hset, ← hlist]
        exact e1
      · have : (bif decide (65 ≤ ((s.getD i 0).toNat : Int)) then decide (((s.getD i 0).toNat : Int) ≤ 90) else false) = false := by
          by_cases h1 : 65 ≤ (s.getD i 0).toNat
          · rw [dec_f (p := ((s.getD i 0).toNat : Int) ≤ 90) (by omega)]; simp
          · rw [dec_f (by omega)]; rfl
        rw [this, hcur]
        rw [hlist, low1_no hu] at e1
        exact e1
  have := key s.length 0 (by omega)
  rw [bytesD_len]
  simpa using this

/-- A row is equal to itself. -/
theorem eq_same {L : Int → R} {xs : List D} {e : D → Bool} (he : ∀ d, e d = true) (hL : ∀ v : Int, L v =
    cond (decide (v < (xs.length : Int)))
      (cond (inb v xs.length)
        (cond (inb v xs.length)
          (cond (bif e (List.getD xs (Int.toNat v) D.no) then false else true)
            (some [D.bool false])
            (L (IntKind.wrap IntKind.i64 (v + 1))))
          (none))
        (none))
      (some [D.bool true])) (hx : xs.length ≤ 4611686018427387904) : L 0 = some [.bool true] := by
  have key : ∀ n i : Nat, i + n = xs.length → L (i : Int) = some [.bool true] := by
    intro n
    induction n with
    | zero => intro i hi; rw [hL, dec_f (by omega)]; rfl
    | succ n ih =>
      intro i hi
      rw [hL, dec_t (by omega), inb_nat (by omega), he, nxt (by omega)]
      exact ih (i + 1) (by omega)
  exact key xs.length 0 (by omega)

/-! ### Prefixes and suffixes -/
def hasSuf (s p : List UInt8) : Bool := decide (p.length ≤ s.length) && decide (s.drop (s.length - p.length) = p)
def hasPre (s p : List UInt8) : Bool := decide (p.length ≤ s.length) && decide (s.take p.length = p)
theorem suf_eq {s p : List UInt8} (hs : s.length ≤ 4611686018427387904) (hp : p.length ≤ 4611686018427387904) :
    cond (bif cutOk (List.length s) (some (IntKind.wrap IntKind.i64 ((↑(List.length s) : Int) - (↑(List.length p) : Int)))) none then true else bif bif decide ((↑(List.length p) : Int) ≤ (↑(List.length s) : Int)) then true else false then false else true)
      (some [D.bool (bif decide ((↑(List.length p) : Int) ≤ (↑(List.length s) : Int)) then decide (cutL s (some (IntKind.wrap IntKind.i64 ((↑(List.length s) : Int) - (↑(List.length p) : Int)))) none = p) else false)])
      (none) = some [.bool (hasSuf s p)] := by
  by_cases h : p.length ≤ s.length
  · have e : IntKind.wrap IntKind.i64 ((↑(List.length s) : Int) - (↑(List.length p) : Int)) = ((s.length - p.length : Nat) : Int) := by rw [wrap_id (by omega) (by omega)]; omega
    rw [e, cutOk_lo (by omega), dec_t (by omega), cut_lo]
    simp [hasSuf, h]
  · rw [dec_f (by omega)]
    simp [hasSuf, h]
theorem pre_eq {s p : List UInt8} (hs : s.length ≤ 4611686018427387904) (hp : p.length ≤ 4611686018427387904) :
    cond (bif cutOk (List.length s) none (some (↑(List.length p) : Int)) then true else bif bif decide ((↑(List.length p) : Int) ≤ (↑(List.length s) : Int)) then true else false then false else true)
      (some [D.bool (bif decide ((↑(List.length p) : Int) ≤ (↑(List.length s) : Int)) then decide (cutL s none (some (↑(List.length p) : Int)) = p) else false)])
      (none) = some [.bool (hasPre s p)] := by
  by_cases h : p.length ≤ s.length
  · rw [cutOk_hi (by omega), dec_t (by omega), cut_hi]
    simp [hasPre, h]
  · rw [dec_f (by omega)]
    simp [hasPre, h]

/-! Splitting at one byte; loops over rows; how great the parts of data are. -/

/-! ### Cutting at a byte -/
def cuts (c : UInt8) : List UInt8 → List UInt8 → List (List UInt8)
  | w, [] => [w]
  | w, b :: r => bif b == c then w :: cuts c [] r else cuts c (w ++ [b]) r
def splitC (c : UInt8) (s : List UInt8) : List (List UInt8) := cuts c [] s
theorem cuts_none {c : UInt8} : ∀ (s w : List UInt8), c ∉ s → cuts c w s = [w ++ s] := by
  intro s
  induction s with
  | nil => intro w _; simp [cuts]
  | cons b r ih =>
    intro w h
    have hb : (b == c) = false := by
      rw [← Bool.not_eq_true, beq_iff_eq]; intro e; subst e; exact h List.mem_cons_self
    simp only [cuts, hb, cond_false]
    rw [ih _ (fun hr => h (List.mem_cons_of_mem _ hr))]; simp
theorem cuts_one {c : UInt8} (post : List UInt8) : ∀ (pre w : List UInt8), c ∉ pre → cuts c w (pre ++ c :: post) = (w ++ pre) :: cuts c [] post := by
  intro pre
  induction pre with
  | nil => intro w _; simp [cuts]
  | cons b r ih =>
    intro w h
    have hb : (b == c) = false := by
      rw [← Bool.not_eq_true, beq_iff_eq]; intro e; subst e; exact h List.mem_cons_self
    simp only [List.cons_append, cuts, hb, cond_false]
    rw [ih _ (fun hr => h (List.mem_cons_of_mem _ hr))]; simp
theorem idx_cases (c : UInt8) : ∀ s : List UInt8, (Lib.indexByte s c = -1 ∧ c ∉ s) ∨ ∃ pre post, s = pre ++ c :: post ∧ c ∉ pre ∧ Lib.indexByte s c = (pre.length : Int) := by
  intro s
  induction s with
  | nil => exact .inl ⟨rfl, by simp⟩
  | cons b r ih =>
    unfold Lib.indexByte
    cases hb : b == c with
    | true =>
      have := beq_iff_eq.1 hb; subst this
      exact .inr ⟨[], r, rfl, by simp, by simp⟩
    | false =>
      have hne : b ≠ c := by intro e; subst e; simp at hb
      rcases ih with ⟨h1, h2⟩ | ⟨pre, post, h1, h2, h3⟩
      · left
        refine ⟨by simp [h1], ?_⟩
        simp only [List.mem_cons, not_or]
        exact ⟨fun e => hne e.symm, h2⟩
      · right
        refine ⟨b :: pre, post, by rw [h1]; rfl, ?_, ?_⟩
        · simp only [List.mem_cons, not_or]
          exact ⟨fun e => hne e.symm, h2⟩
        · rw [h3]
          have : ((pre.length : Int) == -1) = false := by rw [← Bool.not_eq_true, beq_iff_eq]; omega
          simp [this]
theorem splitC_none {c : UInt8} {s : List UInt8} (h : c ∉ s) : splitC c s = [s] := by unfold splitC; rw [cuts_none _ _ h]; rfl
theorem splitC_one {c : UInt8} {pre : List UInt8} (post : List UInt8) (h : c ∉ pre) : splitC c (pre ++ c :: post) = pre :: splitC c post := by unfold splitC; rw [cuts_one _ _ _ h]; rfl
theorem split_len (c : UInt8) : ∀ n (s : List UInt8), s.length ≤ n → (splitC c s).length = s.count c + 1 ∧ ∀ x ∈ splitC c s, x.length ≤ s.length := by
  intro n
  induction n with
  | zero =>
    intro s h
    have : s = [] := List.length_eq_zero_iff.1 (by omega)
    subst this
    exact ⟨rfl, fun x hx => by simp [splitC, cuts] at hx; subst hx; simp⟩
  | succ n ih =>
    intro s h
    rcases idx_cases c s with ⟨_, h2⟩ | ⟨pre, post, h1, h2, _⟩
    · rw [splitC_none h2, List.count_eq_zero.2 h2]
      exact ⟨rfl, fun x hx => by simp at hx; subst hx; exact Nat.le_refl _⟩
    · subst h1
      simp at h
      obtain ⟨q1, q2⟩ := ih post (by omega)
      rw [splitC_one _ h2]
      refine ⟨by simp [q1, List.count_eq_zero.2 h2], fun x hx => ?_⟩
      rcases List.mem_cons.1 hx with rfl | hx
      · simp
      · have := q2 x hx; simp; omega

theorem take_set_self {α : Type} (x : α) : ∀ (a : List α) (i : Nat), (a.set i x).take i = a.take i := by
  intro a
  induction a with
  | nil => intro i; rfl
  | cons b r ih => intro i; cases i with
    | zero => rfl
    | succ i => simp [ih]
theorem split_loop {L : List UInt8 → Int → Int → List D → R} {X : List UInt8 → R} {c : UInt8} (hX : ∀ s, s.length ≤ 4194304 → X s = some [.int (Lib.indexByte s c)]) (hL : ∀ (s0 : List UInt8) (n3 i10 : Int) (a9s : List D), L s0 n3 i10 a9s =
    cond (decide (i10 < n3))
      (opt (X s0) fun r1 =>
        cond (decide (D.toInt (List.getD r1 0 D.no) < 0))
          (cond (inb i10 (List.length a9s))
            (cond (cutOk (List.length (List.set a9s (Int.toNat i10) (D.str s0))) none (some (IntKind.wrap IntKind.i64 (i10 + 1))))
              (some [D.list (cutL (List.set a9s (Int.toNat i10) (D.str s0)) none (some (IntKind.wrap IntKind.i64 (i10 + 1))))])
              (none))
            (none))
          (cond (cutOk (List.length s0) none (some (IntKind.wrap IntKind.i64 (D.toInt (List.getD r1 0 D.no) + 0))))
            (cond (inb i10 (List.length a9s))
              (cond (cutOk (List.length s0) (some (IntKind.wrap IntKind.i64 (D.toInt (List.getD r1 0 D.no) + (↑(List.length [c]) : Int)))) none)
                (L (cutL s0 (some (IntKind.wrap IntKind.i64 (D.toInt (List.getD r1 0 D.no) + (↑(List.length [c]) : Int)))) none) n3 (IntKind.wrap IntKind.i64 (i10 + 1)) (List.set a9s (Int.toNat i10) (D.str (cutL s0 none (some (IntKind.wrap IntKind.i64 (D.toInt (List.getD r1 0 D.no) + 0)))))))
                (none))
              (none))
            (none)))
      (cond (inb i10 (List.length a9s))
        (cond (cutOk (List.length (List.set a9s (Int.toNat i10) (D.str s0))) none (some (IntKind.wrap IntKind.i64 (i10 + 1))))
          (some [D.list (cutL (List.set a9s (Int.toNat i10) (D.str s0)) none (some (IntKind.wrap IntKind.i64 (i10 + 1))))])
          (none))
        (none))) : ∀ (n : Nat) (s : List UInt8), s.length ≤ n → n ≤ 4194304 → ∀ (i : Nat) (a : List D), i + s.count c ≤ 4194304 → a.length = i + s.count c + 1 → L s ((i + s.count c : Nat) : Int) (i : Int) a = some [.list (a.take i ++ (splitC c s).map .str)] := by
  intro n
  induction n with
  | zero =>
    intro s h _ i a hb ha
    have : s = [] := List.length_eq_zero_iff.1 (by omega)
    subst this
    rw [hL, dec_f (by simp), nxt (by omega), inb_nat (by omega), Int.toNat_natCast, cutOk_hi (by rw [List.length_set]; omega), cut_hi]
    simp only [cond_true, cond_false]
    rw [take_snoc .no (by rw [List.length_set]; omega)]
    simp only [List.count_nil, Nat.add_zero] at ha
    simp [splitC, cuts, List.getD_eq_getElem?_getD, List.getElem?_set, ha, take_set_self]
  | succ n ih =>
    intro s h hn i a hb ha
    have hin : inb (i : Int) a.length = true := inb_nat (by omega)
    have hx := hX s (by omega)
    rcases idx_cases c s with ⟨_, h2⟩ | ⟨pre, post, h1, h2, h3⟩
    · have hc : s.count c = 0 := List.count_eq_zero.2 h2
      rw [hc] at ha ⊢
      rw [hL, dec_f (by omega), nxt (by omega), hin, Int.toNat_natCast, cutOk_hi (by rw [List.length_set]; omega), cut_hi, splitC_none h2]
      simp only [cond_true, cond_false]
      rw [take_snoc .no (by rw [List.length_set]; omega)]
      simp [List.getD_eq_getElem?_getD, List.getElem?_set, ha, take_set_self]
    · have hcs : s.count c = post.count c + 1 := by rw [h1]; simp [List.count_eq_zero.2 h2]
      have hl : s.length = pre.length + 1 + post.length := by rw [h1]; simp; omega
      rw [hL, dec_t (by omega), hx, opt_s, List.getD_cons_zero, tI, h3, dec_f (by omega), nxt (by omega), hin, Int.toNat_natCast]
      have w0 : IntKind.wrap IntKind.i64 ((pre.length : Int) + 0) = (pre.length : Int) := wrap_id (by omega) (by omega)
      have w1 : IntKind.wrap IntKind.i64 ((pre.length : Int) + (↑(List.length [c]) : Int)) = ((pre.length + 1 : Nat) : Int) := nxt (by omega)
      have e1 : s.take pre.length = pre := by rw [h1]; simp
      have e2 : s.drop (pre.length + 1) = post := by rw [h1]; simp [List.drop_append]
      have k1 : cutOk s.length none (some (pre.length : Int)) = true := cutOk_hi (by omega)
      have k2 : cutOk s.length (some ((pre.length + 1 : Nat) : Int)) none = true := cutOk_lo (by omega)
      simp only [w0, w1, k1, k2, cut_lo, cut_hi, e1, e2, cond_true, cond_false]
      have := ih post (by omega) (by omega) (i + 1) (a.set i (.str pre)) (by omega) (by rw [List.length_set]; omega)
      rw [show i + 1 + post.count c = i + s.count c by omega] at this
      rw [this, h1, splitC_one _ h2, take_snoc .no (by rw [List.length_set]; omega)]
      have hlt : i < i + s.count c + 1 := by omega
      simp [List.getD_eq_getElem?_getD, List.getElem?_set, ha, take_set_self, hlt]

/-! ### A loop that asks all -/
theorem all_loop {L : Int → R} {xs : List D} {p : D → Bool} (hend : L (xs.length : Nat) = some [.bool true]) (hL : ∀ i : Nat, i < xs.length → L i = cond (p (xs.getD i .no)) (L ((i + 1 : Nat) : Int)) (some [.bool false])) : L 0 = some [.bool (xs.all p)] := by
  have key : ∀ n i : Nat, i + n = xs.length → L i = some [.bool ((xs.drop i).all p)] := by
    intro n
    induction n with
    | zero =>
      intro i hi
      have : i = xs.length := by omega
      subst this
      rw [hend, List.drop_length]; rfl
    | succ n ih =>
      intro i hi
      have hil : i < xs.length := by omega
      rw [hL i hil, ih (i + 1) (by omega), drop_cons .no hil]
      simp only [List.all_cons]
      cases p (xs.getD i .no) <;> rfl
  have := key xs.length 0 (by omega)
  rwa [List.drop_zero] at this
theorem all_loopS {L : Int → R} {s : List UInt8} {p : UInt8 → Bool} (hend : L (s.length : Nat) = some [.bool true]) (hL : ∀ i : Nat, i < s.length → L i = cond (p (s.getD i 0)) (L ((i + 1 : Nat) : Int)) (some [.bool false])) : L 0 = some [.bool (s.all p)] := by
  have key : ∀ n i : Nat, i + n = s.length → L i = some [.bool ((s.drop i).all p)] := by
    intro n
    induction n with
    | zero =>
      intro i hi
      have : i = s.length := by omega
      subst this
      rw [hend, List.drop_length]; rfl
    | succ n ih =>
      intro i hi
      have hil : i < s.length := by omega
      rw [hL i hil, ih (i + 1) (by omega), drop_cons 0 hil]
      simp only [List.all_cons]
      cases p (s.getD i 0) <;> rfl
  have := key s.length 0 (by omega)
  rwa [List.drop_zero] at this

/-! ### How great parts are -/
theorem mass_mem {l : List D} {x : D} (h : x ∈ l) : dmass x ≤ dmass.dmAll l := by
  induction l with
  | nil => cases h
  | cons y r ih =>
    simp only [dmass.dmAll]
    rcases List.mem_cons.1 h with rfl | h
    · omega
    · have := ih h; omega
theorem mass_getD (l : List D) (i : Nat) : dmass (l.getD i .no) ≤ dmass.dmAll l := by
  by_cases h : i < l.length
  · rw [getD_eq l i .no h]; exact mass_mem (List.getElem_mem h)
  · rw [List.getD_eq_getElem?_getD, List.getElem?_eq_none (by omega)]; simp [dmass]
theorem mass_cell (d : D) (i : Nat) : dmass (d.cell i) ≤ dmass d := by
  cases d with
  | agg cs => exact mass_getD cs i
  | _ => cases i <;> simp [D.cell, D.cells, dmass]
theorem toStr_le (d : D) : d.toStr.length ≤ dmass d := by cases d <;> simp [D.toStr, dmass]
theorem cellS_le (d : D) (i : Nat) : (D.toStr (d.cell i)).length ≤ dmass d := Nat.le_trans (toStr_le _) (mass_cell d i)
/-- The cells of a listed table. -/
def flatV : DataW Unit → List Value
  | .lit (.int k n) => [.int k n]
  | .lit (.bool b) => [.bool b]
  | .lit (.string s) => [.string ⟨s.toArray⟩]
  | .agg l => flatAll l
  | _ => []
where flatAll : List (DataW Unit) → List Value
  | [] => []
  | d :: r => flatV d ++ flatAll r
theorem toList_le (d : D) : dmass.dmAll d.toList ≤ dmass d := by cases d <;> simp [D.toList, dmass, dmass.dmAll]
end Go.Proofs.Ytbinmfenhbpdnaa.DS
