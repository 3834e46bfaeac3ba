/- The data-level semantics: plain data, an interpreter of the program over them, and its soundness; part 9. -/
import Derived.Shelf.Strings.IndexAnyAll
import Derived.Shelf.Small.Utf8
import Derived.Shelf.Strings.Cut
import Derived.Laws.Runes
import Derived.Test.YtefclcihphpejaaDoorF8
import Derived.Lib.SlTrimSet
import Derived.Lib.Repeat
import Derived.Sort.OwnSorted
import Derived.Shelf.Sort.Plain
import Derived.Shelf.Slices.In.SortNone2
set_option linter.unusedVariables false
set_option linter.unusedSimpArgs false
namespace Go.Proofs
open Go.Shelf Go.RowKit Go.Lib
variable {P : Program} {ρ : Ren}

end Go.Proofs
namespace Go.Proofs.YtefclcihphpejaaDoor.DS
section
variable {P : Program} {E : Env}
end
end Go.Proofs.YtefclcihphpejaaDoor.DS

namespace Go.Proofs.YtefclcihphpejaaDoor.DS
section
variable {P : Program} {E : Env}
end
end Go.Proofs.YtefclcihphpejaaDoor.DS

namespace Go.Proofs.YtefclcihphpejaaDoor.DS
section
variable {P : Program} {E : Env}
end
end Go.Proofs.YtefclcihphpejaaDoor.DS

namespace Go.Proofs.YtefclcihphpejaaDoor.DS
open Go.Shelf Go.RowKit Go.Proofs Go.Sort

def srtS (ss : List (List UInt8)) : List (List UInt8) := ss.mergeSort fun x y => decide (x ≤ y)
def srt (xs : List D) : List D := (srtS (xs.map D.toStr)).map .str
theorem srt_len (xs : List D) : (srt xs).length = xs.length := by simp [srt, srtS]
def xSort : List D → Option (List D)
  | [d] => cond (decide (d.toList.length ≤ lim)) (some [.list (srt d.toList)]) none
  | _ => none

section
variable {P : Program} {E : Env}
/-- A lent row as an argument. -/
theorem lent_args {e : TypeId} {ei : TI} (he : lk e E.tt = some ei) {X : Nat → Prop} {w : World} {M : Mem} {vs : List Value} {d : D} (h : ArgsOK E X w M [.box e [.lent]] vs [d]) :
    ∃ ι v, vs = [v] ∧ ι 0 = v ∧ (∃ a n c, v = .slice a n c) ∧ ArrRel E.tt M w e ei v d.toList ∧ HRel E.tt X w M ι M (fun i => lk i [(0, Obj.arr e d.toList)]) w := by
  obtain ⟨hl, sl, os, ι, hp, H, hsl, _⟩ := h
  have hp' : some ([(0, SV.own 0)], [(0, Obj.arr e d.toList)]) = some (sl, os) := hp
  injection hp' with hp'
  injection hp' with hp1 hp2
  subst hp1 hp2
  obtain ⟨⟨u, hu, hr⟩, _⟩ := hsl 0 (.own 0) rfl
  obtain ⟨hv, hsl⟩ : u = ι 0 ∧ ∃ a n c, ι 0 = .slice a n c := hr
  obtain ⟨ei', he', _, harr⟩ := H.obj 0 (Obj.arr e d.toList) rfl
  rw [he] at he'; cases he'
  refine ⟨ι, u, ?_, hv.symm, by rw [hv]; exact hsl, by rw [hv]; exact harr, H⟩
  match vs, hl, hu with
  | [x], _, hu => simp at hu; subst hu; rfl

theorem extSort {ρ : Ren} (L : Lays.n192 P ρ) {f : Nat} {e : TypeId} (e1 : ρ.f 192 = f) {fn : Func} {c : Code} (hf : P.funcs[f]? = some fn) (hn : (fn.name == "runtime.NumGoroutine") = false) (hb : fn.body = some c)
    {ei : TI} (he : lk e E.tt = some ei) (hk : ei.kt = .str) (hc : ei.cells.length = 1) (hs : lk f E.sigs = some ⟨[.box e [.lent]], [], false⟩) {W0 : World} : ExtOK P E W0 f xSort := by
  intro sg ds r hsg hr w M vs X hS hX ha
  rw [hs] at hsg; injection hsg with hsg; subst hsg
  unfold xSort at hr
  split at hr
  · rename_i d
    obtain ⟨hlim, hr⟩ := cond_some.1 hr
    have hlim := of_decide_eq_true hlim
    injection hr with hr; subst hr
    obtain ⟨ι, v, rfl, hι, ⟨a, n, cc, hv⟩, harr, H⟩ := lent_args he ha
    clear ha
    generalize d.toList = es at *
    have post : ∀ w' : World, w.grownBy w' (blockOf v) → ArrRel E.tt M w' e ei v (srt es) →
        RetOK E X w M (Sig.outs ⟨[.box e [.lent]], [], false⟩) [] [v] [.list (srt es)] (.tuple #[]) w' := by
      intro w' hg harr' base bid svs os hres _
      injection hres with hres
      injection hres with hr1 hr2
      subst hr1 hr2
      have i0 : put (fun _ => undef) (bid 0) v (bid 0) = v := put_same _ _ _
      generalize hιd : put (fun _ => undef) (bid 0) v = ι' at i0
      have hobj : ∀ i o, lk i [(bid 0, Obj.arr e (srt es))] = some o → i = bid 0 ∧ o = Obj.arr e (srt es) := by
        intro i o h
        simp only [lk] at h
        cases hb1 : Nat.beq i (bid 0) with
        | true => rw [hb1] at h; injection h with h; exact ⟨beq_iff.1 hb1, h.symm⟩
        | false => rw [hb1] at h; cases h
      refine ⟨ι', M, ?_, ⟨[], rfl, rfl, fun i s x h => (by simp at h)⟩, fun i hi => (by cases hi), ?_⟩
      · show HRel E.tt X w M ι' M (fun i => lk i [(bid 0, Obj.arr e (srt es))]) w'
        refine ⟨?_, ?_, ?_, ?_, H.memx, H.memB, hg.os, hg.tape, hg.output, hg.size, ?_⟩
        · intro i o ho
          obtain ⟨rfl, rfl⟩ := hobj i o ho
          exact ⟨ei, he, by omega, by rw [i0]; exact harr'⟩
        · intro i i' o o' k ho ho' hii hk
          obtain ⟨rfl, rfl⟩ := hobj i o ho
          obtain ⟨rfl, rfl⟩ := hobj i' o' ho'
          exact absurd rfl hii
        · intro i o k ho hk
          obtain ⟨rfl, rfl⟩ := hobj i o ho
          rw [i0] at hk
          exact H.own 0 _ k rfl (by rw [hι]; exact hk)
        · intro ad u hu
          have hc := H.mem ad u hu
          refine (World.cell?_of_block (w := w) (hg.block ad.block (cell_lt hc) (fun e => ?_))).trans hc
          have := (H.own 0 _ ad.block rfl (by rw [hι]; exact e.symm)).2 ad.off ad.spot
          rw [show (⟨ad.block, ad.off, ad.spot⟩ : Addr) = ad from rfl, hu] at this
          cases this
        · intro k hk hkX
          refine hg.block k hk (fun e => hkX ?_)
          rcases (H.own 0 _ k rfl (by rw [hι]; exact e.symm)).1 with h | h
          · omega
          · exact h
      · intro q t' cs' hq
        simp only [Sig.outs, cond_false] at hq
        match q, hq with
        | 0, hq => simp; exact i0.symm
        | q + 1, hq => simp at hq
    subst e1
    refine calls_enter hf hn hb ?_
    rcases harr with ⟨rfl, rfl⟩ | ⟨g, cap, cur, ⟨tv, rfl⟩, fr, us, rfl, hg, hle, hm, hcs, hfr, hall⟩
    · refine (Any.sort_Strings_none L none 0 w).mono fun e w' hq => ?_
      obtain ⟨rfl, rfl⟩ := hq
      exact ⟨_, rfl, post _ ⟨rfl, rfl, rfl, Nat.le_refl _, fun _ _ _ => rfl⟩ (.inl ⟨rfl, by simp [srt, srtS]⟩)⟩
    · have hlt : g < w.heap.size := (Array.getElem?_eq_some_iff.1 hg).1
      have hcell : ∀ j (hj : j < es.length), ∃ s : List UInt8, es[j] = .str s ∧ s.length ≤ maxLen ∧ cur[j]? = some (encStr s) := by
        intro j hj
        obtain ⟨q1, q2, q3⟩ := hall j hj
        rw [hk] at q3
        obtain ⟨s, u1, u2, u3⟩ := q3.inv_str
        have := q2 0 (us j) (by rw [u1]; rfl)
        rw [hc, Nat.mul_one, Nat.add_zero] at this
        refine ⟨s.data.toList, u2, by simpa using u3, ?_⟩
        rw [this, u1]
      have hmap : es = (es.map D.toStr).map .str := by
        apply List.ext_getElem (by simp)
        intro j h1 h2
        obtain ⟨s, q1, _⟩ := hcell j h1
        simp [q1, D.toStr]
      have hget : ∀ j (hj : j < es.length), cur[j]? = some (encStr ((es.map D.toStr)[j]'(by simpa using hj))) ∧ ((es.map D.toStr)[j]'(by simpa using hj)).length ≤ maxLen := by
        intro j hj
        obtain ⟨s, q1, q2, q3⟩ := hcell j hj
        simp only [List.getElem_map, q1, D.toStr]
        exact ⟨q3, q2⟩
      have hcz : cur.size = cap := by rw [hcs, hc, Nat.mul_one]
      have hlen : (es.map D.toStr).length = es.length := List.length_map _
      have hslen : (srtS (es.map D.toStr)).length = es.length := by simp [srtS]
      have hH : Holds encStr w g 0 (es.map D.toStr).toArray := by
        intro j hj
        have hj' : j < es.length := by simpa using hj
        obtain ⟨q1, _⟩ := hget j hj'
        refine ⟨?_, ?_⟩
        · rw [Nat.zero_add, Lib.cell_of_heap hg, q1]
          simp [hj']
        · have : ¬ (fr.1 ≤ 0 + j ∧ 0 + j < fr.2) := by omega
          simp [World.frozen?, hg]
          omega
      have hcall := Any.sort_Strings L g 0 cap (es.map D.toStr) w hH hlt (by rw [hlen]; rw [lim_val] at hlim; omega)
      rw [hlen] at hcall
      refine hcall.mono fun e w' hq => ?_
      obtain ⟨rfl, n, os, rfl⟩ := hq
      refine ⟨_, rfl, post _ (grownBy_sorted _) (.inr ⟨g, cap, _, ⟨tv, rfl⟩, fr, fun i => encStr ((srtS (es.map D.toStr)).getD i []), ?_, heap_sorted _ hg, ?_, hm, ?_, ?_, ?_⟩)⟩
      · rw [srt_len]
      · rw [srt_len]; exact hle
      · simp [putCells, hcs]
      · simpa [putCells] using hfr
      · intro i hi
        rw [srt_len] at hi
        have hi' : i < (srtS (es.map D.toStr)).length := by rw [hslen]; exact hi
        refine ⟨by rw [hc]; rfl, fun j u hu => ?_, ?_⟩
        · have hj : j = 0 := by
            have h1 : j < 1 := (Array.getElem?_eq_some_iff.1 hu).1
            omega
          subst hj
          have hu' : encStr ((srtS (es.map D.toStr)).getD i []) = u := by simpa [Value.cells] using hu
          rw [hc, Nat.mul_one, Nat.add_zero, ← hu']
          have hi2 : i < cur.size := by omega
          simp only [putCells, Array.getElem?_mapIdx, Array.getElem?_eq_getElem hi2, Option.map_some]
          have hc1 : 0 ≤ i ∧ i < 0 + (List.mergeSort (es.map D.toStr) fun x y => decide (x ≤ y)).toArray.size := ⟨Nat.zero_le _, by simpa using hi⟩
          rw [if_pos hc1]
          simp [srtS, List.getD_eq_getElem?_getD, hi]
        · have e0 : (srt es)[i]'(by rw [srt_len]; exact hi) = .str (srtS (es.map D.toStr))[i] := by simp [srt]
          rw [e0, hk]
          have e1 : (srtS (es.map D.toStr)).getD i [] = (srtS (es.map D.toStr))[i] := by simp [List.getD_eq_getElem?_getD, hi']
          have hmem : (srtS (es.map D.toStr))[i] ∈ es.map D.toStr := by
            have := List.getElem_mem hi'
            exact (List.mergeSort_perm _ _).mem_iff.1 this
          obtain ⟨k, hk1, hk2⟩ := List.getElem_of_mem hmem
          have hlb := (hget k (by simpa using hk1)).2
          rw [hk2] at hlb
          show Rep E.tt M .str (encStr ((srtS (es.map D.toStr)).getD i [])) (.str (srtS (es.map D.toStr))[i])
          rw [e1]
          have := Rep.str (tt := E.tt) (M := M) ⟨(srtS (es.map D.toStr))[i].toArray⟩ (by show (srtS (es.map D.toStr))[i].toArray.size ≤ maxLen; rw [List.size_toArray]; exact hlb)
          simpa using this
  · cases hr
end
end Go.Proofs.YtefclcihphpejaaDoor.DS
