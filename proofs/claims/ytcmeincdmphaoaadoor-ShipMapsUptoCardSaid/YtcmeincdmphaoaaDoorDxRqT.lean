/- strings.Builder's copyCheck, laid by hand (lay-shelf did not lay it at this dump). -/
import Derived.Test.YtcmeincdmphaoaaDoorDxRqF
import Derived.Test.YtcmeincdmphaoaaDoorDxRqS
set_option linter.unusedVariables false
set_option linter.unusedSimpArgs false
namespace Go.Proofs.YtcmeincdmphaoaaDoor.rp
open Go.RowKit
set_option linter.unusedVariables false
set_option maxRecDepth 100000
def escP : Prs := [(38, [38, 97, 109, 112, 59]), (60, [38, 108, 116, 59]), (62, [38, 103, 116, 59]), (34, [38, 113, 117, 111, 116, 59])]
def escXs : List ByteArray := [⟨#[38]⟩, ⟨#[38, 97, 109, 112, 59]⟩, ⟨#[60]⟩, ⟨#[38, 108, 116, 59]⟩, ⟨#[62]⟩, ⟨#[38, 103, 116, 59]⟩, ⟨#[34]⟩, ⟨#[38, 113, 117, 111, 116, 59]⟩]
theorem esc_ok : PrsOK escP escXs := by
  refine ⟨?_, ?_, ?_, ?_⟩
  · intro j p h
    match j, h with
    | 0, h | 1, h | 2, h | 3, h => simp [escP] at h; subst h; rfl
    | j + 4, h => simp [escP] at h
  · intro j p h
    match j, h with
    | 0, h | 1, h | 2, h | 3, h => simp [escP] at h; subst h; rfl
    | j + 4, h => simp [escP] at h
  · intro j p h
    match j, h with
    | 0, h | 1, h | 2, h | 3, h => simp [escP] at h; subst h; simp
    | j + 4, h => simp [escP] at h
  · intro i j p q h1 h2 hij
    have hi : i < 4 := (List.getElem?_eq_some_iff.1 h1).1
    have hj : j < 4 := (List.getElem?_eq_some_iff.1 h2).1
    match i, j, hi, hj, h1, h2 with
    | 0, 1, _, _, h1, h2 | 0, 2, _, _, h1, h2 | 0, 3, _, _, h1, h2 | 1, 2, _, _, h1, h2 | 1, 3, _, _, h1, h2 | 2, 3, _, _, h1, h2 => simp [escP] at h1 h2; subst h1 h2; decide
    | 0, 0, _, _, _, _ | 1, 1, _, _, _, _ | 2, 2, _, _, _, _ | 3, 3, _, _, _, _ => omega
    | 1, 0, _, _, _, _ | 2, 0, _, _, _, _ | 2, 1, _, _, _, _ | 3, 0, _, _, _, _ | 3, 1, _, _, _, _ | 3, 2, _, _, _, _ => omega
    | i + 4, _, h, _, _, _ => omega
    | _, j + 4, _, h, _, _ => omega
set_option maxHeartbeats 1600000 in
theorem w20 {w : World} {r o : Nat} {xs : List ByteArray} {cap : Nat} (hb : w.heap[r]? = some (.cells (replA 0 0 0 .nilIface (.slice (some ⟨o, 0, none⟩) 8 cap)) 68 (0, 0))) (hx : StrRow w o xs) (hro : r ≠ o) (hcap : 8 ≤ cap)
    {P : Prs} (hP : P.length = 4) (hok : PrsOK P xs) {base : Nat} (hbase : base ≤ r) {s : ByteArray} (hs : s.size ≤ 68719476736) :
    Calls Tryd.prog 24 #[.pointer (some ⟨r, 0, none⟩), .string s] w fun e w' => e = .returned (.string ⟨(esc (fOf P) s.data.toList).toArray⟩) ∧ Below base w w' := by
  have mixed := mixd
  have hmf : ∀ (fn : Fn) (first cap : Array Value) (w : World), (Instr.makeFunc fn first cap).run Tryd.prog w = .ok (.func fn first cap) w := fun _ _ _ _ => rfl
  have h27 := slow28 hb hx hro hcap hP hok hbase
  go_enter Tryd.func24, Tryd.ntmps24
  go_wp2_with (go_at_call 32; refine h27.mono ?_; rintro e w1 ⟨rfl, bs, hb1, hS1, hB1⟩; have c1 := (cell_at hb1 3).trans (by simp [replA] : (replA 1 0 0 (.iface 91 (.pointer (some ⟨bs, 0, none⟩))) (.slice none 0 0))[3]? = some (.iface 91 (.pointer (some ⟨bs, 0, none⟩)))))
  refine (w96 hP hok.nd hok.big hS1 hs).mono ?_
  rintro e w2 ⟨rfl, hB2⟩
  have hB3 : Below base w w2 := by
    have hrl : r < w.heap.size := (Array.getElem?_eq_some_iff.1 hb).1
    have hsz := hB1.size
    exact ⟨hB2.os.trans hB1.os, hB2.tape.trans hB1.tape, hB2.output.trans hB1.output, Nat.le_trans hB1.size (Nat.le_trans (by omega) hB2.size), fun k hk => (hB2.block k (by omega)).trans (hB1.block k hk)⟩
  go_wp2
  go_ret
  exact ⟨rfl, hB3⟩
set_option maxHeartbeats 1600000 in
theorem w10 {w : World} {s : ByteArray} (hs : s.size ≤ 68719476736) :
    Calls Tryd.prog 12 #[.string s] w fun e w' => e = .returned (.string ⟨(esc (fOf escP) s.data.toList).toArray⟩) ∧ Below w.heap.size w w' := by
  have mixed := mixd
  have hrow : StrRow (w.alloc (.cells (escXs.map Value.string).toArray 9)) w.heap.size escXs := ⟨_, heap_alloc_new _ _, fun j s hj => by rw [List.getElem?_toArray, List.getElem?_map, hj]; rfl⟩
  have h19 := w19 hrow 8 rfl (by omega) rfl (by omega)
  have hsz := size_alloc1 w (.cells (escXs.map Value.string).toArray 9)
  go_enter Tryd.func12, Tryd.ntmps12
  go_wp2_with fail
  refine h19.mono ?_
  rintro e w1 ⟨r, o2, cap, rfl, hb1, hx1, hro, hr1, ho1, hcap, hB1⟩
  have h20 := w20 hb1 hx1 hro hcap (P := escP) rfl esc_ok (base := w.heap.size) (by rw [hsz] at hr1; omega) hs
  go_wp2_with (go_at_call 24; refine h20.mono ?_; rintro e w2 ⟨rfl, hB2⟩)
  go_ret
  refine ⟨rfl, ?_⟩
  rw [hsz] at hB1
  have hz := hB1.size
  exact ⟨hB2.os.trans hB1.os, hB2.tape.trans hB1.tape, hB2.output.trans hB1.output, Nat.le_trans (by omega) (Nat.le_trans hB1.size hB2.size), fun k hk => (hB2.block k hk).trans ((hB1.block k (by omega)).trans (heap_alloc_old _ _ hk))⟩
end Go.Proofs.YtcmeincdmphaoaaDoor.rp

namespace Go.Proofs
open Go.Shelf Go.RowKit Go.Lib
def Tryd.lays240_ren : Go.Shelf.Ren := ⟨fun | 240 => 20 | 276 => 29 | n => n, fun | 0 => 0 | 4 => 4 | 9 => 9 | 20 => 20 | 70 => 30 | 72 => 33 | 164 => 51 | 37 => 31 | n => n, fun | n => n⟩
theorem Tryd.lays240 : Go.Proofs.Lays.n240 Tryd.prog Tryd.lays240_ren := {
  mixed := by kernel_rfl
  f240 := Tryd.func20.trans (congrArg some (by kernel_rfl))
  f276 := Tryd.func29.trans (congrArg some (by kernel_rfl))
  t0 := Tryd.underlying0
  a0 := Tryd.isAgg0
  z0 := Tryd.sizeOf0
  v0 := Tryd.zeroValue0
  t4 := Tryd.underlying4
  a4 := Tryd.isAgg4
  z4 := Tryd.sizeOf4
  v4 := Tryd.zeroValue4
  t9 := Tryd.underlying9
  a9 := Tryd.isAgg9
  z9 := Tryd.sizeOf9
  v9 := Tryd.zeroValue9
  t20 := Tryd.underlying20
  a20 := Tryd.isAgg20
  z20 := Tryd.sizeOf20
  v20 := Tryd.zeroValue20
  t70 := Tryd.underlying30
  a70 := Tryd.isAgg30
  z70 := Tryd.sizeOf30
  v70 := Tryd.zeroValue30
  t72 := Tryd.underlying33
  a72 := Tryd.isAgg33
  z72 := Tryd.sizeOf33
  v72 := Tryd.zeroValue33
  t164 := Tryd.underlying51
  a164 := Tryd.isAgg51
  z164 := Tryd.sizeOf51
  v164 := Tryd.zeroValue51 }
theorem Tryd.Builder_X72_240 : Builder.X72 Tryd.prog Tryd.lays240_ren where
  sizeBuilder := by kernel_rfl
  liesBuilder := by kernel_rfl
end Go.Proofs
