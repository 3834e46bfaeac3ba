/- The walk of the program's (*parser).number. -/
import Derived.Test.YtcmeincdmphaoaaGreatDoorDxExN
import Derived.Test.YtcmeincdmphaoaaGreatDoorF9
import Derived.Test.YtcmeincdmphaoaaGreatDoorChecked
import Derived.WalkKit
import Derived.ProofKit
import Derived.Laws.RangeString
import Derived.Handy
set_option linter.unusedVariables false
set_option linter.unusedSimpArgs false
namespace Go.Proofs.YtcmeincdmphaoaaGreatDoor.DS
section
variable {P : Program} {E : Env}
abbrev ck3 : List CK := [.val .str, .val (.int .i64), .val .bool]
theorem box3_args {t : TypeId} {X : Nat → Prop} {w : World} {M : Mem} {vs : List Value} {d : D} (h : ArgsOK E X w M [.box t ck3] vs [d]) :
    ∃ ι b ti cs, vs = [.pointer (some ⟨b, 0, none⟩)] ∧ ι 0 = .pointer (some ⟨b, 0, none⟩) ∧ lk t E.tt = some ti ∧ ti.cells.length = 3 ∧ w.heap[b]? = some (.cells cs t (0, 0)) ∧ cs.size = 3 ∧
      (∀ c, cs[0]? = some c → Rep E.tt M .str c (canon .str (d.cell 0))) ∧ (∀ c, cs[1]? = some c → Rep E.tt M (.int .i64) c (canon (.int .i64) (d.cell 1))) ∧ (∀ c, cs[2]? = some c → Rep E.tt M .bool c (canon .bool (d.cell 2))) ∧
      HRel E.tt X w M ι M (fun i => lk i [(0, Obj.box t (.cells (mkCells 0 ck3 0 d)))]) w := by
  obtain ⟨hl, sl, os, ι, hp, H, hsl, _⟩ := h
  have hp' : some ([(0, SV.bptr 0 t 0 (.agg t))], [(0, Obj.box t (.cells (mkCells 0 ck3 0 d)))]) = some (sl, os) := hp
  injection hp' with hp'
  injection hp' with hp1 hp2
  subst hp1 hp2
  obtain ⟨⟨u, hu, hr⟩, _⟩ := hsl 0 (.bptr 0 t 0 (.agg t)) rfl
  obtain ⟨_, b, hι, rfl⟩ : KindAt E.tt t 0 (.agg t) ∧ ∃ b, ι 0 = .pointer (some ⟨b, 0, none⟩) ∧ u = .pointer (some ⟨b, 0, none⟩) := hr
  obtain ⟨ti, b', cs, ht, hb', hheap, hsz, hln, hcs⟩ := H.obj 0 (Obj.box t (.cells (mkCells 0 ck3 0 d))) rfl
  rw [hι] at hb'; injection hb' with hb'; injection hb' with hb'; injection hb' with hb'
  subst hb'
  have h3 : ti.cells.length = 3 := hln.symm
  refine ⟨ι, b, ti, cs, ?_, hι, ht, h3, hheap, by rw [hsz, h3], fun c hc => hcs 0 _ c rfl hc, fun c hc => hcs 1 _ c rfl hc, fun c hc => hcs 2 _ c rfl hc, H⟩
  match vs, hl, hu with
  | [x], _, hu => simp at hu; subst hu; rfl
theorem box3_ret {t : TypeId} {X : Nat → Prop} {w w' : World} {M : Mem} {ι : Nat → Value} {b : Nat} {ti : TI} {d : D} (hι : ι 0 = .pointer (some ⟨b, 0, none⟩)) (ht : lk t E.tt = some ti) (h3 : ti.cells.length = 3)
    (H : HRel E.tt X w M ι M (fun i => lk i [(0, Obj.box t (.cells (mkCells 0 ck3 0 d)))]) w) (hg : w.grownBy w' (some b)) {c0 c1 c2 : Value} {d0 d1 d2 : D} (hb : w'.heap[b]? = some (.cells #[c0, c1, c2] t (0, 0)))
    (r0 : Rep E.tt M .str c0 d0) (r1 : Rep E.tt M (.int .i64) c1 d1) (r2 : Rep E.tt M .bool c2 d2) {k : KT} {u : Value} {x : D} (hu : Rep E.tt M k u x) {g : Bool} (hgn : g = false) :
    RetOK E X w M (Sig.outs ⟨[.box t ck3], [.val k], g⟩) [.val k] [.pointer (some ⟨b, 0, none⟩)] [x, .agg [d0, d1, d2]] u w' := by
  subst hgn
  intro base bid svs os hres _
  simp only [resSV, opt] at hres
  injection hres with hres
  injection hres with hr1 hr2
  subst hr1 hr2
  have i0 : put (fun _ => undef) (bid 0) (.pointer (some ⟨b, 0, none⟩)) (bid 0) = (.pointer (some ⟨b, 0, none⟩) : Value) := put_same _ _ _
  generalize put (fun _ => undef) (bid 0) (.pointer (some ⟨b, 0, none⟩) : Value) = ι' at i0
  have hobj : ∀ i o, lk i [(bid 0, Obj.box t (.cells (mkCells (bid 0) ck3 0 (.agg [d0, d1, d2]))))] = some o → i = bid 0 ∧ o = Obj.box t (.cells (mkCells (bid 0) ck3 0 (.agg [d0, d1, d2]))) := by
    intro i o h
    simp only [lk] at h
    cases hb1 : Nat.beq i (bid 0) with
    | true => rw [hb1] at h; injection h with h; exact ⟨beq_iff.1 hb1, h.symm⟩
    | false => rw [hb1] at h; cases h
  refine ⟨ι', M, ?_, ?_, fun i hi => (by cases hi), ?_⟩
  · show HRel E.tt X w M ι' M (fun i => lk i [(bid 0, Obj.box t (.cells (mkCells (bid 0) ck3 0 (.agg [d0, d1, d2]))))]) w'
    refine ⟨?_, ?_, ?_, ?_, H.memx, H.memB, hg.os, hg.tape, hg.output, hg.size, ?_⟩
    · intro i o ho
      obtain ⟨rfl, rfl⟩ := hobj i o ho
      refine ⟨ti, b, _, ht, i0, hb, by rw [h3]; rfl, by rw [h3]; rfl, fun i s c hs hc => ?_⟩
      match i, hs, hc with
      | 0, hs, hc =>
        simp [mkCells, ck3] at hs hc; subst hs hc
        show Rep E.tt M .str c0 (canon .str d0)
        rw [r0.canon]; exact r0
      | 1, hs, hc =>
        simp [mkCells, ck3] at hs hc; subst hs hc
        show Rep E.tt M (.int .i64) c1 (canon (.int .i64) d1)
        rw [r1.canon]; exact r1
      | 2, hs, hc =>
        simp [mkCells, ck3] at hs hc; subst hs hc
        show Rep E.tt M .bool c2 (canon .bool d2)
        rw [r2.canon]; exact r2
      | i + 3, hs, _ => simp [mkCells, ck3] at hs
    · intro i i' o o' k ho ho' hii hk
      obtain ⟨rfl, rfl⟩ := hobj i o ho
      obtain ⟨rfl, rfl⟩ := hobj i' o' ho'
      exact absurd rfl hii
    · intro i o k ho hk
      obtain ⟨rfl, rfl⟩ := hobj i o ho
      rw [i0] at hk
      exact H.own 0 _ k rfl (by rw [hι]; exact hk)
    · intro ad u hu
      have hc := H.mem ad u hu
      refine (World.cell?_of_block (w := w) (hg.block ad.block (cell_lt hc) (fun e => ?_))).trans hc
      have := (H.own 0 _ ad.block rfl (by rw [hι]; exact e.symm)).2 ad.off ad.spot
      rw [show (⟨ad.block, ad.off, ad.spot⟩ : Addr) = ad from rfl, hu] at this
      cases this
    · intro k hk hkX
      refine hg.block k hk (fun e => hkX ?_)
      rcases (H.own 0 _ k rfl (by rw [hι]; exact e.symm)).1 with h | h
      · omega
      · exact h
  · show Rep E.tt M k u (canon k x)
    rw [hu.canon]; exact hu
  · intro q t' cs' hq
    simp only [Sig.outs, cond_false] at hq
    match q, hq with
    | 0, hq => simp; exact i0.symm
    | q + 1, hq => simp at hq
end
end Go.Proofs.YtcmeincdmphaoaaGreatDoor.DS

namespace Go.Proofs.YtcmeincdmphaoaaGreatDoor.ex
open Go.Proofs.YtcmeincdmphaoaaGreatDoor.DS Go.RowKit Go.Lib
set_option linter.unusedVariables false
theorem mixd : Tryz.prog.follows .mixedOrders = true := by kernel_rfl
theorem w110 (c : UInt8) (w : World) : Calls Tryz.prog 110 #[.int .u8 (c.toNat : Int)] w fun e w' => e = .returned (.bool (isDig c)) ∧ w' = w := by
  unfold isDig
  by_cases h1 : 48 ≤ c.toNat
  · have i1 : (48 : Int) ≤ (c.toNat : Int) := by omega
    by_cases h2 : c.toNat ≤ 57
    · have i2 : (c.toNat : Int) ≤ 57 := by omega
      go_enter Tryz.func110, Tryz.ntmps110
      go_wp2
      go_ret
      exact ⟨by simp [h1, h2], rfl⟩
    · have i2 : ¬ (c.toNat : Int) ≤ 57 := by omega
      go_enter Tryz.func110, Tryz.ntmps110
      go_wp2
      go_ret
      exact ⟨by simp [h1, h2], rfl⟩
  · have i1 : ¬ (48 : Int) ≤ (c.toNat : Int) := by omega
    go_enter Tryz.func110, Tryz.ntmps110
    go_wp2
    go_ret
    exact ⟨by simp [h1], rfl⟩
theorem w137_in {w : World} {b : Nat} {s : ByteArray} {i : Nat} (h0 : w.cell? ⟨b, 0, none⟩ = some (.string s)) (h1 : w.cell? ⟨b, 1, none⟩ = some (.int .i64 (i : Int))) (hi : i < s.size) :
    Calls Tryz.prog 137 #[.pointer (some ⟨b, 0, none⟩)] w fun e w' => e = .returned (.int .u8 ((s[i]'hi).toNat : Int)) ∧ w' = w.drew.drew := by
  have hlt : (i : Int) < (s.size : Int) := by omega
  have hge : (0 : Int) ≤ (i : Int) := by omega
  have mixed := mixd
  go_enter Tryz.func137, Tryz.ntmps137
  go_wp2
  go_region_o
  go_wp2
  go_region_o
  go_wp2
  go_ret
  exact ⟨rfl, rfl⟩
theorem w137_out {w : World} {b : Nat} {s : ByteArray} {i : Nat} (h0 : w.cell? ⟨b, 0, none⟩ = some (.string s)) (h1 : w.cell? ⟨b, 1, none⟩ = some (.int .i64 (i : Int))) (hi : ¬ i < s.size) :
    Calls Tryz.prog 137 #[.pointer (some ⟨b, 0, none⟩)] w fun e w' => e = .returned (.int .u8 0) ∧ w' = w.drew := by
  have hlt : ¬ (i : Int) < (s.size : Int) := by omega
  have mixed := mixd
  go_enter Tryz.func137, Tryz.ntmps137
  go_wp2
  go_region_o
  go_wp2
  go_ret
  exact ⟨rfl, rfl⟩
/-- The zero expression as the memory has it; a constant. -/
abbrev exprA (k : Int) (v2 : Int) (v3 : Bool) (v4 : Int) (v5 : ByteArray) : Array Value := #[.int .i64 k, .string .empty, .int .i64 v2, .bool v3, .int .i64 v4, .string v5, .slice none 0 0, .slice none 0 0, .slice none 0 0]
theorem w138 {w : World} {b : Nat} {u : Value} (h2 : w.cell? ⟨b, 2, none⟩ = some u) (hf : w.frozen? ⟨b, 2, none⟩ = false) (hlt : b < w.heap.size) :
    Calls Tryz.prog 138 #[.pointer (some ⟨b, 0, none⟩)] w fun e w' => e = .returned (.agg (exprA 0 0 false 0 .empty)) ∧ w' = (w.setCell ⟨b, 2, none⟩ (.bool true)).alloc (.cells (exprA 0 0 false 0 .empty) 28) := by
  have mixed := mixd
  go_enter Tryz.func138, Tryz.ntmps138
  go_wp2
  go_returns
  exact ⟨rfl, rfl⟩
theorem w165 {w : World} {n : Int} :
    Calls Tryz.prog 165 #[.agg #[.int .i64 2, .bool false, .int .i64 n, .string .empty, .slice none 0 0, .slice none 0 0]] w fun e w' => e = .returned (.agg (exprA 1 2 false n .empty)) ∧ Below w.heap.size w w' := by
  have mixed := mixd
  go_enter Tryz.func165, Tryz.ntmps165
  go_wp2
  go_returns
  exact ⟨rfl, ((Below.refl _ _).alloc (Nat.le_refl _) _).alloc (by show w.heap.size ≤ (w.heap.push _).size; rw [Array.size_push]; omega) _⟩
theorem St.c0 {w : World} {b : Nat} {t : TypeId} {s : ByteArray} {i : Int} {bd : Bool} (hb : w.heap[b]? = some (.cells #[.string s, .int .i64 i, .bool bd] t (0, 0))) : w.cell? ⟨b, 0, none⟩ = some (.string s) ∧ w.cell? ⟨b, 1, none⟩ = some (.int .i64 i) ∧ w.cell? ⟨b, 2, none⟩ = some (.bool bd) ∧
    w.frozen? ⟨b, 1, none⟩ = false ∧ w.frozen? ⟨b, 2, none⟩ = false ∧ b < w.heap.size := by
  refine ⟨by simp [World.cell?, hb], by simp [World.cell?, hb], by simp [World.cell?, hb], by simp [World.frozen?, hb], by simp [World.frozen?, hb], ?_⟩
  rcases Nat.lt_or_ge b w.heap.size with h | h
  · exact h
  · rw [Array.getElem?_eq_none h] at hb; cases hb
theorem St.set1 {w : World} {b : Nat} {t : TypeId} {s : ByteArray} {i : Int} {bd : Bool} (hb : w.heap[b]? = some (.cells #[.string s, .int .i64 i, .bool bd] t (0, 0))) (j : Int) :
    (w.setCell ⟨b, 1, none⟩ (.int .i64 j)).heap[b]? = some (.cells #[.string s, .int .i64 j, .bool bd] t (0, 0)) := by
  show (w.heap.modify b _)[b]? = _
  rw [Array.getElem?_modify, if_pos rfl, hb]; rfl
theorem St.set2 {w : World} {b : Nat} {t : TypeId} {s : ByteArray} {i : Int} {bd : Bool} (hb : w.heap[b]? = some (.cells #[.string s, .int .i64 i, .bool bd] t (0, 0))) (c : Bool) :
    (w.setCell ⟨b, 2, none⟩ (.bool c)).heap[b]? = some (.cells #[.string s, .int .i64 i, .bool c] t (0, 0)) := by
  show (w.heap.modify b _)[b]? = _
  rw [Array.getElem?_modify, if_pos rfl, hb]; rfl
theorem grown_set {W w : World} {b off : Nat} {v : Value} (h : W.grownBy w (some b)) : W.grownBy (w.setCell ⟨b, off, none⟩ v) (some b) :=
  ⟨h.os, h.tape, h.output, by show _ ≤ (w.heap.modify b _).size; rw [Array.size_modify]; exact h.size, fun k hk hne => (Below.heap_setCell w ⟨b, off, none⟩ v k (fun e => hne (by rw [show k = b from e]))).trans (h.block k hk hne)⟩
theorem grown_drew {W w : World} {b : Nat} (h : W.grownBy w (some b)) : W.grownBy w.drew (some b) := ⟨h.os, h.tape, h.output, h.size, h.block⟩
theorem grown_alloc {W w : World} {b : Nat} {o : Obj} (h : W.grownBy w (some b)) : W.grownBy (w.alloc o) (some b) :=
  ⟨h.os, h.tape, h.output, Nat.le_trans h.size (by show _ ≤ (w.heap.push o).size; rw [Array.size_push]; omega), fun k hk hne => (Below.heap_alloc w o k (Nat.lt_of_lt_of_le hk h.size)).trans (h.block k hk hne)⟩
theorem grown_below {W w w' : World} {b : Nat} (h : W.grownBy w (some b)) (hB : Below w.heap.size w w') : W.grownBy w' (some b) :=
  ⟨hB.os.trans h.os, hB.tape.trans h.tape, hB.output.trans h.output, Nat.le_trans h.size hB.size, fun k hk hne => (hB.block k (Nat.lt_of_lt_of_le hk h.size)).trans (h.block k hk hne)⟩
theorem w137 {W w : World} {b : Nat} {t : TypeId} {s : ByteArray} {i : Nat} {bd : Bool} (hb : w.heap[b]? = some (.cells #[.string s, .int .i64 (i : Int), .bool bd] t (0, 0))) (hg : W.grownBy w (some b)) :
    Calls Tryz.prog 137 #[.pointer (some ⟨b, 0, none⟩)] w fun e w' => e = .returned (.int .u8 ((s.data.toList.getD i 0).toNat : Int)) ∧ W.grownBy w' (some b) ∧ w'.heap = w.heap := by
  by_cases hi : i < s.size
  · refine (w137_in (b := b) (s := s) (i := i) (St.c0 hb).1 (St.c0 hb).2.1 hi).mono ?_
    rintro e w' ⟨rfl, rfl⟩
    refine ⟨?_, grown_drew (grown_drew hg), rfl⟩
    have : s.data.toList.getD i 0 = s[i]'hi := by
      rw [List.getD_eq_getElem?_getD, Lib.data_getElem? s i hi]; rfl
    rw [this]
  · refine (w137_out (b := b) (s := s) (i := i) (St.c0 hb).1 (St.c0 hb).2.1 hi).mono ?_
    rintro e w' ⟨rfl, rfl⟩
    refine ⟨?_, grown_drew hg, rfl⟩
    have : s.data.toList.getD i 0 = 0 := by
      rw [List.getD_eq_getElem?_getD, List.getElem?_eq_none (by show s.data.toList.length ≤ i; rw [Array.length_toList]; exact Nat.le_of_not_lt hi)]; rfl
    rw [this]; rfl
end Go.Proofs.YtcmeincdmphaoaaGreatDoor.ex
