/- (*strings.byteStringReplacer).Replace. -/
import Derived.Test.YtcmeincdmphaoaaDoorDxRqE
import Derived.Test.YtcmeincdmphaoaaDoorDxRqS
import Derived.Laws.CopyOwn
import Derived.Deep.RegionLaw
import Derived.WalkSpells
set_option linter.unusedVariables false
set_option linter.unusedSimpArgs false
namespace Go.Proofs.YtcmeincdmphaoaaDoor.rp
open Go.RowKit
set_option linter.unusedVariables false
set_option maxRecDepth 100000
def bv (x : UInt8) : Value := .int .u8 (x.toNat : Int)
def SameH (w wx : World) : Prop := wx.heap = w.heap ∧ wx.os = w.os ∧ wx.tape = w.tape ∧ wx.output = w.output
theorem SameH.refl (w : World) : SameH w w := ⟨rfl, rfl, rfl, rfl⟩
theorem SameH.drew {w wx : World} (h : SameH w wx) : SameH w wx.drew := h
theorem SameH.cell {w wx : World} (h : SameH w wx) (a : Addr) : wx.cell? a = w.cell? a := by simp [World.cell?, h.1]
theorem SameH.below {w wx : World} (h : SameH w wx) : Below w.heap.size w wx := ⟨h.2.1, h.2.2.1, h.2.2.2, by rw [h.1]; exact Nat.le_refl _, fun k _ => by rw [h.1]⟩
set_option maxHeartbeats 4000000 in
theorem w96 {w : World} {base bs : Nat} {P : Prs} (hP : P.length = 4) (hnd : NdP P) (hbig : ∀ (j : Nat) p, P[j]? = some p → 1 < p.2.length ∧ p.2.length ≤ 100) (h : BS w base bs (fOf P) (tOf P)) {s : ByteArray} (hs : s.size ≤ 68719476736) :
    Calls Tryd.prog 111 #[.pointer (some ⟨bs, 0, none⟩), .string s] w fun e w' => e = .returned (.string ⟨(esc (fOf P) s.data.toList).toArray⟩) ∧ Below w.heap.size w w' := by
  have mixed := mixd
  have hLs : s.data.toList.length = s.size := Array.length_toList
  have hfb : ∀ c l, fOf P c = some l → 0 < l.length ∧ l.length ≤ 100 := by
    intro c l hc
    unfold fOf at hc
    obtain ⟨p, hp, rfl⟩ := Option.map_eq_some_iff.1 hc
    obtain ⟨j, hj⟩ := List.getElem?_of_mem (List.mem_of_find?_eq_some hp)
    have := hbig j p hj
    omega
  have htl : (tOf P).length = 4 := by simp [tOf, hP]
  obtain ⟨arr, v, hAr, hsz, hv, hown, hvb, hf⟩ := h
  have hbl : bs < w.heap.size := (Array.getElem?_eq_some_iff.1 hAr).1
  obtain ⟨gv, capv, cur, rfl, hgb, hgv, hcapv, _, hcurs, hcur⟩ : ∃ g cap cur, v = .slice (some ⟨g, 0, none⟩) 4 cap ∧ base ≤ g ∧ w.heap[g]? = some (.cells cur 9 (0, 0)) ∧ 4 ≤ cap ∧ cap ≤ maxLen ∧ cur.size = cap * 1 ∧ cur.toList.take (4 * 1) = (tOf P).map .string := by
    rw [htl] at hown
    rcases hown.2 with ⟨_, h0⟩ | h1
    · cases h0
    · exact h1
  have d256 := (cell_at hAr 256).trans hv
  have hcell : ∀ c < 256, w.cell? ⟨bs, c, none⟩ = arr[c]? := fun c _ => cell_at hAr c
  have hxs : ∀ (j : Nat) p, P.reverse[j]? = some p → w.cell? ⟨gv, j, none⟩ = some (.string ⟨#[p.1]⟩) := by
    intro j p hp
    have hj : j < 4 := by have := (List.getElem?_eq_some_iff.1 hp).1; simpa [hP] using this
    rw [cell_at hgv j]
    have h1 : (cur.toList.take 4)[j]? = ((tOf P).map Value.string)[j]? := by rw [← hcur]
    rw [List.getElem?_take, if_pos hj, Array.getElem?_toList] at h1
    rw [h1]
    simp only [tOf, ← List.map_reverse, List.map_map, List.getElem?_map, hp]
    rfl
  generalize hN : esc (fOf P) s.data.toList = R
  have hRl : (R.length : Int) = s.size + sE (fOf P) s.data.toList := by rw [← hN, esc_len, hLs]
  have hbd := sE_bd hfb s.data.toList
  rw [hLs] at hbd
  by_cases hcut : (32 : Int) ≤ (s.size : Int)
  · go_enter Tryd.func111, Tryd.ntmps111
    go_wp2_with fail
    go_loopg [5, 6, 32] 4 (fun g v5 v6 v32 wx => ∃ k : Nat, k + g = 4 ∧ SameH w wx ∧ v5 = .int .i64 ((s.size : Int) + sQ (P.reverse.take k) s.data.toList) ∧ v6 = .bool ((P.reverse.take k).any fun p => decide (cnt p.1 s.data.toList ≠ 0)) ∧ v32 = .int .i64 (k : Int))
    case atStart => exact ⟨0, by omega, SameH.refl w, by simp [sQ], by simp, rfl⟩
    case round =>
      obtain ⟨k, hk, hww, rfl, rfl, rfl⟩ := hrel
      have d256 := (hww.cell _).trans d256
      cases gk with
      | zero =>
        obtain rfl : k = 4 := by omega
        have e1 : P.reverse.take 4 = P.reverse := List.take_of_length_le (by simp [hP])
        have e2 : (s.size : Int) + sQ P.reverse s.data.toList = (R.length : Int) := by rw [sQ_rev, ← sE_sQ P hnd]; exact hRl.symm
        have e3 : (P.reverse.any fun p => decide (cnt p.1 s.data.toList ≠ 0)) = anyE (fOf P) s.data.toList := by rw [any_rev, anyE_cnt]
        rw [e1, e2, e3]
        have hRb : R.length ≤ 10000000000000 := by omega
        clear hRl
        cases hE : anyE (fOf P) s.data.toList with
        | false =>
          have hR := esc_none hE
          rw [hN] at hR
          have hse : (⟨R.toArray⟩ : ByteArray) = s := by rw [hR]
          clear hR hN
          go_wp2_with fail
          go_ret
          exact ⟨by first | rfl | (rw [hse]; rfl), hww.below⟩
        | true =>
          obtain ⟨ti, hi', i1, i2, i3⟩ := i5
          have hmk := run_make_row (P := Tryd.prog) 31 5 ti (.int .u8 0) Tryd.underlying31 hi' i3 i1 rfl .i64 .i64 R.length (by rw [i2]; omega) (by omega) wr
          clear hi' i1 i2 i3
          have hwz : wr.heap.size = w.heap.size := by rw [hww.1]
          obtain ⟨w2, hw2⟩ : ∃ w2, wr.alloc (.cells (madeCells #[.int .u8 0] R.length) 5) = w2 := ⟨_, rfl⟩
          have hn2 : w2.heap[w.heap.size]? = some (.cells (madeCells #[.int .u8 0] R.length) 5 (0, 0)) := by rw [← hw2, ← hwz]; exact heap_alloc_new _ _
          have hB2 : Below w.heap.size w w2 := by rw [← hw2]; exact hww.below.alloc (by rw [hwz]; exact Nat.le_refl _) _
          rw [hw2, hwz] at hmk
          clear hw2
          go_wp2_with fail
          go_loopg [13, 14] s.size (fun g v13 v14 wx => ∃ (i : Nat) (cu : List Value), i + g = s.size ∧ Below w.heap.size w wx ∧ wx.heap[w.heap.size]? = some (.cells cu.toArray 5 (0, 0)) ∧ cu.length = R.length ∧ cu.take (esc (fOf P) (s.data.toList.take i)).length = (esc (fOf P) (s.data.toList.take i)).map bv ∧ v13 = .int .i64 ((esc (fOf P) (s.data.toList.take i)).length : Int) ∧ v14 = .int .i64 (i : Int))
          case atStart => exact ⟨0, (madeCells #[Value.int .u8 0] R.length).toList, by omega, hB2, by simpa using hn2, by simp [madeCells], by simp [esc], by simp [esc], rfl⟩
          case round =>
            obtain ⟨i, cu, hi, hBx, hcu, hcl, hpre, rfl, rfl⟩ := hrel
            cases gk with
            | zero =>
              obtain rfl : i = s.size := by omega
              have e1 : s.data.toList.take s.size = s.data.toList := List.take_of_length_le (Nat.le_of_eq hLs)
              rw [e1, hN] at hpre ⊢
              have hback : ∀ ww : World, ww.heap = wr.heap → (convert 31 9 (.slice (some ⟨w.heap.size, 0, none⟩) R.length R.length)).run Tryd.prog ww = .ok (.string ⟨R.toArray⟩) ww := by
                intro ww hwh
                refine run_convert_bytes_back (P := Tryd.prog) ww 31 9 5 ⟨w.heap.size, 0, none⟩ R.length R Tryd.underlying31 Tryd.underlying5 Tryd.underlying9 ?_
                intro q hq
                have hcell2 : ww.cell? ⟨w.heap.size, q, none⟩ = cu[q]? := by
                  have := cell_at (w := wr) hcu q
                  simp only [World.cell?, hwh] at this ⊢
                  rw [this]; simp
                rw [show ((⟨w.heap.size, 0, none⟩ : Addr).add q) = ⟨w.heap.size, q, none⟩ by rw [Addr.add_lit, Nat.zero_add], hcell2]
                have h1 : (cu.take R.length)[q]? = (R.map bv)[q]? := by rw [hpre]
                rw [List.getElem?_take, if_pos hq] at h1
                rw [h1, List.getElem?_map, List.getElem?_eq_getElem hq]; rfl
              have hback := hback _ rfl
              clear hpre hN hcu hcl
              go_wp2_with fail
              go_ret
              exact ⟨rfl, hBx⟩
            | succ g =>
              have hil : i < s.size := by omega
              obtain ⟨x, hx⟩ : ∃ x : UInt8, s[i]'hil = x := ⟨_, rfl⟩
              have hx2 : s.data.toList[i]? = some x := by rw [← hx]; exact Lib.data_getElem? s i hil
              have htk : s.data.toList.take (i + 1) = s.data.toList.take i ++ [x] := by rw [List.take_add_one, hx2]; rfl
              have hRs : R = esc (fOf P) (s.data.toList.take (i + 1)) ++ esc (fOf P) (s.data.toList.drop (i + 1)) := by rw [← hN, ← esc_app, List.take_append_drop]
              have hEx : esc (fOf P) (s.data.toList.take (i + 1)) = esc (fOf P) (s.data.toList.take i) ++ (fOf P x.toNat).getD [x] := by rw [htk, esc_app]; simp [esc]
              have b1 : (i : Int) < (s.size : Int) := by omega
              have b2 : (0 : Int) ≤ (i : Int) := by omega
              have b5 : (x.toNat : Int) < 256 := by have := x.toNat_lt; omega
              have b6 : (0 : Int) ≤ (x.toNat : Int) := by omega
              have hArx := (hBx.block bs hbl).trans hAr
              have hle : (esc (fOf P) (s.data.toList.take i)).length ≤ R.length := by rw [hRs, hEx]; simp only [List.length_append]; omega
              have hfr := frz_at hcu
              rcases hf x.toNat x.toNat_lt with ⟨h1, h2⟩ | ⟨l, a, cap, q1, q2, q3, q4, ⟨csa, fra, q5, q5'⟩, q6, q7⟩
              · have r2 := (cell_at hArx x.toNat).trans h2
                have hne := fun w => run_neq_slice_nil_any (P := Tryd.prog) w 31 5 none 0 0 0 0 Tryd.underlying31
                rw [h1] at hEx
                have hlt : (esc (fOf P) (s.data.toList.take i)).length < R.length := by rw [hRs, hEx]; simp only [List.length_append, Option.getD_none, List.length_singleton]; omega
                have hgoal : ∃ cu2 : List Value, cu.set (esc (fOf P) (s.data.toList.take i)).length (bv x) = cu2 ∧ cu2.length = R.length ∧ cu2.take (esc (fOf P) (s.data.toList.take (i + 1))).length = (esc (fOf P) (s.data.toList.take (i + 1))).map bv := by
                  refine ⟨_, rfl, by rw [List.length_set]; exact hcl, ?_⟩
                  rw [hEx, List.length_append, List.map_append, ← hpre]
                  exact take_set_snoc (by omega)
                obtain ⟨cu2, hcu2, hc1, hc2⟩ := hgoal
                have hlen1 : (esc (fOf P) (s.data.toList.take (i + 1))).length = (esc (fOf P) (s.data.toList.take i)).length + 1 := by rw [hEx]; simp
                rw [hlen1] at hc2
                generalize hEl : (esc (fOf P) (s.data.toList.take i)).length = E at *
                have d3 : ∃ u, wr.cell? ⟨w.heap.size, E, none⟩ = some u := ⟨_, (cell_at hcu E).trans (by rw [List.getElem?_toArray]; exact List.getElem?_eq_getElem (by omega))⟩
                obtain ⟨u, d3⟩ := d3
                have b3 : (E : Int) < (R.length : Int) := by omega
                have b4 : (0 : Int) ≤ (E : Int) := by omega
                have hcs := set_heap (off := E) hcu (bv x)
                have hset : cu.toArray.setIfInBounds E (bv x) = cu2.toArray := by rw [← hcu2]; simp
                rw [hset] at hcs
                clear hf hx2 htk h1 h2 hcur hRs hEx hN hcu2 hset hpre hxs
                go_wp2_with fail
                go_roundg g
                case measure => omega
                case rel => exact ⟨i + 1, cu2, by omega, hBx.setCell (Nat.le_refl _) _, hcs, hc1, by rw [hlen1]; exact hc2, by rw [hlen1]; rfl, rfl⟩
              · have r2 := (cell_at hArx x.toNat).trans q4
                have hne := fun w n c => run_neq_slice_nil_any (P := Tryd.prog) w 31 5 (some ⟨a, 0, none⟩) n c 0 0 Tryd.underlying31
                rw [q1] at hEx
                have hal : a < w.heap.size := (Array.getElem?_eq_some_iff.1 q5).1
                have hax := (hBx.block a hal).trans q5
                have hlt : (esc (fOf P) (s.data.toList.take i)).length + l.length ≤ R.length := by rw [hRs, hEx]; simp only [List.length_append, Option.getD_some]; omega
                have hlen1 : (esc (fOf P) (s.data.toList.take (i + 1))).length = (esc (fOf P) (s.data.toList.take i)).length + l.length := by rw [hEx]; simp
                have hsrc : ∀ j v, (l.map bv)[j]? = some v → wr.cell? ((⟨a, 0, none⟩ : Addr).add j) = some v := by
                  intro j v hj
                  rw [List.getElem?_map, Option.map_eq_some_iff] at hj
                  obtain ⟨y, hy, rfl⟩ := hj
                  rw [show ((⟨a, 0, none⟩ : Addr).add j) = ⟨a, j, none⟩ by rw [Addr.add_lit, Nat.zero_add]]
                  simp only [World.cell?, hax]
                  exact q5' j y hy
                have hc2 : (splice cu (esc (fOf P) (s.data.toList.take i)).length (l.map bv)).take (esc (fOf P) (s.data.toList.take (i + 1))).length = (esc (fOf P) (s.data.toList.take (i + 1))).map bv := by
                  rw [hlen1, hEx, Option.getD_some, List.map_append, ← hpre]
                  exact take_splice (by simp) (by omega)
                have hc1 : (splice cu (esc (fOf P) (s.data.toList.take i)).length (l.map bv)).length = R.length := by rw [length_splice _ _ _ (by simp; omega), hcl]
                have h1c : ∀ v ∈ l.map bv, v.oneCell' = true := by
                  intro v hv
                  obtain ⟨y, _, rfl⟩ := List.mem_map.1 hv
                  rfl
                rw [hlen1] at hc2
                generalize hEl : (esc (fOf P) (s.data.toList.take i)).length = E at *
                obtain ⟨cs, hcs⟩ : ∃ cs, l.map bv = cs := ⟨_, rfl⟩
                have hcsl : cs.length = l.length := by rw [← hcs]; simp
                rw [hcs] at hsrc hc1 hc2 h1c
                clear hcs hf hx2 htk q1 q4 hcur hRs hEx hN hpre hxs q5 hax hArx
                have b3 : (E : Int) ≤ (R.length : Int) := by omega
                have b4 : (0 : Int) ≤ (E : Int) := by omega
                have b7 : (E : Int) < (R.length : Int) := by omega
                go_wp2_with fail
                have hsz1 : (Tryd.prog.info? 5).map (·.size) = some 1 := by kernel_rfl
                have hmin : cs.length = Nat.min l.length (R.length - E) := by rw [hcsl]; exact (Nat.min_eq_left (by omega)).symm
                have hfit : E + cs.length ≤ cu.length := by omega
                have hw1 : IntKind.i64.wrap ((E : Int) + (cs.length : Int)) = (E : Int) + (cs.length : Int) := by go_unwrap
                have hRE : ¬ R.length = E := by omega
                have hBd : Below w.heap.size w wr.drew := hBx.drew
                have hcud : wr.drew.heap[w.heap.size]? = some (.cells cu.toArray 5 (0, 0)) := hcu
                have hsrcd : ∀ j v, cs[j]? = some v → wr.drew.cell? ((⟨a, 0, none⟩ : Addr).add j) = some v := hsrc
                go_region_law (refine step_copy_splice rfl (.tmp 105) (.tmp 111) 31 31 rfl 5 Tryd.underlying31 hsz1 _ _ _ _ _ _ rfl rfl w.heap.size E cu 5 hcud cs hmin (fun _ => ⟨rfl, _, rfl, hsrcd⟩) hfit h1c w.heap.size w hBd (Nat.le_refl _) ?_; intro w4 hg4 hb4)
                have hcs4 := hg4.out
                clear hg4
                go_wp2_with fail
                go_roundg g
                case measure => omega
                case rel => exact ⟨i + 1, splice cu E cs, by omega, hb4, hcs4, hc1, by rw [hlen1]; exact hc2, by rw [hlen1]; rfl, rfl⟩
      | succ g =>
        have hkl : k < 4 := by omega
        obtain ⟨p, hp⟩ : ∃ p, P.reverse[k]? = some p := ⟨_, List.getElem?_eq_getElem (by simp [hP]; omega)⟩
        obtain ⟨j, hj⟩ := List.getElem?_of_mem (List.mem_reverse.1 (List.mem_of_getElem? hp))
        have r1 := (hww.cell _).trans (hxs k p hp)
        have hfp := fOf_get P hnd j p hj
        have hpb := hbig j p hj
        have htk : P.reverse.take (k + 1) = P.reverse.take k ++ [p] := by
          rw [List.take_add_one, hp]; rfl
        obtain ⟨l, a, cap, q1, q2, q3, q4, q5, q6, q7⟩ : ∃ l a cap, fOf P p.1.toNat = some l ∧ 0 < l.length ∧ l.length ≤ 100 ∧ arr[p.1.toNat]? = some (.slice (some ⟨a, 0, none⟩) l.length cap) ∧ BRow w a l ∧ a ≠ bs ∧ base ≤ a := by
          rcases hf p.1.toNat p.1.toNat_lt with ⟨h1, _⟩ | h1
          · rw [hfp] at h1; cases h1
          · exact h1
        rw [hfp] at q1; injection q1 with q1; subst q1
        have r2 := (hww.cell _).trans ((hcell p.1.toNat p.1.toNat_lt).trans q4)
        have hcl := cnt_le p.1 s.data.toList
        rw [hLs] at hcl
        have hidx2 : ∀ h, (⟨#[p.1]⟩ : ByteArray)[0]'h = p.1 := fun _ => rfl
        have hidx : (⟨#[p.1]⟩ : ByteArray).size = 1 := rfl
        obtain ⟨pc, pl⟩ := p
        have hC : Lib.countByte s.data.toList pc = cnt pc s.data.toList := rfl
        obtain ⟨C, hCC⟩ : ∃ C, cnt pc s.data.toList = C := ⟨_, rfl⟩
        obtain ⟨S, hSS⟩ : ∃ S, sQ (P.reverse.take k) s.data.toList = S := ⟨_, rfl⟩
        have b1 : (k : Int) < 4 := by omega
        have b2 : (0 : Int) ≤ (k : Int) := by omega
        have hS0 : 0 ≤ S ∧ S ≤ 68719476736 * 100 * 4 := by
          have := sQ_bd (L := s.data.toList) (by rw [hLs]; exact hs) (P.reverse.take k) (fun q hq => by
            obtain ⟨j', hj'⟩ := List.getElem?_of_mem (List.mem_reverse.1 (List.mem_of_mem_take hq))
            exact hbig j' q hj')
          rw [hSS, List.length_take, List.length_reverse, hP] at this
          omega
        have hpr : 0 ≤ (C : Int) * ((pl.length : Int) - 1) ∧ (C : Int) * ((pl.length : Int) - 1) ≤ 68719476736 * 100 := mul_bd (by omega) (by have hcl' : cnt pc s.data.toList ≤ s.size := hcl; rw [hCC] at hcl'; omega) (by have := hpb.1; simp only at this; omega) (by have := hpb.2; simp only at this; omega)
        rw [hSS]
        generalize hA : (P.reverse.take k).any (fun p => decide (cnt p.1 s.data.toList ≠ 0)) = A
        have hany : (P.reverse.take (k + 1)).any (fun p => decide (cnt p.1 s.data.toList ≠ 0)) = (A || decide (C ≠ 0)) := by
          rw [htk, List.any_append, hA]; simp [hCC]
        have hsum : sQ (P.reverse.take (k + 1)) s.data.toList = S + (C : Int) * ((pl.length : Int) - 1) := by
          rw [htk, sQ_app, hSS]; simp [sQ, hCC]
        have hcnt := Tryd.strings_Count_one s pc wr
        rw [hC, hCC] at hcnt
        clear hC
        have hln : (1 : Int) < (pl.length : Int) := by have := hpb.1; show (1 : Int) < (pl.length : Int); simp only at this; omega
        have hl3 : (pl.length : Int) ≤ 100 := by have := hpb.2; simp only at this; omega
        clear hp hj hxs hfp htk hA hCC hSS hpb hf hcur
        by_cases hC0 : C = 0
        · subst hC0
          go_wp2_with (go_at_call 41; refine hcnt.mono ?_; rintro e w' ⟨rfl, hwe⟩; have hwe := hwe.symm; subst hwe)
          go_roundg g
          case measure => omega
          case rel => exact ⟨k + 1, by omega, hww, by rw [hsum]; simp, by rw [hany]; simp, rfl⟩
        · have hc : ¬ (C : Int) = 0 := by omega
          have hw0 : IntKind.i64.wrap ((pl.length : Int) - 1) = (pl.length : Int) - 1 := by go_unwrap
          have hw1 : IntKind.i64.wrap ((C : Int) * ((pl.length : Int) - 1)) = (C : Int) * ((pl.length : Int) - 1) := by
            generalize (C : Int) * ((pl.length : Int) - 1) = M at *
            go_unwrap
          have hw2 : IntKind.i64.wrap ((s.size : Int) + S + (C : Int) * ((pl.length : Int) - 1)) = (s.size : Int) + (S + (C : Int) * ((pl.length : Int) - 1)) := by
            generalize (C : Int) * ((pl.length : Int) - 1) = M at *
            go_unwrap; omega
          have b5 : (pc.toNat : Int) < 256 := by have := pc.toNat_lt; omega
          have b6 : (0 : Int) ≤ (pc.toNat : Int) := by omega
          go_wp2_with (go_at_call 41; refine hcnt.mono ?_; rintro e w' ⟨rfl, hwe⟩; have hwe := hwe.symm; subst hwe)
          go_region_o
          go_wp2
          go_roundg g
          case measure => omega
          case rel => exact ⟨k + 1, by omega, hww.drew, by rw [hsum], by rw [hany]; simp [hC0], rfl⟩
  · go_enter Tryd.func111, Tryd.ntmps111
    go_wp2_with fail
    go_loopg [5, 6, 10] s.size (fun g v5 v6 v10 wx => ∃ i : Nat, i + g = s.size ∧ SameH w wx ∧ v5 = .int .i64 ((s.size : Int) + sE (fOf P) (s.data.toList.take i)) ∧ v6 = .bool (anyE (fOf P) (s.data.toList.take i)) ∧ v10 = .int .i64 (i : Int))
    case atStart => exact ⟨0, by omega, SameH.refl w, by simp [sE], by simp [anyE], rfl⟩
    case round =>
      obtain ⟨i, hi, hww, rfl, rfl, rfl⟩ := hrel
      have d256 := (hww.cell _).trans d256
      cases gk with
      | zero =>
        obtain rfl : i = s.size := by omega
        have e1 : s.data.toList.take s.size = s.data.toList := List.take_of_length_le (Nat.le_of_eq hLs)
        have e2 : (s.size : Int) + sE (fOf P) s.data.toList = (R.length : Int) := hRl.symm
        rw [e1, e2]
        have hRb : R.length ≤ 10000000000000 := by omega
        clear hRl
        cases hE : anyE (fOf P) s.data.toList with
        | false =>
          have hR := esc_none hE
          rw [hN] at hR
          have hse : (⟨R.toArray⟩ : ByteArray) = s := by rw [hR]
          clear hR hN
          go_wp2_with fail
          go_ret
          exact ⟨by first | rfl | (rw [hse]; rfl), hww.below⟩
        | true =>
          obtain ⟨ti, hi', i1, i2, i3⟩ := i5
          have hmk := run_make_row (P := Tryd.prog) 31 5 ti (.int .u8 0) Tryd.underlying31 hi' i3 i1 rfl .i64 .i64 R.length (by rw [i2]; omega) (by omega) wr
          clear hi' i1 i2 i3
          have hwz : wr.heap.size = w.heap.size := by rw [hww.1]
          obtain ⟨w2, hw2⟩ : ∃ w2, wr.alloc (.cells (madeCells #[.int .u8 0] R.length) 5) = w2 := ⟨_, rfl⟩
          have hn2 : w2.heap[w.heap.size]? = some (.cells (madeCells #[.int .u8 0] R.length) 5 (0, 0)) := by rw [← hw2, ← hwz]; exact heap_alloc_new _ _
          have hB2 : Below w.heap.size w w2 := by rw [← hw2]; exact hww.below.alloc (by rw [hwz]; exact Nat.le_refl _) _
          rw [hw2, hwz] at hmk
          clear hw2
          go_wp2_with fail
          go_loopg [13, 14] s.size (fun g v13 v14 wx => ∃ (i : Nat) (cu : List Value), i + g = s.size ∧ Below w.heap.size w wx ∧ wx.heap[w.heap.size]? = some (.cells cu.toArray 5 (0, 0)) ∧ cu.length = R.length ∧ cu.take (esc (fOf P) (s.data.toList.take i)).length = (esc (fOf P) (s.data.toList.take i)).map bv ∧ v13 = .int .i64 ((esc (fOf P) (s.data.toList.take i)).length : Int) ∧ v14 = .int .i64 (i : Int))
          case atStart => exact ⟨0, (madeCells #[Value.int .u8 0] R.length).toList, by omega, hB2, by simpa using hn2, by simp [madeCells], by simp [esc], by simp [esc], rfl⟩
          case round =>
            obtain ⟨i, cu, hi, hBx, hcu, hcl, hpre, rfl, rfl⟩ := hrel
            cases gk with
            | zero =>
              obtain rfl : i = s.size := by omega
              have e1 : s.data.toList.take s.size = s.data.toList := List.take_of_length_le (Nat.le_of_eq hLs)
              rw [e1, hN] at hpre ⊢
              have hback : ∀ ww : World, ww.heap = wr.heap → (convert 31 9 (.slice (some ⟨w.heap.size, 0, none⟩) R.length R.length)).run Tryd.prog ww = .ok (.string ⟨R.toArray⟩) ww := by
                intro ww hwh
                refine run_convert_bytes_back (P := Tryd.prog) ww 31 9 5 ⟨w.heap.size, 0, none⟩ R.length R Tryd.underlying31 Tryd.underlying5 Tryd.underlying9 ?_
                intro q hq
                have hcell2 : ww.cell? ⟨w.heap.size, q, none⟩ = cu[q]? := by
                  have := cell_at (w := wr) hcu q
                  simp only [World.cell?, hwh] at this ⊢
                  rw [this]; simp
                rw [show ((⟨w.heap.size, 0, none⟩ : Addr).add q) = ⟨w.heap.size, q, none⟩ by rw [Addr.add_lit, Nat.zero_add], hcell2]
                have h1 : (cu.take R.length)[q]? = (R.map bv)[q]? := by rw [hpre]
                rw [List.getElem?_take, if_pos hq] at h1
                rw [h1, List.getElem?_map, List.getElem?_eq_getElem hq]; rfl
              have hback := hback _ rfl
              clear hpre hN hcu hcl
              go_wp2_with fail
              go_ret
              exact ⟨rfl, hBx⟩
            | succ g =>
              have hil : i < s.size := by omega
              obtain ⟨x, hx⟩ : ∃ x : UInt8, s[i]'hil = x := ⟨_, rfl⟩
              have hx2 : s.data.toList[i]? = some x := by rw [← hx]; exact Lib.data_getElem? s i hil
              have htk : s.data.toList.take (i + 1) = s.data.toList.take i ++ [x] := by rw [List.take_add_one, hx2]; rfl
              have hRs : R = esc (fOf P) (s.data.toList.take (i + 1)) ++ esc (fOf P) (s.data.toList.drop (i + 1)) := by rw [← hN, ← esc_app, List.take_append_drop]
              have hEx : esc (fOf P) (s.data.toList.take (i + 1)) = esc (fOf P) (s.data.toList.take i) ++ (fOf P x.toNat).getD [x] := by rw [htk, esc_app]; simp [esc]
              have b1 : (i : Int) < (s.size : Int) := by omega
              have b2 : (0 : Int) ≤ (i : Int) := by omega
              have b5 : (x.toNat : Int) < 256 := by have := x.toNat_lt; omega
              have b6 : (0 : Int) ≤ (x.toNat : Int) := by omega
              have hArx := (hBx.block bs hbl).trans hAr
              have hle : (esc (fOf P) (s.data.toList.take i)).length ≤ R.length := by rw [hRs, hEx]; simp only [List.length_append]; omega
              have hfr := frz_at hcu
              rcases hf x.toNat x.toNat_lt with ⟨h1, h2⟩ | ⟨l, a, cap, q1, q2, q3, q4, ⟨csa, fra, q5, q5'⟩, q6, q7⟩
              · have r2 := (cell_at hArx x.toNat).trans h2
                have hne := fun w => run_neq_slice_nil_any (P := Tryd.prog) w 31 5 none 0 0 0 0 Tryd.underlying31
                rw [h1] at hEx
                have hlt : (esc (fOf P) (s.data.toList.take i)).length < R.length := by rw [hRs, hEx]; simp only [List.length_append, Option.getD_none, List.length_singleton]; omega
                have hgoal : ∃ cu2 : List Value, cu.set (esc (fOf P) (s.data.toList.take i)).length (bv x) = cu2 ∧ cu2.length = R.length ∧ cu2.take (esc (fOf P) (s.data.toList.take (i + 1))).length = (esc (fOf P) (s.data.toList.take (i + 1))).map bv := by
                  refine ⟨_, rfl, by rw [List.length_set]; exact hcl, ?_⟩
                  rw [hEx, List.length_append, List.map_append, ← hpre]
                  exact take_set_snoc (by omega)
                obtain ⟨cu2, hcu2, hc1, hc2⟩ := hgoal
                have hlen1 : (esc (fOf P) (s.data.toList.take (i + 1))).length = (esc (fOf P) (s.data.toList.take i)).length + 1 := by rw [hEx]; simp
                rw [hlen1] at hc2
                generalize hEl : (esc (fOf P) (s.data.toList.take i)).length = E at *
                have d3 : ∃ u, wr.cell? ⟨w.heap.size, E, none⟩ = some u := ⟨_, (cell_at hcu E).trans (by rw [List.getElem?_toArray]; exact List.getElem?_eq_getElem (by omega))⟩
                obtain ⟨u, d3⟩ := d3
                have b3 : (E : Int) < (R.length : Int) := by omega
                have b4 : (0 : Int) ≤ (E : Int) := by omega
                have hcs := set_heap (off := E) hcu (bv x)
                have hset : cu.toArray.setIfInBounds E (bv x) = cu2.toArray := by rw [← hcu2]; simp
                rw [hset] at hcs
                clear hf hx2 htk h1 h2 hcur hRs hEx hN hcu2 hset hpre hxs
                go_wp2_with fail
                go_roundg g
                case measure => omega
                case rel => exact ⟨i + 1, cu2, by omega, hBx.setCell (Nat.le_refl _) _, hcs, hc1, by rw [hlen1]; exact hc2, by rw [hlen1]; rfl, rfl⟩
              · have r2 := (cell_at hArx x.toNat).trans q4
                have hne := fun w n c => run_neq_slice_nil_any (P := Tryd.prog) w 31 5 (some ⟨a, 0, none⟩) n c 0 0 Tryd.underlying31
                rw [q1] at hEx
                have hal : a < w.heap.size := (Array.getElem?_eq_some_iff.1 q5).1
                have hax := (hBx.block a hal).trans q5
                have hlt : (esc (fOf P) (s.data.toList.take i)).length + l.length ≤ R.length := by rw [hRs, hEx]; simp only [List.length_append, Option.getD_some]; omega
                have hlen1 : (esc (fOf P) (s.data.toList.take (i + 1))).length = (esc (fOf P) (s.data.toList.take i)).length + l.length := by rw [hEx]; simp
                have hsrc : ∀ j v, (l.map bv)[j]? = some v → wr.cell? ((⟨a, 0, none⟩ : Addr).add j) = some v := by
                  intro j v hj
                  rw [List.getElem?_map, Option.map_eq_some_iff] at hj
                  obtain ⟨y, hy, rfl⟩ := hj
                  rw [show ((⟨a, 0, none⟩ : Addr).add j) = ⟨a, j, none⟩ by rw [Addr.add_lit, Nat.zero_add]]
                  simp only [World.cell?, hax]
                  exact q5' j y hy
                have hc2 : (splice cu (esc (fOf P) (s.data.toList.take i)).length (l.map bv)).take (esc (fOf P) (s.data.toList.take (i + 1))).length = (esc (fOf P) (s.data.toList.take (i + 1))).map bv := by
                  rw [hlen1, hEx, Option.getD_some, List.map_append, ← hpre]
                  exact take_splice (by simp) (by omega)
                have hc1 : (splice cu (esc (fOf P) (s.data.toList.take i)).length (l.map bv)).length = R.length := by rw [length_splice _ _ _ (by simp; omega), hcl]
                have h1c : ∀ v ∈ l.map bv, v.oneCell' = true := by
                  intro v hv
                  obtain ⟨y, _, rfl⟩ := List.mem_map.1 hv
                  rfl
                rw [hlen1] at hc2
                generalize hEl : (esc (fOf P) (s.data.toList.take i)).length = E at *
                obtain ⟨cs, hcs⟩ : ∃ cs, l.map bv = cs := ⟨_, rfl⟩
                have hcsl : cs.length = l.length := by rw [← hcs]; simp
                rw [hcs] at hsrc hc1 hc2 h1c
                clear hcs hf hx2 htk q1 q4 hcur hRs hEx hN hpre hxs q5 hax hArx
                have b3 : (E : Int) ≤ (R.length : Int) := by omega
                have b4 : (0 : Int) ≤ (E : Int) := by omega
                have b7 : (E : Int) < (R.length : Int) := by omega
                go_wp2_with fail
                have hsz1 : (Tryd.prog.info? 5).map (·.size) = some 1 := by kernel_rfl
                have hmin : cs.length = Nat.min l.length (R.length - E) := by rw [hcsl]; exact (Nat.min_eq_left (by omega)).symm
                have hfit : E + cs.length ≤ cu.length := by omega
                have hw1 : IntKind.i64.wrap ((E : Int) + (cs.length : Int)) = (E : Int) + (cs.length : Int) := by go_unwrap
                have hRE : ¬ R.length = E := by omega
                have hBd : Below w.heap.size w wr.drew := hBx.drew
                have hcud : wr.drew.heap[w.heap.size]? = some (.cells cu.toArray 5 (0, 0)) := hcu
                have hsrcd : ∀ j v, cs[j]? = some v → wr.drew.cell? ((⟨a, 0, none⟩ : Addr).add j) = some v := hsrc
                go_region_law (refine step_copy_splice rfl (.tmp 105) (.tmp 111) 31 31 rfl 5 Tryd.underlying31 hsz1 _ _ _ _ _ _ rfl rfl w.heap.size E cu 5 hcud cs hmin (fun _ => ⟨rfl, _, rfl, hsrcd⟩) hfit h1c w.heap.size w hBd (Nat.le_refl _) ?_; intro w4 hg4 hb4)
                have hcs4 := hg4.out
                clear hg4
                go_wp2_with fail
                go_roundg g
                case measure => omega
                case rel => exact ⟨i + 1, splice cu E cs, by omega, hb4, hcs4, hc1, by rw [hlen1]; exact hc2, by rw [hlen1]; rfl, rfl⟩
      | succ g =>
        have hil : i < s.size := by omega
        obtain ⟨x, hx⟩ : ∃ x : UInt8, s[i]'hil = x := ⟨_, rfl⟩
        have hx2 : s.data.toList[i]? = some x := by rw [← hx]; exact Lib.data_getElem? s i hil
        have htk : s.data.toList.take (i + 1) = s.data.toList.take i ++ [x] := by rw [List.take_add_one, hx2]; rfl
        have b1 : (i : Int) < (s.size : Int) := by omega
        have b2 : (0 : Int) ≤ (i : Int) := by omega
        have b5 : (x.toNat : Int) < 256 := by have := x.toNat_lt; omega
        have b6 : (0 : Int) ≤ (x.toNat : Int) := by omega
        have hS := sE_bd hfb (s.data.toList.take i)
        rw [List.length_take, hLs] at hS
        have hsum : sE (fOf P) (s.data.toList.take (i + 1)) = sE (fOf P) (s.data.toList.take i) + (match fOf P x.toNat with | some l => (l.length : Int) - 1 | none => 0) := by rw [htk, sE_app]; show _ + (_ + 0) = _; rw [Int.add_zero]; rfl
        have hany : anyE (fOf P) (s.data.toList.take (i + 1)) = (anyE (fOf P) (s.data.toList.take i) || (fOf P x.toNat).isSome) := by rw [htk]; simp [anyE]
        generalize hA : anyE (fOf P) (s.data.toList.take i) = A at hany ⊢
        generalize hSS : sE (fOf P) (s.data.toList.take i) = S at hsum hS ⊢
        rcases hf x.toNat x.toNat_lt with ⟨h1, h2⟩ | ⟨l, a, cap, q1, q2, q3, q4, q5, q6, q7⟩
        · have r2 := (hww.cell _).trans ((hcell x.toNat x.toNat_lt).trans h2)
          have hne := fun w => run_neq_slice_nil_any (P := Tryd.prog) w 31 5 none 0 0 0 0 Tryd.underlying31
          rw [h1] at hsum hany
          clear hf hx2 htk hA hSS h1 h2 hcur
          go_wp2_with fail
          go_roundg g
          case measure => omega
          case rel => exact ⟨i + 1, by omega, hww, by rw [hsum]; simp, by rw [hany]; simp, rfl⟩
        · have r2 := (hww.cell _).trans ((hcell x.toNat x.toNat_lt).trans q4)
          have hne := fun w n c => run_neq_slice_nil_any (P := Tryd.prog) w 31 5 (some ⟨a, 0, none⟩) n c 0 0 Tryd.underlying31
          have hl1 : (0 : Int) < (l.length : Int) := by omega
          have hl2 : (l.length : Int) ≤ 100 := by omega
          rw [q1] at hsum hany
          clear hf hx2 htk hA hSS q1 q4 hcur
          go_wp2_with fail
          go_roundg g
          case measure => omega
          case rel => exact ⟨i + 1, by omega, hww, by rw [hsum]; congr 1; omega, by rw [hany]; simp, rfl⟩
end Go.Proofs.YtcmeincdmphaoaaDoor.rp
