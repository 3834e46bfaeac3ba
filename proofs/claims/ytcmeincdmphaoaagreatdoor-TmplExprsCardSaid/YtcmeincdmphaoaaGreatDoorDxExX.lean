/- The walk of the program's (*parser).number: its two loops. -/
import Derived.Test.YtcmeincdmphaoaaGreatDoorDxExW
set_option linter.unusedVariables false
set_option linter.unusedSimpArgs false
namespace Go.Proofs.YtcmeincdmphaoaaGreatDoor.ex
open Go.Proofs.YtcmeincdmphaoaaGreatDoor.DS Go.RowKit Go.Lib
set_option linter.unusedVariables false
namespace rT
theorem drop_cons {s : List UInt8} {i : Nat} (d : UInt8) (h : i < s.length) : s.drop i = s.getD i d :: s.drop (i + 1) := by
  rw [List.drop_eq_getElem_cons h, List.getD_eq_getElem?_getD, List.getElem?_eq_getElem h]; rfl
abbrev B := List UInt8
def runTo (p : UInt8 → Bool) (s : B) (i : Nat) : Nat := i + ((s.drop i).takeWhile p).length
theorem runTo_end (p : UInt8 → Bool) {s : B} {i : Nat} (h : s.length ≤ i) : runTo p s i = i := by unfold runTo; rw [List.drop_eq_nil_of_le h]; rfl
theorem runTo_yes {p : UInt8 → Bool} {s : B} {i : Nat} (h : i < s.length) (hp : p (s.getD i 0) = true) : runTo p s i = runTo p s (i + 1) := by
  unfold runTo; rw [drop_cons 0 h, List.takeWhile_cons, hp]; simp; omega
theorem runTo_no {p : UInt8 → Bool} {s : B} {i : Nat} (h : i < s.length) (hp : p (s.getD i 0) = false) : runTo p s i = i := by
  unfold runTo; rw [drop_cons 0 h, List.takeWhile_cons, hp]; rfl
theorem runTo_ge (p : UInt8 → Bool) (s : B) (i : Nat) : i ≤ runTo p s i := Nat.le_add_right _ _
theorem runTo_le (p : UInt8 → Bool) {s : B} {i : Nat} (h : i ≤ s.length) : runTo p s i ≤ s.length := by
  unfold runTo
  have h1 := (List.takeWhile_sublist p (l := s.drop i)).length_le
  rw [List.length_drop] at h1; omega
/-- Where it ends, there is no such byte. -/
theorem runTo_stop (p : UInt8 → Bool) {s : B} : ∀ n i : Nat, i + n = s.length → runTo p s i < s.length → p (s.getD (runTo p s i) 0) = false := by
  intro n
  induction n with
  | zero => intro i hi h; rw [runTo_end p (by omega)] at h; omega
  | succ n ih =>
    intro i hi h
    cases hp : p (s.getD i 0) with
    | true => rw [runTo_yes (by omega) hp] at h ⊢; exact ih (i + 1) (by omega) h
    | false => rw [runTo_no (by omega) hp]; exact hp
theorem runTo_idem (p : UInt8 → Bool) {s : B} {i : Nat} (h : i ≤ s.length) : runTo p s (runTo p s i) = runTo p s i := by
  rcases Nat.lt_or_ge (runTo p s i) s.length with h1 | h1
  · exact runTo_no h1 (runTo_stop p (s.length - i) i (by omega) h1)
  · exact runTo_end p h1
end rT
namespace rT
theorem loop_eq (bs : ByteArray) : ∀ (n i : Nat) (r : List UInt8), i + n = bs.size → ByteArray.toList.loop bs i r = r.reverse ++ bs.data.toList.drop i := by
  intro n
  induction n with
  | zero =>
    intro i r h
    have h' : i = bs.size := by omega
    rw [ByteArray.toList.loop.eq_def, if_neg (by omega), List.drop_eq_nil_of_le (by rw [Array.length_toList]; show bs.size ≤ i; omega), List.append_nil]
  | succ n ih =>
    intro i r h
    have hi : i < bs.size := by omega
    have hi' : i < bs.data.toList.length := by rw [Array.length_toList]; exact hi
    rw [ByteArray.toList.loop.eq_def, if_pos hi, ih (i + 1) _ (by omega), List.drop_eq_getElem_cons hi']
    have : bs.get! i = bs.data.toList[i]'hi' := by
      show bs.data[i]! = _
      rw [getElem!_pos bs.data i hi]; simp
    rw [this]; simp
theorem toList_eq (bs : ByteArray) : bs.toList = bs.data.toList := by
  unfold ByteArray.toList
  rw [loop_eq bs bs.size 0 [] (by omega)]; simp
end rT
theorem under28 : ∃ fs, Tryz.prog.underlying 28 = some (.struct fs) := by
  have h : (match Tryz.prog.underlying 28 with | some (.struct _) => true | _ => false) = true := by kernel_rfl
  split at h
  · rename_i fs e; exact ⟨fs, e⟩
  · cases h
theorem grown_row {W w : World} {b : Nat} {cs : Array Value} (h : W.grownBy w (some b)) : W.grownBy (w.setRow W.heap.size cs) (some b) :=
  ⟨h.os, h.tape, h.output, by rw [setRow_size]; exact h.size, fun k hk hne => (setRow_other w _ k cs (by omega)).trans (h.block k hk hne)⟩
theorem bad_nil {n : Bool} {l : List UInt8} (h : l.length = 0) : badNum n l = true := by
  rw [List.eq_nil_of_length_eq_zero h]; simp [badNum]
theorem bad_long {n : Bool} {l : List UInt8} (h : 15 < l.length) : badNum n l = true := by simp [badNum, h]
theorem bad_zero {n : Bool} {l : List UInt8} (h : l.headD 0 = 48) (h1 : 1 < l.length ∨ n = true) : badNum n l = true := by
  unfold badNum; rw [decide_eq_true h]; rcases h1 with h1 | h1
  · rw [decide_eq_true h1]; simp
  · rw [h1]; simp
theorem bad_no {n : Bool} {l : List UInt8} (h0 : l.length ≠ 0) (h1 : ¬ 15 < l.length) (h : ¬ l.headD 0 = 48 ∨ (¬ 1 < l.length ∧ n = false)) : badNum n l = false := by
  unfold badNum; rw [decide_eq_false (fun e => h0 (by rw [e]; rfl)), decide_eq_false h1]
  rcases h with h | ⟨h, h2⟩
  · rw [decide_eq_false h]; simp
  · rw [decide_eq_false h, h2]; simp
theorem ret28 {R : Ending → World → Prop} {a : Act} {w : World} {g : Nat} {cs : Array Value} (h2 : a.tmps.getD 2 undef = .pointer (some ⟨g, 0, none⟩)) (hsz : cs.size = 9) (hg : w.heap[g]? = some (.cells cs 28 (0, 0))) (hd : a.defers = []) (hR : R (.returned (.agg cs)) w) : bodyPost Tryz.prog Tryz.f157 R .ret a w := by
  obtain ⟨fs, h⟩ := under28
  exact bodyPost_ret (results_cell_row (fn := Tryz.f157) rfl _ w g 28 cs (0, 0) _ h2 hg h rfl (by rw [hsz]; kernel_rfl)) hd hR
theorem numVal_snoc (l : List UInt8) (x : UInt8) : numVal (l ++ [x]) = 10 * numVal l + ((x.toNat : Int) - 48) := by simp [numVal]
theorem numVal_take {l : List UInt8} {j : Nat} (h : j < l.length) : numVal (l.take (j + 1)) = 10 * numVal (l.take j) + (((l[j]'h).toNat : Int) - 48) := by
  rw [List.take_succ_eq_append_getElem h, numVal_snoc]
theorem numVal_bd {l : List UInt8} (h : ∀ (j : Nat) (x : UInt8), l[j]? = some x → isDig x = true) : ∀ j, j ≤ l.length → 0 ≤ numVal (l.take j) ∧ numVal (l.take j) < 10 ^ j := by
  intro j
  induction j with
  | zero => intro _; simp [numVal]
  | succ j ih =>
    intro hj
    obtain ⟨h0, h1⟩ := ih (by omega)
    have hx := h j _ (List.getElem?_eq_getElem (show j < l.length by omega))
    simp [isDig] at hx
    rw [numVal_take (by omega), Int.pow_succ]
    generalize numVal (l.take j) = m at *
    generalize (10 : Int) ^ j = p at *
    omega
theorem numVal_15 {l : List UInt8} (h : ∀ (j : Nat) (x : UInt8), l[j]? = some x → isDig x = true) (hl : l.length ≤ 15) (j : Nat) (hj : j ≤ l.length) : 0 ≤ numVal (l.take j) ∧ numVal (l.take j) < 1000000000000000 := by
  obtain ⟨h0, h1⟩ := numVal_bd h j hj
  refine ⟨h0, Int.lt_of_lt_of_le h1 ?_⟩
  have : ((10 ^ j : Nat) : Int) ≤ ((10 ^ 15 : Nat) : Int) := Int.ofNat_le.2 (Nat.pow_le_pow_right (by omega) (by omega))
  rw [Int.natCast_pow] at this
  exact this
set_option maxHeartbeats 8000000 in
set_option maxRecDepth 1000000 in
theorem w157n {W : World} {b : Nat} {t : TypeId} {s : ByteArray} {i : Nat} {bd : Bool} (hb : W.heap[b]? = some (.cells #[.string s, .int .i64 (i : Int), .bool bd] t (0, 0))) (hi : i ≤ s.size) (hs : s.size ≤ 1073741824) (hneg : (s.data.toList.getD i 0).toNat = 45)
    (hdig : ∀ (k : Nat) (j : Nat) (x : UInt8), rT.runTo isDig s.data.toList (i + 1) = k → (s.extract (i + 1) k).data.toList[j]? = some x → isDig x = true) :
    Calls Tryz.prog 157 #[.pointer (some ⟨b, 0, none⟩)] W fun e w' => ∃ (k : Nat) (c : Bool) (n : Int), k = rT.runTo isDig s.data.toList (i + 1) ∧ W.grownBy w' (some b) ∧
      ((badNum true (s.extract (i + 1) k).data.toList = true ∧ e = .returned (.agg (exprA 0 0 false 0 .empty)) ∧ w'.heap[b]? = some (.cells #[.string s, .int .i64 (k : Int), .bool true] t (0, 0))) ∨
       (badNum true (s.extract (i + 1) k).data.toList = false ∧ e = .returned (.agg (exprA 1 2 false (- numVal (s.extract (i + 1) k).data.toList) .empty)) ∧ w'.heap[b]? = some (.cells #[.string s, .int .i64 (k : Int), .bool bd] t (0, 0)))) := by
  have mixed := mixd
  obtain ⟨c0, c1, c2, f1, f2, hlt⟩ := St.c0 hb
  have hn : ((s.data.toList.getD i 0).toNat : Int) = 45 := by omega
  have hW1 : IntKind.i64.wrap ((i : Int) + 1) = (i : Int) + 1 := wrap_id (by omega) (by omega)
  have hb1 : ∀ o, (W.alloc o).heap[b]? = some (.cells #[.string s, .int .i64 (i : Int), .bool bd] t (0, 0)) := fun o => (Below.heap_alloc W o b hlt).trans hb
  have hg0 : ∀ o, W.grownBy (W.alloc o) (some b) := fun o => grown_alloc (o := o) (W := W) (w := W) (b := b) ⟨rfl, rfl, rfl, Nat.le_refl _, fun _ _ _ => rfl⟩
  have hi1 : i < s.size := by
    rcases Nat.lt_or_ge i s.size with h | h
    · exact h
    · rw [List.getD_eq_getElem?_getD, List.getElem?_eq_none (by show s.data.toList.length ≤ i; rw [Array.length_toList]; exact h)] at hneg
      cases hneg
  go_enter Tryz.func157, Tryz.ntmps157
  go_wp2_with fail
  refine (w137 (hb1 _) (hg0 _)).mono ?_
  rintro e w1 ⟨rfl, hg2, hh⟩
  have hb2 : w1.heap[b]? = some (.cells #[.string s, .int .i64 (i : Int), .bool bd] t (0, 0)) := by rw [hh]; exact hb1 _
  have hr2 : w1.heap[W.heap.size]? = some (.cells (exprA 0 0 false 0 .empty) 28 (0, 0)) := by rw [hh]; show (W.heap.push _)[W.heap.size]? = _; rw [Array.getElem?_push, if_pos rfl]; rfl
  clear hh
  obtain ⟨d0, d1, d2, g1, g2, hlt2⟩ := St.c0 hb2
  generalize hx0 : s.data.toList.getD i 0 = x0 at *
  
  go_wp2
  have hb3 := St.set1 hb2 ((i : Int) + 1)
  have hg3 := grown_set (off := 1) (v := .int .i64 ((i : Int) + 1)) hg2
  have hr3 := (Below.heap_setCell w1 ⟨b, 1, none⟩ (.int .i64 ((i : Int) + 1)) W.heap.size (by show W.heap.size ≠ b; omega)).trans hr2
  go_loopg [] (s.size - (i + 1)) (fun g wx => ∃ k : Nat, k + g = s.size ∧ (i + 1) ≤ k ∧ W.grownBy wx (some b) ∧ wx.heap[b]? = some (.cells #[.string s, .int .i64 (k : Int), .bool bd] t (0, 0)) ∧ rT.runTo isDig s.data.toList k = rT.runTo isDig s.data.toList (i + 1) ∧ wx.heap[W.heap.size]? = some (.cells (exprA 0 0 false 0 .empty) 28 (0, 0)))
  case atStart => exact ⟨(i + 1), by omega, by omega, hg3, hb3, rfl, hr3⟩
  case round =>
    obtain ⟨k, hk, hik, hgx, hbx, hrun, hrx⟩ := hrel
    have hbne : W.heap.size ≠ b := by omega
    go_wp2_with fail
    refine (w137 hbx hgx).mono ?_
    rintro e w2 ⟨rfl, hg4, hh⟩
    have hb4 : w2.heap[b]? = some (.cells #[.string s, .int .i64 (k : Int), .bool bd] t (0, 0)) := by rw [hh]; exact hbx
    have hr4 : w2.heap[W.heap.size]? = some (.cells (exprA 0 0 false 0 .empty) 28 (0, 0)) := by rw [hh]; exact hrx
    clear hh
    obtain ⟨x, hx⟩ : ∃ x : UInt8, s.data.toList.getD k 0 = x := ⟨_, rfl⟩
    rw [hx]
    go_wp2_with fail
    refine (w110 x _).mono ?_
    rintro e w3 ⟨rfl, rfl⟩
    cases hd : isDig x with
    | true =>
      have hkl : k < s.size := by
        rcases Nat.lt_or_ge k s.size with h | h
        · exact h
        · rw [List.getD_eq_getElem?_getD, List.getElem?_eq_none (by show s.data.toList.length ≤ k; rw [Array.length_toList]; exact h)] at hx
          rw [← hx] at hd; cases hd
      have hW2 : IntKind.i64.wrap ((k : Int) + 1) = (k : Int) + 1 := wrap_id (by omega) (by omega)
      obtain ⟨e0, e1, e2, j1, j2, hlt4⟩ := St.c0 hb4
      go_wp2
      obtain ⟨g, hg⟩ : ∃ g, gk = g + 1 := ⟨gk - 1, by omega⟩
      subst hg
      go_roundg g
      case measure => omega
      case rel => exact ⟨k + 1, by omega, by omega, grown_set hg4, St.set1 hb4 _, by rw [← hrun]; exact (rT.runTo_yes (by rw [Array.length_toList]; exact hkl) (by rw [hx]; exact hd)).symm, (Below.heap_setCell _ _ _ _ hbne).trans hr4⟩
    | false =>
      have hkr : rT.runTo isDig s.data.toList (i + 1) = k := by
        rw [← hrun]
        rcases Nat.lt_or_ge k s.size with h | h
        · exact rT.runTo_no (by rw [Array.length_toList]; exact h) (by rw [hx]; exact hd)
        · exact rT.runTo_end isDig (by rw [Array.length_toList]; exact h)
      have hdg := fun j x => hdig k j x hkr
      obtain ⟨e0, e1, e2, j1, j2, hlt4⟩ := St.c0 hb4
      have q1 : (0 : Int) ≤ ((i : Int) + 1) := by omega
      have q2 : ((i : Int) + 1) ≤ (k : Int) := by omega
      have hks : (k : Int) ≤ (s.size : Int) := by omega
      have hk0 : (0 : Int) ≤ (k : Int) := by omega
      have hft : (i : Int) < ((i : Int) + 1) := by omega
      go_wp2
      go_region_o
      have hQ : ∃ dg : ByteArray, s.extract (i + 1) k = dg := ⟨_, rfl⟩
      obtain ⟨dg, hdge⟩ := hQ
      rw [hdge] at hdg ⊢
      clear hr2 g1 g2 hb3 hg3 hr3 hb1 hg0 hg2 hb2 hneg hdig hx0 d0 d1 d2 hlt2 hn
      have hlr : W.heap.size < w3.heap.size := by
        rcases Nat.lt_or_ge W.heap.size w3.heap.size with h | h
        · exact h
        · rw [Array.getElem?_eq_none h] at hr4; cases hr4
      have hdl : dg.data.toList.length = dg.size := Array.length_toList
      by_cases hemp : dg.size = 0
      · have t1 : dg.toList = [] := by rw [rT.toList_eq]; exact List.eq_nil_of_length_eq_zero (by rw [Array.length_toList]; exact hemp)
        go_wp2_with fail
        refine (w138 (w := w3.drew) (b := b) e2 j2 hlt4).mono ?_
        rintro e w5 ⟨rfl, hw5⟩
        have hb6 : w5.heap[b]? = some (.cells #[.string s, .int .i64 (k : Int), .bool true] t (0, 0)) := by rw [hw5]; exact (Below.heap_alloc _ _ b (by show b < (w3.heap.modify b _).size; rw [Array.size_modify]; exact hlt4)).trans (St.set2 (w := w3.drew) hb4 true)
        have hr6 : w5.heap[W.heap.size]? = some (.cells (exprA 0 0 false 0 .empty) 28 (0, 0)) := by
          rw [hw5]; exact (Below.heap_alloc _ _ _ (by show _ < (w3.heap.modify b _).size; rw [Array.size_modify]; exact hlr)).trans ((Below.heap_setCell w3.drew ⟨b, 2, none⟩ (.bool true) W.heap.size hbne).trans hr4)
        have hg6 : W.grownBy w5 (some b) := by rw [hw5]; exact grown_alloc (grown_set (grown_drew hg4))
        clear hw5
        have hr7 := setRow_heap w5 W.heap.size _ (exprA 0 0 false 0 .empty) 28 (0, 0) hr6
        first
          | (rename_i Kx hKx; show Kx _ _; apply hKx)
          | (rename_i Kx hKx _h1; show Kx _ _; apply hKx)
          | (rename_i Kx hKx _h1 _h2; show Kx _ _; apply hKx)
        refine wpList_plain rfl fun _ hK => wp_store_row 28 _ _ rfl W.heap.size (exprA 0 0 false 0 .empty) rfl rfl 28 _ hr6 (by kernel_rfl) rfl (by simp [exprA, Value.oneCell']) (hK _ _ ?_)
        refine wpList_nil ?_
        go_wp2
        refine ret28 (g := W.heap.size) rfl rfl hr7 rfl ?_
        refine ⟨k, true, 0, hkr.symm, grown_row hg6, .inl ⟨?_, rfl, ?_⟩⟩
        · rw [hdge]; exact bad_nil (by rw [hdl]; exact hemp)
        · exact (setRow_other _ _ _ _ (by omega)).trans hb6
      · have t2 : ¬ dg.toList = [] := by rw [rT.toList_eq]; intro e; rw [e] at hdl; exact hemp hdl.symm
        have t3 : dg.toList.isEmpty = false := by cases h : dg.toList with
          | nil => exact absurd h t2
          | cons _ _ => rfl
        have h0n : 0 < dg.size := by omega
        have h0s : (0 : Int) < (dg.size : Int) := by omega
        by_cases h15 : 15 < dg.size
        · have h15' : (15 : Int) < (dg.size : Int) := by omega
          go_wp2_with fail
          refine (w138 (w := w3.drew) (b := b) e2 j2 hlt4).mono ?_
          rintro e w5 ⟨rfl, hw5⟩
          have hb6 : w5.heap[b]? = some (.cells #[.string s, .int .i64 (k : Int), .bool true] t (0, 0)) := by rw [hw5]; exact (Below.heap_alloc _ _ b (by show b < (w3.heap.modify b _).size; rw [Array.size_modify]; exact hlt4)).trans (St.set2 (w := w3.drew) hb4 true)
          have hr6 : w5.heap[W.heap.size]? = some (.cells (exprA 0 0 false 0 .empty) 28 (0, 0)) := by
            rw [hw5]; exact (Below.heap_alloc _ _ _ (by show _ < (w3.heap.modify b _).size; rw [Array.size_modify]; exact hlr)).trans ((Below.heap_setCell w3.drew ⟨b, 2, none⟩ (.bool true) W.heap.size hbne).trans hr4)
          have hg6 : W.grownBy w5 (some b) := by rw [hw5]; exact grown_alloc (grown_set (grown_drew hg4))
          clear hw5
          have hr7 := setRow_heap w5 W.heap.size _ (exprA 0 0 false 0 .empty) 28 (0, 0) hr6
          first
            | (rename_i Kx hKx; show Kx _ _; apply hKx)
            | (rename_i Kx hKx _h1; show Kx _ _; apply hKx)
            | (rename_i Kx hKx _h1 _h2; show Kx _ _; apply hKx)
          refine wpList_plain rfl fun _ hK => wp_store_row 28 _ _ rfl W.heap.size (exprA 0 0 false 0 .empty) rfl rfl 28 _ hr6 (by kernel_rfl) rfl (by simp [exprA, Value.oneCell']) (hK _ _ ?_)
          refine wpList_nil ?_
          go_wp2
          refine ret28 (g := W.heap.size) rfl rfl hr7 rfl ?_
          refine ⟨k, true, 0, hkr.symm, grown_row hg6, .inl ⟨?_, rfl, ?_⟩⟩
          · rw [hdge]; exact bad_long (by rw [hdl]; exact h15)
          · exact (setRow_other _ _ _ _ (by omega)).trans hb6
        · have h15' : ¬ (15 : Int) < (dg.size : Int) := by omega
          obtain ⟨y, hy⟩ : ∃ y : UInt8, dg[0]'h0n = y := ⟨_, rfl⟩
          have hyd : dg.data.toList.headD 0 = y := by
            rw [List.headD_eq_head?_getD, List.head?_eq_getElem?, Lib.data_getElem? dg 0 h0n]; exact hy
          have hall : ∀ (j : Nat) (x : UInt8), dg.data.toList[j]? = some x → isDig x = true := hdg
          by_cases hz : y = 48
          · have hz' : ((y.toNat : Nat) : Int) = 48 := by rw [hz]; rfl
            by_cases h1 : 1 < dg.size
            · have h1' : (1 : Int) < (dg.size : Int) := by omega
              go_wp2_with fail
              refine (w138 (w := w3.drew) (b := b) e2 j2 hlt4).mono ?_
              rintro e w5 ⟨rfl, hw5⟩
              have hb6 : w5.heap[b]? = some (.cells #[.string s, .int .i64 (k : Int), .bool true] t (0, 0)) := by rw [hw5]; exact (Below.heap_alloc _ _ b (by show b < (w3.heap.modify b _).size; rw [Array.size_modify]; exact hlt4)).trans (St.set2 (w := w3.drew) hb4 true)
              have hr6 : w5.heap[W.heap.size]? = some (.cells (exprA 0 0 false 0 .empty) 28 (0, 0)) := by
                rw [hw5]; exact (Below.heap_alloc _ _ _ (by show _ < (w3.heap.modify b _).size; rw [Array.size_modify]; exact hlr)).trans ((Below.heap_setCell w3.drew ⟨b, 2, none⟩ (.bool true) W.heap.size hbne).trans hr4)
              have hg6 : W.grownBy w5 (some b) := by rw [hw5]; exact grown_alloc (grown_set (grown_drew hg4))
              clear hw5
              have hr7 := setRow_heap w5 W.heap.size _ (exprA 0 0 false 0 .empty) 28 (0, 0) hr6
              first
                | (rename_i Kx hKx; show Kx _ _; apply hKx)
                | (rename_i Kx hKx _h1; show Kx _ _; apply hKx)
                | (rename_i Kx hKx _h1 _h2; show Kx _ _; apply hKx)
              refine wpList_plain rfl fun _ hK => wp_store_row 28 _ _ rfl W.heap.size (exprA 0 0 false 0 .empty) rfl rfl 28 _ hr6 (by kernel_rfl) rfl (by simp [exprA, Value.oneCell']) (hK _ _ ?_)
              refine wpList_nil ?_
              go_wp2
              refine ret28 (g := W.heap.size) rfl rfl hr7 rfl ?_
              refine ⟨k, true, 0, hkr.symm, grown_row hg6, .inl ⟨?_, rfl, ?_⟩⟩
              · rw [hdge]; exact bad_zero (by rw [hyd, hz]) (.inl (by rw [hdl]; exact h1))
              · exact (setRow_other _ _ _ _ (by omega)).trans hb6
            · have h1' : ¬ (1 : Int) < (dg.size : Int) := by omega
              go_wp2_with fail
              refine (w138 (w := w3.drew) (b := b) e2 j2 hlt4).mono ?_
              rintro e w5 ⟨rfl, hw5⟩
              have hb6 : w5.heap[b]? = some (.cells #[.string s, .int .i64 (k : Int), .bool true] t (0, 0)) := by rw [hw5]; exact (Below.heap_alloc _ _ b (by show b < (w3.heap.modify b _).size; rw [Array.size_modify]; exact hlt4)).trans (St.set2 (w := w3.drew) hb4 true)
              have hr6 : w5.heap[W.heap.size]? = some (.cells (exprA 0 0 false 0 .empty) 28 (0, 0)) := by
                rw [hw5]; exact (Below.heap_alloc _ _ _ (by show _ < (w3.heap.modify b _).size; rw [Array.size_modify]; exact hlr)).trans ((Below.heap_setCell w3.drew ⟨b, 2, none⟩ (.bool true) W.heap.size hbne).trans hr4)
              have hg6 : W.grownBy w5 (some b) := by rw [hw5]; exact grown_alloc (grown_set (grown_drew hg4))
              clear hw5
              have hr7 := setRow_heap w5 W.heap.size _ (exprA 0 0 false 0 .empty) 28 (0, 0) hr6
              first
                | (rename_i Kx hKx; show Kx _ _; apply hKx)
                | (rename_i Kx hKx _h1; show Kx _ _; apply hKx)
                | (rename_i Kx hKx _h1 _h2; show Kx _ _; apply hKx)
              refine wpList_plain rfl fun _ hK => wp_store_row 28 _ _ rfl W.heap.size (exprA 0 0 false 0 .empty) rfl rfl 28 _ hr6 (by kernel_rfl) rfl (by simp [exprA, Value.oneCell']) (hK _ _ ?_)
              refine wpList_nil ?_
              go_wp2
              refine ret28 (g := W.heap.size) rfl rfl hr7 rfl ?_
              refine ⟨k, true, 0, hkr.symm, grown_row hg6, .inl ⟨?_, rfl, ?_⟩⟩
              · rw [hdge]; exact bad_zero (by rw [hyd, hz]) (.inr rfl)
              · exact (setRow_other _ _ _ _ (by omega)).trans hb6
          · have hz' : ¬ ((y.toNat : Nat) : Int) = 48 := fun e => hz (UInt8.toNat_inj.1 (by show y.toNat = 48; omega))
            have hascii : ∀ (j : Nat) (h : j < dg.size), (dg[j]'h).toNat < 128 := by
              intro j h
              have := hall j (dg[j]'h) (Lib.data_getElem? dg j h)
              simp [isDig] at this; omega
            have hdig10 : ∀ (j : Nat) (h : j < dg.size), 48 ≤ (dg[j]'h).toNat ∧ (dg[j]'h).toNat ≤ 57 := by
              intro j h
              have := hall j (dg[j]'h) (Lib.data_getElem? dg j h)
              simpa [isDig] using this
            have hbd := fun j hj => numVal_15 hall (by rw [hdl]; omega) j hj
            rw [hdl] at hbd
            go_wp2_with fail
            go_loopg [6] dg.size (fun g v6 wx => ∃ j : Nat, j + g = dg.size ∧ wx = w3.drew.iter dg j ∧ v6 = .int .i64 (numVal (dg.data.toList.take j)))
            case atStart => exact ⟨0, by omega, rfl, rfl⟩
            case round =>
              obtain ⟨j, hj, rfl, rfl⟩ := hrel
              cases gk with
              | zero =>
                obtain rfl : j = dg.size := by omega
                have hnx : ∀ ty, (Instr.next (.pointer (some ⟨w3.heap.size, 0, none⟩)) true ty).run Tryz.prog (w3.drew.iter dg dg.size) = _ := fun ty => run_next_end (P := Tryz.prog) w3.drew dg dg.size ty (Nat.lt_irrefl _)
                have htk : dg.data.toList.take dg.size = dg.data.toList := List.take_of_length_le (Nat.le_of_eq hdl)
                obtain ⟨m0, m1⟩ := hbd dg.size (Nat.le_refl _)
                rw [htk] at m0 m1 ⊢
                generalize hN : numVal dg.data.toList = N at m0 m1 ⊢
                go_wp2_with fail
                try go_unwrap
                refine w165.mono ?_
                rintro e w5 ⟨rfl, hB⟩
                have hit : ∀ q, q < w3.heap.size → (w3.drew.iter dg dg.size).heap[q]? = w3.heap[q]? := fun q hq => Below.heap_alloc w3.drew _ q hq
                have his : w3.heap.size < (w3.drew.iter dg dg.size).heap.size := by show _ < (w3.heap.push _).size; rw [Array.size_push]; omega
                have hb6 : w5.heap[b]? = some (.cells #[.string s, .int .i64 (k : Int), .bool bd] t (0, 0)) := (hB.block b (by omega)).trans ((hit b hlt4).trans hb4)
                have hr6 : w5.heap[W.heap.size]? = some (.cells (exprA 0 0 false 0 .empty) 28 (0, 0)) := (hB.block _ (by omega)).trans ((hit _ hlr).trans hr4)
                have hg6 : W.grownBy w5 (some b) := grown_below (w := w3.drew.iter dg dg.size) (grown_alloc (grown_drew hg4)) hB
                clear hB
                have hr7 := setRow_heap w5 W.heap.size _ (exprA 1 2 false (-N) .empty) 28 (0, 0) hr6
                first
                  | (rename_i Kx hKx; show Kx _ _; apply hKx)
                  | (rename_i Kx hKx _h1; show Kx _ _; apply hKx)
                  | (rename_i Kx hKx _h1 _h2; show Kx _ _; apply hKx)
                refine wpList_plain rfl fun _ hK => wp_store_row 28 _ _ rfl W.heap.size (exprA 1 2 false (-N) .empty) rfl rfl 28 _ hr6 (by kernel_rfl) rfl (by simp [exprA, Value.oneCell']) (hK _ _ ?_)
                refine wpList_nil ?_
                go_wp2
                refine ret28 (g := W.heap.size) rfl rfl hr7 rfl ?_
                refine ⟨k, bd, 0, hkr.symm, grown_row hg6, .inr ⟨?_, ?_, ?_⟩⟩
                · rw [hdge]; exact bad_no (by rw [hdl]; omega) (by rw [hdl]; exact h15) (.inl (by rw [hyd]; exact hz))
                · rw [hdge, hN]
                · exact (setRow_other _ _ _ _ (by omega)).trans hb6
              | succ g =>
                have hjl : j < dg.size := by omega
                have hnx : ∀ ty, (Instr.next (.pointer (some ⟨w3.heap.size, 0, none⟩)) true ty).run Tryz.prog (w3.drew.iter dg j) = _ := fun ty => run_next_ascii (P := Tryz.prog) w3.drew dg j ty hjl (hascii j hjl)
                obtain ⟨m0, m1⟩ := hbd j (by omega)
                have hn1 := numVal_take (l := dg.data.toList) (j := j) (by rw [hdl]; exact hjl)
                obtain ⟨q0, q1⟩ := hdig10 j hjl
                have hge : dg.data.toList[j]'(by rw [hdl]; exact hjl) = dg[j]'hjl := rfl
                rw [hge] at hn1
                obtain ⟨z, hzz⟩ : ∃ z : UInt8, dg[j]'hjl = z := ⟨_, rfl⟩
                rw [hzz] at hnx q0 q1 hn1
                go_wp2_with fail
                go_roundg g
                case measure => omega
                case rel => exact ⟨j + 1, by omega, rfl, by rw [hn1]⟩
set_option maxHeartbeats 8000000 in
set_option maxRecDepth 1000000 in
theorem w157p {W : World} {b : Nat} {t : TypeId} {s : ByteArray} {i : Nat} {bd : Bool} (hb : W.heap[b]? = some (.cells #[.string s, .int .i64 (i : Int), .bool bd] t (0, 0))) (hi : i ≤ s.size) (hs : s.size ≤ 1073741824) (hneg : ¬ (s.data.toList.getD i 0).toNat = 45)
    (hdig : ∀ (k : Nat) (j : Nat) (x : UInt8), rT.runTo isDig s.data.toList i = k → (s.extract i k).data.toList[j]? = some x → isDig x = true) :
    Calls Tryz.prog 157 #[.pointer (some ⟨b, 0, none⟩)] W fun e w' => ∃ (k : Nat) (c : Bool) (n : Int), k = rT.runTo isDig s.data.toList i ∧ W.grownBy w' (some b) ∧
      ((badNum false (s.extract i k).data.toList = true ∧ e = .returned (.agg (exprA 0 0 false 0 .empty)) ∧ w'.heap[b]? = some (.cells #[.string s, .int .i64 (k : Int), .bool true] t (0, 0))) ∨
       (badNum false (s.extract i k).data.toList = false ∧ e = .returned (.agg (exprA 1 2 false (numVal (s.extract i k).data.toList) .empty)) ∧ w'.heap[b]? = some (.cells #[.string s, .int .i64 (k : Int), .bool bd] t (0, 0)))) := by
  have mixed := mixd
  obtain ⟨c0, c1, c2, f1, f2, hlt⟩ := St.c0 hb
  have hn : ¬ ((s.data.toList.getD i 0).toNat : Int) = 45 := by omega
  have hW1 : IntKind.i64.wrap ((i : Int) + 1) = (i : Int) + 1 := wrap_id (by omega) (by omega)
  have hb1 : ∀ o, (W.alloc o).heap[b]? = some (.cells #[.string s, .int .i64 (i : Int), .bool bd] t (0, 0)) := fun o => (Below.heap_alloc W o b hlt).trans hb
  have hg0 : ∀ o, W.grownBy (W.alloc o) (some b) := fun o => grown_alloc (o := o) (W := W) (w := W) (b := b) ⟨rfl, rfl, rfl, Nat.le_refl _, fun _ _ _ => rfl⟩
  have hi1 : i ≤ s.size := by
    exact hi
  go_enter Tryz.func157, Tryz.ntmps157
  go_wp2_with fail
  refine (w137 (hb1 _) (hg0 _)).mono ?_
  rintro e w1 ⟨rfl, hg2, hh⟩
  have hb2 : w1.heap[b]? = some (.cells #[.string s, .int .i64 (i : Int), .bool bd] t (0, 0)) := by rw [hh]; exact hb1 _
  have hr2 : w1.heap[W.heap.size]? = some (.cells (exprA 0 0 false 0 .empty) 28 (0, 0)) := by rw [hh]; show (W.heap.push _)[W.heap.size]? = _; rw [Array.getElem?_push, if_pos rfl]; rfl
  clear hh
  obtain ⟨d0, d1, d2, g1, g2, hlt2⟩ := St.c0 hb2
  generalize hx0 : s.data.toList.getD i 0 = x0 at *
  have hn2 : ((x0.toNat : Int) == 45) = false := beq_eq_false_iff_ne.2 hn
  go_wp2
  have hb3 := hb2
  have hg3 := hg2
  have hr3 := hr2
  go_loopg [] (s.size - i) (fun g wx => ∃ k : Nat, k + g = s.size ∧ i ≤ k ∧ W.grownBy wx (some b) ∧ wx.heap[b]? = some (.cells #[.string s, .int .i64 (k : Int), .bool bd] t (0, 0)) ∧ rT.runTo isDig s.data.toList k = rT.runTo isDig s.data.toList i ∧ wx.heap[W.heap.size]? = some (.cells (exprA 0 0 false 0 .empty) 28 (0, 0)))
  case atStart => exact ⟨i, by omega, by omega, hg3, hb3, rfl, hr3⟩
  case round =>
    obtain ⟨k, hk, hik, hgx, hbx, hrun, hrx⟩ := hrel
    have hbne : W.heap.size ≠ b := by omega
    go_wp2_with fail
    refine (w137 hbx hgx).mono ?_
    rintro e w2 ⟨rfl, hg4, hh⟩
    have hb4 : w2.heap[b]? = some (.cells #[.string s, .int .i64 (k : Int), .bool bd] t (0, 0)) := by rw [hh]; exact hbx
    have hr4 : w2.heap[W.heap.size]? = some (.cells (exprA 0 0 false 0 .empty) 28 (0, 0)) := by rw [hh]; exact hrx
    clear hh
    obtain ⟨x, hx⟩ : ∃ x : UInt8, s.data.toList.getD k 0 = x := ⟨_, rfl⟩
    rw [hx]
    go_wp2_with fail
    refine (w110 x _).mono ?_
    rintro e w3 ⟨rfl, rfl⟩
    cases hd : isDig x with
    | true =>
      have hkl : k < s.size := by
        rcases Nat.lt_or_ge k s.size with h | h
        · exact h
        · rw [List.getD_eq_getElem?_getD, List.getElem?_eq_none (by show s.data.toList.length ≤ k; rw [Array.length_toList]; exact h)] at hx
          rw [← hx] at hd; cases hd
      have hW2 : IntKind.i64.wrap ((k : Int) + 1) = (k : Int) + 1 := wrap_id (by omega) (by omega)
      obtain ⟨e0, e1, e2, j1, j2, hlt4⟩ := St.c0 hb4
      go_wp2
      obtain ⟨g, hg⟩ : ∃ g, gk = g + 1 := ⟨gk - 1, by omega⟩
      subst hg
      go_roundg g
      case measure => omega
      case rel => exact ⟨k + 1, by omega, by omega, grown_set hg4, St.set1 hb4 _, by rw [← hrun]; exact (rT.runTo_yes (by rw [Array.length_toList]; exact hkl) (by rw [hx]; exact hd)).symm, (Below.heap_setCell _ _ _ _ hbne).trans hr4⟩
    | false =>
      have hkr : rT.runTo isDig s.data.toList i = k := by
        rw [← hrun]
        rcases Nat.lt_or_ge k s.size with h | h
        · exact rT.runTo_no (by rw [Array.length_toList]; exact h) (by rw [hx]; exact hd)
        · exact rT.runTo_end isDig (by rw [Array.length_toList]; exact h)
      have hdg := fun j x => hdig k j x hkr
      obtain ⟨e0, e1, e2, j1, j2, hlt4⟩ := St.c0 hb4
      have q1 : (0 : Int) ≤ (i : Int) := by omega
      have q2 : (i : Int) ≤ (k : Int) := by omega
      have hks : (k : Int) ≤ (s.size : Int) := by omega
      have hk0 : (0 : Int) ≤ (k : Int) := by omega
      have hft : ¬ (i : Int) < (i : Int) := by omega
      go_wp2
      go_region_o
      have hQ : ∃ dg : ByteArray, s.extract i k = dg := ⟨_, rfl⟩
      obtain ⟨dg, hdge⟩ := hQ
      rw [hdge] at hdg ⊢
      clear hr2 g1 g2 hb3 hg3 hr3 hb1 hg0 hg2 hb2 hneg hdig hx0 d0 d1 d2 hlt2 hn
      have hlr : W.heap.size < w3.heap.size := by
        rcases Nat.lt_or_ge W.heap.size w3.heap.size with h | h
        · exact h
        · rw [Array.getElem?_eq_none h] at hr4; cases hr4
      have hdl : dg.data.toList.length = dg.size := Array.length_toList
      by_cases hemp : dg.size = 0
      · have t1 : dg.toList = [] := by rw [rT.toList_eq]; exact List.eq_nil_of_length_eq_zero (by rw [Array.length_toList]; exact hemp)
        go_wp2_with fail
        refine (w138 (w := w3.drew) (b := b) e2 j2 hlt4).mono ?_
        rintro e w5 ⟨rfl, hw5⟩
        have hb6 : w5.heap[b]? = some (.cells #[.string s, .int .i64 (k : Int), .bool true] t (0, 0)) := by rw [hw5]; exact (Below.heap_alloc _ _ b (by show b < (w3.heap.modify b _).size; rw [Array.size_modify]; exact hlt4)).trans (St.set2 (w := w3.drew) hb4 true)
        have hr6 : w5.heap[W.heap.size]? = some (.cells (exprA 0 0 false 0 .empty) 28 (0, 0)) := by
          rw [hw5]; exact (Below.heap_alloc _ _ _ (by show _ < (w3.heap.modify b _).size; rw [Array.size_modify]; exact hlr)).trans ((Below.heap_setCell w3.drew ⟨b, 2, none⟩ (.bool true) W.heap.size hbne).trans hr4)
        have hg6 : W.grownBy w5 (some b) := by rw [hw5]; exact grown_alloc (grown_set (grown_drew hg4))
        clear hw5
        have hr7 := setRow_heap w5 W.heap.size _ (exprA 0 0 false 0 .empty) 28 (0, 0) hr6
        first
          | (rename_i Kx hKx; show Kx _ _; apply hKx)
          | (rename_i Kx hKx _h1; show Kx _ _; apply hKx)
          | (rename_i Kx hKx _h1 _h2; show Kx _ _; apply hKx)
        refine wpList_plain rfl fun _ hK => wp_store_row 28 _ _ rfl W.heap.size (exprA 0 0 false 0 .empty) rfl rfl 28 _ hr6 (by kernel_rfl) rfl (by simp [exprA, Value.oneCell']) (hK _ _ ?_)
        refine wpList_nil ?_
        go_wp2
        refine ret28 (g := W.heap.size) rfl rfl hr7 rfl ?_
        refine ⟨k, true, 0, hkr.symm, grown_row hg6, .inl ⟨?_, rfl, ?_⟩⟩
        · rw [hdge]; exact bad_nil (by rw [hdl]; exact hemp)
        · exact (setRow_other _ _ _ _ (by omega)).trans hb6
      · have t2 : ¬ dg.toList = [] := by rw [rT.toList_eq]; intro e; rw [e] at hdl; exact hemp hdl.symm
        have t3 : dg.toList.isEmpty = false := by cases h : dg.toList with
          | nil => exact absurd h t2
          | cons _ _ => rfl
        have h0n : 0 < dg.size := by omega
        have h0s : (0 : Int) < (dg.size : Int) := by omega
        by_cases h15 : 15 < dg.size
        · have h15' : (15 : Int) < (dg.size : Int) := by omega
          go_wp2_with fail
          refine (w138 (w := w3.drew) (b := b) e2 j2 hlt4).mono ?_
          rintro e w5 ⟨rfl, hw5⟩
          have hb6 : w5.heap[b]? = some (.cells #[.string s, .int .i64 (k : Int), .bool true] t (0, 0)) := by rw [hw5]; exact (Below.heap_alloc _ _ b (by show b < (w3.heap.modify b _).size; rw [Array.size_modify]; exact hlt4)).trans (St.set2 (w := w3.drew) hb4 true)
          have hr6 : w5.heap[W.heap.size]? = some (.cells (exprA 0 0 false 0 .empty) 28 (0, 0)) := by
            rw [hw5]; exact (Below.heap_alloc _ _ _ (by show _ < (w3.heap.modify b _).size; rw [Array.size_modify]; exact hlr)).trans ((Below.heap_setCell w3.drew ⟨b, 2, none⟩ (.bool true) W.heap.size hbne).trans hr4)
          have hg6 : W.grownBy w5 (some b) := by rw [hw5]; exact grown_alloc (grown_set (grown_drew hg4))
          clear hw5
          have hr7 := setRow_heap w5 W.heap.size _ (exprA 0 0 false 0 .empty) 28 (0, 0) hr6
          first
            | (rename_i Kx hKx; show Kx _ _; apply hKx)
            | (rename_i Kx hKx _h1; show Kx _ _; apply hKx)
            | (rename_i Kx hKx _h1 _h2; show Kx _ _; apply hKx)
          refine wpList_plain rfl fun _ hK => wp_store_row 28 _ _ rfl W.heap.size (exprA 0 0 false 0 .empty) rfl rfl 28 _ hr6 (by kernel_rfl) rfl (by simp [exprA, Value.oneCell']) (hK _ _ ?_)
          refine wpList_nil ?_
          go_wp2
          refine ret28 (g := W.heap.size) rfl rfl hr7 rfl ?_
          refine ⟨k, true, 0, hkr.symm, grown_row hg6, .inl ⟨?_, rfl, ?_⟩⟩
          · rw [hdge]; exact bad_long (by rw [hdl]; exact h15)
          · exact (setRow_other _ _ _ _ (by omega)).trans hb6
        · have h15' : ¬ (15 : Int) < (dg.size : Int) := by omega
          obtain ⟨y, hy⟩ : ∃ y : UInt8, dg[0]'h0n = y := ⟨_, rfl⟩
          have hyd : dg.data.toList.headD 0 = y := by
            rw [List.headD_eq_head?_getD, List.head?_eq_getElem?, Lib.data_getElem? dg 0 h0n]; exact hy
          have hall : ∀ (j : Nat) (x : UInt8), dg.data.toList[j]? = some x → isDig x = true := hdg
          by_cases hz : y = 48
          · have hz' : ((y.toNat : Nat) : Int) = 48 := by rw [hz]; rfl
            by_cases h1 : 1 < dg.size
            · have h1' : (1 : Int) < (dg.size : Int) := by omega
              go_wp2_with fail
              refine (w138 (w := w3.drew) (b := b) e2 j2 hlt4).mono ?_
              rintro e w5 ⟨rfl, hw5⟩
              have hb6 : w5.heap[b]? = some (.cells #[.string s, .int .i64 (k : Int), .bool true] t (0, 0)) := by rw [hw5]; exact (Below.heap_alloc _ _ b (by show b < (w3.heap.modify b _).size; rw [Array.size_modify]; exact hlt4)).trans (St.set2 (w := w3.drew) hb4 true)
              have hr6 : w5.heap[W.heap.size]? = some (.cells (exprA 0 0 false 0 .empty) 28 (0, 0)) := by
                rw [hw5]; exact (Below.heap_alloc _ _ _ (by show _ < (w3.heap.modify b _).size; rw [Array.size_modify]; exact hlr)).trans ((Below.heap_setCell w3.drew ⟨b, 2, none⟩ (.bool true) W.heap.size hbne).trans hr4)
              have hg6 : W.grownBy w5 (some b) := by rw [hw5]; exact grown_alloc (grown_set (grown_drew hg4))
              clear hw5
              have hr7 := setRow_heap w5 W.heap.size _ (exprA 0 0 false 0 .empty) 28 (0, 0) hr6
              first
                | (rename_i Kx hKx; show Kx _ _; apply hKx)
                | (rename_i Kx hKx _h1; show Kx _ _; apply hKx)
                | (rename_i Kx hKx _h1 _h2; show Kx _ _; apply hKx)
              refine wpList_plain rfl fun _ hK => wp_store_row 28 _ _ rfl W.heap.size (exprA 0 0 false 0 .empty) rfl rfl 28 _ hr6 (by kernel_rfl) rfl (by simp [exprA, Value.oneCell']) (hK _ _ ?_)
              refine wpList_nil ?_
              go_wp2
              refine ret28 (g := W.heap.size) rfl rfl hr7 rfl ?_
              refine ⟨k, true, 0, hkr.symm, grown_row hg6, .inl ⟨?_, rfl, ?_⟩⟩
              · rw [hdge]; exact bad_zero (by rw [hyd, hz]) (.inl (by rw [hdl]; exact h1))
              · exact (setRow_other _ _ _ _ (by omega)).trans hb6
            · have h1' : ¬ (1 : Int) < (dg.size : Int) := by omega
              have hascii : ∀ (j : Nat) (h : j < dg.size), (dg[j]'h).toNat < 128 := by
                intro j h
                have := hall j (dg[j]'h) (Lib.data_getElem? dg j h)
                simp [isDig] at this; omega
              have hdig10 : ∀ (j : Nat) (h : j < dg.size), 48 ≤ (dg[j]'h).toNat ∧ (dg[j]'h).toNat ≤ 57 := by
                intro j h
                have := hall j (dg[j]'h) (Lib.data_getElem? dg j h)
                simpa [isDig] using this
              have hbd := fun j hj => numVal_15 hall (by rw [hdl]; omega) j hj
              rw [hdl] at hbd
              go_wp2_with fail
              go_loopg [6] dg.size (fun g v6 wx => ∃ j : Nat, j + g = dg.size ∧ wx = w3.drew.iter dg j ∧ v6 = .int .i64 (numVal (dg.data.toList.take j)))
              case atStart => exact ⟨0, by omega, rfl, rfl⟩
              case round =>
                obtain ⟨j, hj, rfl, rfl⟩ := hrel
                cases gk with
                | zero =>
                  obtain rfl : j = dg.size := by omega
                  have hnx : ∀ ty, (Instr.next (.pointer (some ⟨w3.heap.size, 0, none⟩)) true ty).run Tryz.prog (w3.drew.iter dg dg.size) = _ := fun ty => run_next_end (P := Tryz.prog) w3.drew dg dg.size ty (Nat.lt_irrefl _)
                  have htk : dg.data.toList.take dg.size = dg.data.toList := List.take_of_length_le (Nat.le_of_eq hdl)
                  obtain ⟨m0, m1⟩ := hbd dg.size (Nat.le_refl _)
                  rw [htk] at m0 m1 ⊢
                  generalize hN : numVal dg.data.toList = N at m0 m1 ⊢
                  go_wp2_with fail
                  try go_unwrap
                  refine w165.mono ?_
                  rintro e w5 ⟨rfl, hB⟩
                  have hit : ∀ q, q < w3.heap.size → (w3.drew.iter dg dg.size).heap[q]? = w3.heap[q]? := fun q hq => Below.heap_alloc w3.drew _ q hq
                  have his : w3.heap.size < (w3.drew.iter dg dg.size).heap.size := by show _ < (w3.heap.push _).size; rw [Array.size_push]; omega
                  have hb6 : w5.heap[b]? = some (.cells #[.string s, .int .i64 (k : Int), .bool bd] t (0, 0)) := (hB.block b (by omega)).trans ((hit b hlt4).trans hb4)
                  have hr6 : w5.heap[W.heap.size]? = some (.cells (exprA 0 0 false 0 .empty) 28 (0, 0)) := (hB.block _ (by omega)).trans ((hit _ hlr).trans hr4)
                  have hg6 : W.grownBy w5 (some b) := grown_below (w := w3.drew.iter dg dg.size) (grown_alloc (grown_drew hg4)) hB
                  clear hB
                  have hr7 := setRow_heap w5 W.heap.size _ (exprA 1 2 false (N) .empty) 28 (0, 0) hr6
                  first
                    | (rename_i Kx hKx; show Kx _ _; apply hKx)
                    | (rename_i Kx hKx _h1; show Kx _ _; apply hKx)
                    | (rename_i Kx hKx _h1 _h2; show Kx _ _; apply hKx)
                  refine wpList_plain rfl fun _ hK => wp_store_row 28 _ _ rfl W.heap.size (exprA 1 2 false (N) .empty) rfl rfl 28 _ hr6 (by kernel_rfl) rfl (by simp [exprA, Value.oneCell']) (hK _ _ ?_)
                  refine wpList_nil ?_
                  go_wp2
                  refine ret28 (g := W.heap.size) rfl rfl hr7 rfl ?_
                  refine ⟨k, bd, 0, hkr.symm, grown_row hg6, .inr ⟨?_, ?_, ?_⟩⟩
                  · rw [hdge]; exact bad_no (by rw [hdl]; omega) (by rw [hdl]; exact h15) (.inr ⟨by rw [hdl]; exact h1, rfl⟩)
                  · rw [hdge, hN]
                  · exact (setRow_other _ _ _ _ (by omega)).trans hb6
                | succ g =>
                  have hjl : j < dg.size := by omega
                  have hnx : ∀ ty, (Instr.next (.pointer (some ⟨w3.heap.size, 0, none⟩)) true ty).run Tryz.prog (w3.drew.iter dg j) = _ := fun ty => run_next_ascii (P := Tryz.prog) w3.drew dg j ty hjl (hascii j hjl)
                  obtain ⟨m0, m1⟩ := hbd j (by omega)
                  have hn1 := numVal_take (l := dg.data.toList) (j := j) (by rw [hdl]; exact hjl)
                  obtain ⟨q0, q1⟩ := hdig10 j hjl
                  have hge : dg.data.toList[j]'(by rw [hdl]; exact hjl) = dg[j]'hjl := rfl
                  rw [hge] at hn1
                  obtain ⟨z, hzz⟩ : ∃ z : UInt8, dg[j]'hjl = z := ⟨_, rfl⟩
                  rw [hzz] at hnx q0 q1 hn1
                  go_wp2_with fail
                  go_roundg g
                  case measure => omega
                  case rel => exact ⟨j + 1, by omega, rfl, by rw [hn1]⟩
          · have hz' : ¬ ((y.toNat : Nat) : Int) = 48 := fun e => hz (UInt8.toNat_inj.1 (by show y.toNat = 48; omega))
            have hascii : ∀ (j : Nat) (h : j < dg.size), (dg[j]'h).toNat < 128 := by
              intro j h
              have := hall j (dg[j]'h) (Lib.data_getElem? dg j h)
              simp [isDig] at this; omega
            have hdig10 : ∀ (j : Nat) (h : j < dg.size), 48 ≤ (dg[j]'h).toNat ∧ (dg[j]'h).toNat ≤ 57 := by
              intro j h
              have := hall j (dg[j]'h) (Lib.data_getElem? dg j h)
              simpa [isDig] using this
            have hbd := fun j hj => numVal_15 hall (by rw [hdl]; omega) j hj
            rw [hdl] at hbd
            go_wp2_with fail
            go_loopg [6] dg.size (fun g v6 wx => ∃ j : Nat, j + g = dg.size ∧ wx = w3.drew.iter dg j ∧ v6 = .int .i64 (numVal (dg.data.toList.take j)))
            case atStart => exact ⟨0, by omega, rfl, rfl⟩
            case round =>
              obtain ⟨j, hj, rfl, rfl⟩ := hrel
              cases gk with
              | zero =>
                obtain rfl : j = dg.size := by omega
                have hnx : ∀ ty, (Instr.next (.pointer (some ⟨w3.heap.size, 0, none⟩)) true ty).run Tryz.prog (w3.drew.iter dg dg.size) = _ := fun ty => run_next_end (P := Tryz.prog) w3.drew dg dg.size ty (Nat.lt_irrefl _)
                have htk : dg.data.toList.take dg.size = dg.data.toList := List.take_of_length_le (Nat.le_of_eq hdl)
                obtain ⟨m0, m1⟩ := hbd dg.size (Nat.le_refl _)
                rw [htk] at m0 m1 ⊢
                generalize hN : numVal dg.data.toList = N at m0 m1 ⊢
                go_wp2_with fail
                try go_unwrap
                refine w165.mono ?_
                rintro e w5 ⟨rfl, hB⟩
                have hit : ∀ q, q < w3.heap.size → (w3.drew.iter dg dg.size).heap[q]? = w3.heap[q]? := fun q hq => Below.heap_alloc w3.drew _ q hq
                have his : w3.heap.size < (w3.drew.iter dg dg.size).heap.size := by show _ < (w3.heap.push _).size; rw [Array.size_push]; omega
                have hb6 : w5.heap[b]? = some (.cells #[.string s, .int .i64 (k : Int), .bool bd] t (0, 0)) := (hB.block b (by omega)).trans ((hit b hlt4).trans hb4)
                have hr6 : w5.heap[W.heap.size]? = some (.cells (exprA 0 0 false 0 .empty) 28 (0, 0)) := (hB.block _ (by omega)).trans ((hit _ hlr).trans hr4)
                have hg6 : W.grownBy w5 (some b) := grown_below (w := w3.drew.iter dg dg.size) (grown_alloc (grown_drew hg4)) hB
                clear hB
                have hr7 := setRow_heap w5 W.heap.size _ (exprA 1 2 false (N) .empty) 28 (0, 0) hr6
                first
                  | (rename_i Kx hKx; show Kx _ _; apply hKx)
                  | (rename_i Kx hKx _h1; show Kx _ _; apply hKx)
                  | (rename_i Kx hKx _h1 _h2; show Kx _ _; apply hKx)
                refine wpList_plain rfl fun _ hK => wp_store_row 28 _ _ rfl W.heap.size (exprA 1 2 false (N) .empty) rfl rfl 28 _ hr6 (by kernel_rfl) rfl (by simp [exprA, Value.oneCell']) (hK _ _ ?_)
                refine wpList_nil ?_
                go_wp2
                refine ret28 (g := W.heap.size) rfl rfl hr7 rfl ?_
                refine ⟨k, bd, 0, hkr.symm, grown_row hg6, .inr ⟨?_, ?_, ?_⟩⟩
                · rw [hdge]; exact bad_no (by rw [hdl]; omega) (by rw [hdl]; exact h15) (.inl (by rw [hyd]; exact hz))
                · rw [hdge, hN]
                · exact (setRow_other _ _ _ _ (by omega)).trans hb6
              | succ g =>
                have hjl : j < dg.size := by omega
                have hnx : ∀ ty, (Instr.next (.pointer (some ⟨w3.heap.size, 0, none⟩)) true ty).run Tryz.prog (w3.drew.iter dg j) = _ := fun ty => run_next_ascii (P := Tryz.prog) w3.drew dg j ty hjl (hascii j hjl)
                obtain ⟨m0, m1⟩ := hbd j (by omega)
                have hn1 := numVal_take (l := dg.data.toList) (j := j) (by rw [hdl]; exact hjl)
                obtain ⟨q0, q1⟩ := hdig10 j hjl
                have hge : dg.data.toList[j]'(by rw [hdl]; exact hjl) = dg[j]'hjl := rfl
                rw [hge] at hn1
                obtain ⟨z, hzz⟩ : ∃ z : UInt8, dg[j]'hjl = z := ⟨_, rfl⟩
                rw [hzz] at hnx q0 q1 hn1
                go_wp2_with fail
                go_roundg g
                case measure => omega
                case rel => exact ⟨j + 1, by omega, rfl, by rw [hn1]⟩
end Go.Proofs.YtcmeincdmphaoaaGreatDoor.ex
