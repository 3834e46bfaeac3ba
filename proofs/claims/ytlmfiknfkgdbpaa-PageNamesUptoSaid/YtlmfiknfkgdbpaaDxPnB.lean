/- A part of the proof. -/
import Derived.Test.YtlmfiknfkgdbpaaDxPnA
set_option linter.unusedVariables false
set_option linter.unusedSimpArgs false
namespace Go.Proofs.Ytlmfiknfkgdbpaa.pn
open Go.Proofs.Ytlmfiknfkgdbpaa.DS

/-! masthead/mastlaw1.PageNames -/
theorem enter3 (l0 : List D) (set1 : List D) : RUN E 3 [D.list l0, D.list set1] =
 opt (RUN E 5 [D.list l0]) fun ρ0 =>
 opt (RUN E 6 [D.list l0]) fun ρ1 =>
 opt (RUN E 4 [D.list (D.toList (List.getD ρ0 0 D.no)), D.list (D.toList (List.getD ρ1 0 D.no))]) fun ρ2 =>
 opt (cond (bif D.toBool (List.getD ρ2 0 D.no) then true else false)
 (RUN E 7 [D.list l0, D.list set1])
 (some [])) fun ρ3 =>
 opt (cond (bif D.toBool (List.getD ρ2 0 D.no) then true else false)
 (RUN E 8 [D.list l0, D.list set1])
 (some [])) fun ρ4 =>
 opt (cond (bif D.toBool (List.getD ρ2 0 D.no) then true else false)
 (RUN E 4 [D.list (D.toList (List.getD ρ3 0 D.no)), D.list (D.toList (List.getD ρ4 0 D.no))])
 (some [])) fun ρ5 =>
 some [D.bool (bif D.toBool (List.getD ρ2 0 D.no) then D.toBool (List.getD ρ5 0 D.no) else false)] := (RUN_eq _ _ _).trans (by kernel_rfl)
/-! masthead/page.Shortcodes -/
def h5a (v8 : List D) (v9 : Int) (v10 : Int) (out3s : List D) : St := mkSt 35 [(3, SV.own 3), (8, SV.val (KT.slice 31) (D.list v8)), (9, SV.val (KT.int IntKind.i64) (D.int v9)), (10, SV.val (KT.int IntKind.i64) (D.int v10))] [(3, Obj.arr 9 out3s)]
noncomputable def L5a (v8 : List D) (v9 : Int) (v10 : Int) (out3s : List D) : R := LOOP E (RUN E) 5 Try.f5 [1, 1, 0, 1, 0] (h5a v8 v9 v10 out3s)
def h5b (v8 : List D) (v9 : Int) (v10 : Int) (out3s : List D) (p5 : D) : St := mkSt 35 [(3, SV.own 3), (5, SV.bptr 5 31 0 (KT.agg 31)), (8, SV.val (KT.slice 31) (D.list v8)), (9, SV.val (KT.int IntKind.i64) (D.int v9)), (10, SV.val (KT.int IntKind.i64) (D.int v10))] [(3, Obj.arr 9 out3s), (5, Obj.box 31 (BC.whole p5))]
noncomputable def C5b (v8 : List D) (v9 : Int) (v10 : Int) (out3s : List D) (p5 : D) : R := PART E (RUN E) 5 Try.f5 [1, 1, 0, 1, 0, 0, 1, 1, 0, 0, 1, 1] (h5b v8 v9 v10 out3s p5)
def h5c (v8 : List D) (v9 : Int) (v10 : Int) (v23 : List D) (v24 : Int) (v25 : Int) (out3s : List D) : St := mkSt 35 [(3, SV.own 3), (8, SV.val (KT.slice 31) (D.list v8)), (9, SV.val (KT.int IntKind.i64) (D.int v9)), (10, SV.val (KT.int IntKind.i64) (D.int v10)), (23, SV.val (KT.slice 9) (D.list v23)), (24, SV.val (KT.int IntKind.i64) (D.int v24)), (25, SV.val (KT.int IntKind.i64) (D.int v25))] [(3, Obj.arr 9 out3s)]
noncomputable def L5c (v8 : List D) (v9 : Int) (v10 : Int) (v23 : List D) (v24 : Int) (v25 : Int) (out3s : List D) : R := LOOP E (RUN E) 5 Try.f5 [1, 1, 0, 1, 0, 0, 1, 1, 0, 0, 1, 1, 1, 0] (h5c v8 v9 v10 v23 v24 v25 out3s)
theorem enter5 (l0 : List D) : RUN E 5 [D.list l0] =
 L5a l0 ((↑(List.length l0) : Int)) 0 [] := (RUN_eq _ _ _).trans (by kernel_rfl)
theorem round5a (v8 : List D) (v9 : Int) (v10 : Int) (out3s : List D) : L5a v8 v9 v10 out3s =
 cond (decide (v10 < v9))
 (cond (inb v10 (List.length v8))
 (cond (bif decide (D.toStr (D.cell (List.getD v8 (Int.toNat v10) D.no) 1) = ([] : List UInt8)) then false else true)
 (opt (RUN E 9 [D.list out3s, D.str (D.toStr (D.cell (List.getD v8 (Int.toNat v10) D.no) 1))]) fun ρ3 =>
 C5b v8 v9 v10 (D.toList (List.getD ρ3 0 D.no)) (List.getD v8 (Int.toNat v10) D.no))
 (C5b v8 v9 v10 out3s (List.getD v8 (Int.toNat v10) D.no)))
 (none))
 (some [D.list out3s]) := (LOOP_eq _ _ _ _ _ _).trans (by kernel_rfl)
theorem round5b (v8 : List D) (v9 : Int) (v10 : Int) (out3s : List D) (p5 : D) : C5b v8 v9 v10 out3s p5 =
 opt (RUN E 5 [D.list (D.toList (D.cell p5 4))]) fun ρ0 =>
 L5c v8 v9 v10 (D.toList (List.getD ρ0 0 D.no)) ((↑(List.length (D.toList (List.getD ρ0 0 D.no))) : Int)) 0 out3s := (PART_eq _ _ _ _ _ _).trans (by kernel_rfl)
theorem round5c (v8 : List D) (v9 : Int) (v10 : Int) (v23 : List D) (v24 : Int) (v25 : Int) (out3s : List D) : L5c v8 v9 v10 v23 v24 v25 out3s =
 cond (decide (v25 < v24))
 (cond (inb v25 (List.length v23))
 (opt (RUN E 9 [D.list out3s, D.str (D.toStr (List.getD v23 (Int.toNat v25) D.no))]) fun ρ2 =>
 L5c v8 v9 v10 v23 v24 (IntKind.wrap IntKind.i64 (v25 + 1)) (D.toList (List.getD ρ2 0 D.no)))
 (none))
 (L5a v8 v9 (IntKind.wrap IntKind.i64 (v10 + 1)) out3s) := (LOOP_eq _ _ _ _ _ _).trans (by kernel_rfl)
/-! masthead/mastref1.NamesOf -/
def h6a (v6 : List D) (v7 : Int) (v8 : Int) (out3s : List D) : St := mkSt 28 [(3, SV.own 3), (6, SV.val (KT.slice 31) (D.list v6)), (7, SV.val (KT.int IntKind.i64) (D.int v7)), (8, SV.val (KT.int IntKind.i64) (D.int v8))] [(3, Obj.arr 9 out3s)]
noncomputable def L6a (v6 : List D) (v7 : Int) (v8 : Int) (out3s : List D) : R := LOOP E (RUN E) 6 Try.f6 [1, 1, 0, 1, 0] (h6a v6 v7 v8 out3s)
theorem enter6 (l0 : List D) : RUN E 6 [D.list l0] =
 L6a l0 ((↑(List.length l0) : Int)) 0 [] := (RUN_eq _ _ _).trans (by kernel_rfl)
theorem round6a (v6 : List D) (v7 : Int) (v8 : Int) (out3s : List D) : L6a v6 v7 v8 out3s =
 cond (decide (v8 < v7))
 (cond (inb v8 (List.length v6))
 (cond (bif decide (D.toStr (D.cell (List.getD v6 (Int.toNat v8) D.no) 1) = ([] : List UInt8)) then false else true)
 (cond (fitL (List.length out3s) (List.length [D.str (D.toStr (D.cell (List.getD v6 (Int.toNat v8) D.no) 1))]))
 (opt (RUN E 6 [D.list (D.toList (D.cell (List.getD v6 (Int.toNat v8) D.no) 4))]) fun ρ4 =>
 cond (fitL (List.length (out3s ++ [D.str (D.toStr (D.cell (List.getD v6 (Int.toNat v8) D.no) 1))])) (List.length (D.toList (List.getD ρ4 0 D.no))))
 (L6a v6 v7 (IntKind.wrap IntKind.i64 (v8 + 1)) (out3s ++ [D.str (D.toStr (D.cell (List.getD v6 (Int.toNat v8) D.no) 1))] ++ D.toList (List.getD ρ4 0 D.no)))
 (none))
 (none))
 (opt (RUN E 6 [D.list (D.toList (D.cell (List.getD v6 (Int.toNat v8) D.no) 4))]) fun ρ3 =>
 cond (fitL (List.length out3s) (List.length (D.toList (List.getD ρ3 0 D.no))))
 (L6a v6 v7 (IntKind.wrap IntKind.i64 (v8 + 1)) (out3s ++ D.toList (List.getD ρ3 0 D.no)))
 (none)))
 (none))
 (opt (RUN E 10 [D.list out3s]) fun ρ1 =>
 some [D.list (D.toList (List.getD ρ1 0 D.no))]) := (LOOP_eq _ _ _ _ _ _).trans (by kernel_rfl)
/-! slices.Equal[[]string,string] -/
def h4a (s10 : List D) (s21 : List D) (v12 : Int) (v13 : Int) : St := mkSt 26 [(0, SV.val (KT.slice 9) (D.list s10)), (1, SV.val (KT.slice 9) (D.list s21)), (12, SV.val (KT.int IntKind.i64) (D.int v12)), (13, SV.val (KT.int IntKind.i64) (D.int v13))] []
noncomputable def L4a (s10 : List D) (s21 : List D) (v12 : Int) (v13 : Int) : R := LOOP E (RUN E) 4 Try.f4 [1, 1, 0, 1, 0] (h4a s10 s21 v12 v13)
theorem enter4 (s10 : List D) (s21 : List D) : RUN E 4 [D.list s10, D.list s21] =
 cond (bif decide ((↑(List.length s10) : Int) = (↑(List.length s21) : Int)) then false else true)
 (some [D.bool false])
 (L4a s10 s21 ((↑(List.length s10) : Int)) 0) := (RUN_eq _ _ _).trans (by kernel_rfl)
theorem round4a (s10 : List D) (s21 : List D) (v12 : Int) (v13 : Int) : L4a s10 s21 v12 v13 =
 cond (decide (v13 < v12))
 (cond (inb v13 (List.length s10))
 (cond (inb v13 (List.length s21))
 (cond (bif decide (D.toStr (List.getD s10 (Int.toNat v13) D.no) = D.toStr (List.getD s21 (Int.toNat v13) D.no)) then false else true)
 (some [D.bool false])
 (L4a s10 s21 v12 (IntKind.wrap IntKind.i64 (v13 + 1))))
 (none))
 (none))
 (some [D.bool true]) := (LOOP_eq _ _ _ _ _ _).trans (by kernel_rfl)
/-! masthead/page.Missing -/
def h7a (set1 : List D) (v9 : List D) (v10 : Int) (v11 : Int) (out5s : List D) : St := mkSt 26 [(1, SV.val (KT.slice 37) (D.list set1)), (5, SV.own 5), (9, SV.val (KT.slice 9) (D.list v9)), (10, SV.val (KT.int IntKind.i64) (D.int v10)), (11, SV.val (KT.int IntKind.i64) (D.int v11))] [(5, Obj.arr 9 out5s)]
noncomputable def L7a (set1 : List D) (v9 : List D) (v10 : Int) (v11 : Int) (out5s : List D) : R := LOOP E (RUN E) 7 Try.f7 [1, 1, 0, 1, 0] (h7a set1 v9 v10 v11 out5s)
theorem enter7 (l0 : List D) (set1 : List D) : RUN E 7 [D.list l0, D.list set1] =
 opt (RUN E 5 [D.list l0]) fun ρ0 =>
 L7a set1 (D.toList (List.getD ρ0 0 D.no)) ((↑(List.length (D.toList (List.getD ρ0 0 D.no))) : Int)) 0 [] := (RUN_eq _ _ _).trans (by kernel_rfl)
theorem round7a (set1 : List D) (v9 : List D) (v10 : Int) (v11 : Int) (out5s : List D) : L7a set1 v9 v10 v11 out5s =
 cond (decide (v11 < v10))
 (cond (inb v11 (List.length v9))
 (cond (decide (List.length (([115, 104, 111, 114, 116, 47] : List UInt8)) + List.length (D.toStr (List.getD v9 (Int.toNat v11) D.no)) ≤ lim))
 (opt (RUN E 11 [D.list set1, D.str (([115, 104, 111, 114, 116, 47] : List UInt8) ++ D.toStr (List.getD v9 (Int.toNat v11) D.no))]) fun ρ3 =>
 cond (bif D.toBool (List.getD ρ3 0 D.no) then false else true)
 (cond (fitL (List.length out5s) (List.length [D.str (D.toStr (List.getD v9 (Int.toNat v11) D.no))]))
 (L7a set1 v9 v10 (IntKind.wrap IntKind.i64 (v11 + 1)) (out5s ++ [D.str (D.toStr (List.getD v9 (Int.toNat v11) D.no))]))
 (none))
 (L7a set1 v9 v10 (IntKind.wrap IntKind.i64 (v11 + 1)) out5s))
 (none))
 (none))
 (some [D.list out5s]) := (LOOP_eq _ _ _ _ _ _).trans (by kernel_rfl)
/-! masthead/mastref1.MissingOf -/
def h8a (set1 : List D) (v9 : List D) (v10 : Int) (v11 : Int) (out5s : List D) : St := mkSt 26 [(1, SV.val (KT.slice 37) (D.list set1)), (5, SV.own 5), (9, SV.val (KT.slice 9) (D.list v9)), (10, SV.val (KT.int IntKind.i64) (D.int v10)), (11, SV.val (KT.int IntKind.i64) (D.int v11))] [(5, Obj.arr 9 out5s)]
noncomputable def L8a (set1 : List D) (v9 : List D) (v10 : Int) (v11 : Int) (out5s : List D) : R := LOOP E (RUN E) 8 Try.f8 [1, 1, 0, 1, 0] (h8a set1 v9 v10 v11 out5s)
theorem enter8 (l0 : List D) (set1 : List D) : RUN E 8 [D.list l0, D.list set1] =
 opt (RUN E 6 [D.list l0]) fun ρ0 =>
 L8a set1 (D.toList (List.getD ρ0 0 D.no)) ((↑(List.length (D.toList (List.getD ρ0 0 D.no))) : Int)) 0 [] := (RUN_eq _ _ _).trans (by kernel_rfl)
theorem round8a (set1 : List D) (v9 : List D) (v10 : Int) (v11 : Int) (out5s : List D) : L8a set1 v9 v10 v11 out5s =
 cond (decide (v11 < v10))
 (cond (inb v11 (List.length v9))
 (cond (decide (List.length (([115, 104, 111, 114, 116, 47] : List UInt8)) + List.length (D.toStr (List.getD v9 (Int.toNat v11) D.no)) ≤ lim))
 (opt (RUN E 12 [D.list set1, D.str (([115, 104, 111, 114, 116, 47] : List UInt8) ++ D.toStr (List.getD v9 (Int.toNat v11) D.no))]) fun ρ3 =>
 cond (bif D.toBool (List.getD ρ3 0 D.no) then false else true)
 (cond (fitL (List.length out5s) (List.length [D.str (D.toStr (List.getD v9 (Int.toNat v11) D.no))]))
 (L8a set1 v9 v10 (IntKind.wrap IntKind.i64 (v11 + 1)) (out5s ++ [D.str (D.toStr (List.getD v9 (Int.toNat v11) D.no))]))
 (none))
 (L8a set1 v9 v10 (IntKind.wrap IntKind.i64 (v11 + 1)) out5s))
 (none))
 (none))
 (some [D.list out5s]) := (LOOP_eq _ _ _ _ _ _).trans (by kernel_rfl)
/-! masthead/page.insert -/
def h9a (s1 : List UInt8) (k5 : Int) (l0s : List D) : St := mkSt 49 [(0, SV.own 0), (1, SV.val KT.str (D.str s1)), (5, SV.val (KT.int IntKind.i64) (D.int k5))] [(0, Obj.arr 9 l0s)]
noncomputable def L9a (s1 : List UInt8) (k5 : Int) (l0s : List D) : R := LOOP E (RUN E) 9 Try.f9 [1, 1, 0, 0] (h9a s1 k5 l0s)
theorem enter9 (l0 : List D) (s1 : List UInt8) : RUN E 9 [D.list l0, D.str s1] =
 L9a s1 0 l0 := (RUN_eq _ _ _).trans (by kernel_rfl)
theorem round9a (s1 : List UInt8) (k5 : Int) (l0s : List D) : L9a s1 k5 l0s =
 cond (bif inb k5 (List.length l0s) then true else bif bif decide (k5 < (↑(List.length l0s) : Int)) then true else false then false else true)
 (cond (bif decide (k5 < (↑(List.length l0s) : Int)) then Op.bytesLess (D.toStr (List.getD l0s (Int.toNat k5) D.no)) s1 else false)
 (L9a s1 (IntKind.wrap IntKind.i64 (k5 + 1)) l0s)
 (cond (bif inb k5 (List.length l0s) then true else bif bif decide (k5 < (↑(List.length l0s) : Int)) then true else false then false else true)
 (cond (bif decide (k5 < (↑(List.length l0s) : Int)) then decide (D.toStr (List.getD l0s (Int.toNat k5) D.no) = s1) else false)
 (some [D.list l0s])
 (cond (fitL (List.length l0s) (List.length [D.str (([] : List UInt8))]))
 (cond (cutOk (List.length (l0s ++ [D.str (([] : List UInt8))])) (some (IntKind.wrap IntKind.i64 (k5 + 1))) none)
 (cond (cutOk (List.length (l0s ++ [D.str (([] : List UInt8))])) (some k5) none)
 (cond (inb k5 (List.length (copyL (l0s ++ [D.str (([] : List UInt8))]) (Int.toNat (IntKind.wrap IntKind.i64 (k5 + 1))) (Int.toNat k5))))
 (some [D.list (List.set (copyL (l0s ++ [D.str (([] : List UInt8))]) (Int.toNat (IntKind.wrap IntKind.i64 (k5 + 1))) (Int.toNat k5)) (Int.toNat k5) (D.str s1))])
 (none))
 (none))
 (none))
 (none)))
 (none)))
 (none) := (LOOP_eq _ _ _ _ _ _).trans (by kernel_rfl)
/-! masthead/mastref1.Sorted -/
def h10a (v9 : Int) (v10 : Int) (out3s : List D) (l0s : List D) : St := mkSt 32 [(0, SV.own 0), (3, SV.own 3), (8, SV.own 0), (9, SV.val (KT.int IntKind.i64) (D.int v9)), (10, SV.val (KT.int IntKind.i64) (D.int v10))] [(3, Obj.arr 9 out3s), (0, Obj.arr 9 l0s)]
noncomputable def L10a (v9 : Int) (v10 : Int) (out3s : List D) (l0s : List D) : R := LOOP E (RUN E) 10 Try.f10 [1, 1, 1, 0, 1, 0] (h10a v9 v10 out3s l0s)
theorem enter10 (l0 : List D) : RUN E 10 [D.list l0] =
 opt (RUN E 13 [D.list l0]) fun ρ0 =>
 L10a ((↑(List.length (D.toList (List.getD ρ0 0 D.no))) : Int)) 0 [] (D.toList (List.getD ρ0 0 D.no)) := (RUN_eq _ _ _).trans (by kernel_rfl)
theorem round10a (v9 : Int) (v10 : Int) (out3s : List D) (l0s : List D) : L10a v9 v10 out3s l0s =
 cond (decide (v10 < v9))
 (cond (inb v10 (List.length l0s))
 (cond (bif inb (IntKind.wrap IntKind.i64 (v10 - 1)) (List.length l0s) then true else bif bif decide (v10 = 0) then false else true then false else true)
 (cond (bif decide (v10 = 0) then true else bif decide (D.toStr (List.getD l0s (Int.toNat v10) D.no) = D.toStr (List.getD l0s (Int.toNat (IntKind.wrap IntKind.i64 (v10 - 1))) D.no)) then false else true)
 (cond (fitL (List.length out3s) (List.length [D.str (D.toStr (List.getD l0s (Int.toNat v10) D.no))]))
 (L10a v9 (IntKind.wrap IntKind.i64 (v10 + 1)) (out3s ++ [D.str (D.toStr (List.getD l0s (Int.toNat v10) D.no))]) l0s)
 (none))
 (L10a v9 (IntKind.wrap IntKind.i64 (v10 + 1)) out3s l0s))
 (none))
 (none))
 (some [D.list out3s]) := (LOOP_eq _ _ _ _ _ _).trans (by kernel_rfl)
/-! masthead/page.has -/
def h11a (name1 : List UInt8) (v7 : List D) (v8 : Int) (v9 : Int) : St := mkSt 18 [(1, SV.val KT.str (D.str name1)), (7, SV.val (KT.slice 37) (D.list v7)), (8, SV.val (KT.int IntKind.i64) (D.int v8)), (9, SV.val (KT.int IntKind.i64) (D.int v9))] []
noncomputable def L11a (name1 : List UInt8) (v7 : List D) (v8 : Int) (v9 : Int) : R := LOOP E (RUN E) 11 Try.f11 [1, 0, 1, 0] (h11a name1 v7 v8 v9)
theorem enter11 (set0 : List D) (name1 : List UInt8) : RUN E 11 [D.list set0, D.str name1] =
 L11a name1 set0 ((↑(List.length set0) : Int)) 0 := (RUN_eq _ _ _).trans (by kernel_rfl)
theorem round11a (name1 : List UInt8) (v7 : List D) (v8 : Int) (v9 : Int) : L11a name1 v7 v8 v9 =
 cond (decide (v9 < v8))
 (cond (inb v9 (List.length v7))
 (cond (decide (D.toStr (D.cell (List.getD v7 (Int.toNat v9) D.no) 0) = name1))
 (some [D.bool true])
 (L11a name1 v7 v8 (IntKind.wrap IntKind.i64 (v9 + 1))))
 (none))
 (some [D.bool false]) := (LOOP_eq _ _ _ _ _ _).trans (by kernel_rfl)
/-! masthead/mastref1.inSet -/
def h12a (name1 : List UInt8) (v7 : List D) (v8 : Int) (v9 : Int) : St := mkSt 18 [(1, SV.val KT.str (D.str name1)), (7, SV.val (KT.slice 37) (D.list v7)), (8, SV.val (KT.int IntKind.i64) (D.int v8)), (9, SV.val (KT.int IntKind.i64) (D.int v9))] []
noncomputable def L12a (name1 : List UInt8) (v7 : List D) (v8 : Int) (v9 : Int) : R := LOOP E (RUN E) 12 Try.f12 [1, 0, 1, 0] (h12a name1 v7 v8 v9)
theorem enter12 (set0 : List D) (name1 : List UInt8) : RUN E 12 [D.list set0, D.str name1] =
 L12a name1 set0 ((↑(List.length set0) : Int)) 0 := (RUN_eq _ _ _).trans (by kernel_rfl)
theorem round12a (name1 : List UInt8) (v7 : List D) (v8 : Int) (v9 : Int) : L12a name1 v7 v8 v9 =
 cond (decide (v9 < v8))
 (cond (inb v9 (List.length v7))
 (cond (decide (D.toStr (D.cell (List.getD v7 (Int.toNat v9) D.no) 0) = name1))
 (some [D.bool true])
 (L12a name1 v7 v8 (IntKind.wrap IntKind.i64 (v9 + 1))))
 (none))
 (some [D.bool false]) := (LOOP_eq _ _ _ _ _ _).trans (by kernel_rfl)
end Go.Proofs.Ytlmfiknfkgdbpaa.pn
