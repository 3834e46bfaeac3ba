/- A part of the proof. -/
import Derived.Test.YtlmfiknfkgdbpaaGreatDoorDxPrA
set_option linter.unusedVariables false
set_option linter.unusedSimpArgs false
namespace Go.Proofs.YtlmfiknfkgdbpaaGreatDoor.pr
open Go.Proofs.YtlmfiknfkgdbpaaGreatDoor.DS

/-! masthead/mastlaw1.MarkPrints -/
theorem enter3 (doc0 : List D) : RUN E 3 [D.list doc0] =
 opt (RUN E 4 [D.list doc0]) fun ρ0 =>
 opt (RUN E 5 [D.list doc0]) fun ρ1 =>
 cond (bif decide (D.toInt (List.getD ρ1 0 D.no) = 0) then false else true)
 (some [D.bool (bif decide (D.toStr (List.getD ρ0 0 D.no) = ([] : List UInt8)) then decide (D.toInt (List.getD ρ0 1 D.no) = D.toInt (List.getD ρ1 0 D.no)) else false)])
 (opt (RUN E 6 [D.list doc0]) fun ρ3 =>
 cond (bif D.toBool (List.getD ρ3 0 D.no) then false else true)
 (some [D.bool (bif decide (D.toStr (List.getD ρ0 0 D.no) = ([] : List UInt8)) then decide (D.toInt (List.getD ρ0 1 D.no) = 1) else false)])
 (opt (RUN E 7 [D.list doc0]) fun ρ5 =>
 cond (bif D.toBool (List.getD ρ5 1 D.no) then false else true)
 (some [D.bool (bif decide (D.toStr (List.getD ρ0 0 D.no) = ([] : List UInt8)) then decide (D.toInt (List.getD ρ0 1 D.no) = 4) else false)])
 (some [D.bool (bif decide (D.toStr (List.getD ρ0 0 D.no) = D.toStr (List.getD ρ5 0 D.no)) then decide (D.toInt (List.getD ρ0 1 D.no) = 0) else false)]))) := (RUN_eq _ _ _).trans (by kernel_rfl)
/-! masthead/mark.Print -/
theorem enter4 (doc0 : List D) : RUN E 4 [D.list doc0] =
 opt (RUN E 8 [D.list doc0]) fun ρ0 =>
 cond (bif decide (D.toInt (List.getD ρ0 0 D.no) = 0) then false else true)
 (some [D.str (([] : List UInt8)), D.int (D.toInt (List.getD ρ0 0 D.no))])
 (opt (RUN E 9 [D.list doc0]) fun ρ2 =>
 cond (bif D.toBool (List.getD ρ2 0 D.no) then false else true)
 (some [D.str (([] : List UInt8)), D.int 1])
 (opt (RUN E 10 [D.list doc0]) fun ρ4 =>
 cond (decide (20000 < (↑(List.length (D.toStr (List.getD ρ4 0 D.no))) : Int)))
 (some [D.str (([] : List UInt8)), D.int 4])
 (some [D.str (D.toStr (List.getD ρ4 0 D.no)), D.int 0]))) := (RUN_eq _ _ _).trans (by kernel_rfl)
/-! masthead/mastref1.DocError -/
theorem enter5 (l0 : List D) : RUN E 5 [D.list l0] =
 opt (RUN E 11 [D.list l0]) fun ρ0 =>
 cond (decide (4000 < D.toInt (List.getD ρ0 0 D.no)))
 (some [D.int 4])
 (opt (RUN E 12 [D.list l0, D.int 0, D.int 0]) fun ρ2 =>
 cond (D.toBool (List.getD ρ2 0 D.no))
 (some [D.int 13])
 (opt (RUN E 13 [D.list l0, D.int 0]) fun ρ4 =>
 some [D.int (D.toInt (List.getD ρ4 0 D.no))])) := (RUN_eq _ _ _).trans (by kernel_rfl)
/-! masthead/mastref1.CanPrint -/
theorem enter6 (l0 : List D) : RUN E 6 [D.list l0] =
 opt (RUN E 5 [D.list l0]) fun ρ0 =>
 opt (cond (bif decide (D.toInt (List.getD ρ0 0 D.no) = 0) then true else false)
 (RUN E 14 [D.list l0])
 (some [])) fun ρ1 =>
 some [D.bool (bif decide (D.toInt (List.getD ρ0 0 D.no) = 0) then D.toBool (List.getD ρ1 0 D.no) else false)] := (RUN_eq _ _ _).trans (by kernel_rfl)
/-! masthead/mastref1.PrintDoc -/
def h7a (out4 : List UInt8) (v8 : List D) (v9 : Int) (v10 : Int) : St := mkSt 23 [(4, SV.val KT.str (D.str out4)), (8, SV.val (KT.slice 9) (D.list v8)), (9, SV.val (KT.int IntKind.i64) (D.int v9)), (10, SV.val (KT.int IntKind.i64) (D.int v10))] []
noncomputable def L7a (out4 : List UInt8) (v8 : List D) (v9 : Int) (v10 : Int) : R := LOOP E (RUN E) 7 Tryz.f7 [1, 1, 0, 1, 0] (h7a out4 v8 v9 v10)
theorem enter7 (l0 : List D) : RUN E 7 [D.list l0] =
 opt (RUN E 15 [D.list l0]) fun ρ0 =>
 L7a (([] : List UInt8)) (D.toList (List.getD ρ0 0 D.no)) ((↑(List.length (D.toList (List.getD ρ0 0 D.no))) : Int)) 0 := (RUN_eq _ _ _).trans (by kernel_rfl)
theorem round7a (out4 : List UInt8) (v8 : List D) (v9 : Int) (v10 : Int) : L7a out4 v8 v9 v10 =
 cond (decide (v10 < v9))
 (cond (inb v10 (List.length v8))
 (cond (decide (List.length (D.toStr (List.getD v8 (Int.toNat v10) D.no)) + List.length (([10] : List UInt8)) ≤ lim))
 (cond (decide (List.length out4 + List.length (D.toStr (List.getD v8 (Int.toNat v10) D.no) ++ ([10] : List UInt8)) ≤ lim))
 (cond (decide (20000 < (↑(List.length (out4 ++ (D.toStr (List.getD v8 (Int.toNat v10) D.no) ++ ([10] : List UInt8)))) : Int)))
 (some [D.str (([] : List UInt8)), D.bool false])
 (L7a (out4 ++ (D.toStr (List.getD v8 (Int.toNat v10) D.no) ++ ([10] : List UInt8))) v8 v9 (IntKind.wrap IntKind.i64 (v10 + 1))))
 (none))
 (none))
 (none))
 (some [D.str out4, D.bool true]) := (LOOP_eq _ _ _ _ _ _).trans (by kernel_rfl)
/-! masthead/mark.Check -/
theorem enter8 (doc0 : List D) : RUN E 8 [D.list doc0] =
 opt (RUN E 16 [D.list doc0]) fun ρ0 =>
 cond (decide (4000 < D.toInt (List.getD ρ0 0 D.no)))
 (some [D.int 4])
 (opt (RUN E 17 [D.list doc0, D.int 0, D.int 0]) fun ρ2 =>
 cond (D.toBool (List.getD ρ2 0 D.no))
 (some [D.int 13])
 (opt (RUN E 18 [D.list doc0, D.int 0]) fun ρ4 =>
 some [D.int (D.toInt (List.getD ρ4 0 D.no))])) := (RUN_eq _ _ _).trans (by kernel_rfl)
/-! masthead/mark.blocksFit -/
def h9a (l0 : List D) (v5 : List D) (v6 : Int) (v7 : Int) : St := mkSt 45 [(0, SV.val (KT.slice 37) (D.list l0)), (5, SV.val (KT.slice 37) (D.list v5)), (6, SV.val (KT.int IntKind.i64) (D.int v6)), (7, SV.val (KT.int IntKind.i64) (D.int v7))] []
noncomputable def L9a (l0 : List D) (v5 : List D) (v6 : Int) (v7 : Int) : R := LOOP E (RUN E) 9 Tryz.f9 [1, 0, 1, 0] (h9a l0 v5 v6 v7)
theorem enter9 (l0 : List D) : RUN E 9 [D.list l0] =
 L9a l0 l0 ((↑(List.length l0) : Int)) 0 := (RUN_eq _ _ _).trans (by kernel_rfl)
theorem round9a (l0 : List D) (v5 : List D) (v6 : Int) (v7 : Int) : L9a l0 v5 v6 v7 =
 cond (decide (v7 < v6))
 (cond (inb v7 (List.length v5))
 (cond (bif inb (IntKind.wrap IntKind.i64 (v7 - 1)) (List.length l0) then true else bif bif bif decide (0 < v7) then decide (D.toInt (D.cell (List.getD v5 (Int.toNat v7) D.no) 0) = 5) else false then true else false then false else true)
 (cond (bif inb (IntKind.wrap IntKind.i64 (v7 - 1)) (List.length l0) then true else bif bif bif bif decide (0 < v7) then decide (D.toInt (D.cell (List.getD v5 (Int.toNat v7) D.no) 0) = 5) else false then decide (D.toInt (D.cell (List.getD l0 (Int.toNat (IntKind.wrap IntKind.i64 (v7 - 1))) D.no) 0) = 5) else false then true else false then false else true)
 (cond (bif bif bif decide (0 < v7) then decide (D.toInt (D.cell (List.getD v5 (Int.toNat v7) D.no) 0) = 5) else false then decide (D.toInt (D.cell (List.getD l0 (Int.toNat (IntKind.wrap IntKind.i64 (v7 - 1))) D.no) 0) = 5) else false then decide (D.toInt (D.cell (List.getD v5 (Int.toNat v7) D.no) 1) < 0) == decide (D.toInt (D.cell (List.getD l0 (Int.toNat (IntKind.wrap IntKind.i64 (v7 - 1))) D.no) 1) < 0) else false)
 (some [D.bool false])
 (opt (RUN E 19 [List.getD v5 (Int.toNat v7) D.no]) fun ρ5 =>
 cond (bif D.toBool (List.getD ρ5 0 D.no) then false else true)
 (some [D.bool false])
 (L9a l0 v5 v6 (IntKind.wrap IntKind.i64 (v7 + 1)))))
 (none))
 (none))
 (none))
 (some [D.bool true]) := (LOOP_eq _ _ _ _ _ _).trans (by kernel_rfl)
/-! masthead/mark.printed -/
def h10a (v6 : List D) (v7 : Int) (v8 : Int) (x700193s : List D) : St := mkSt 21 [(3, SV.bptr 3 42 0 (KT.agg 42)), (6, SV.val (KT.slice 37) (D.list v6)), (7, SV.val (KT.int IntKind.i64) (D.int v7)), (8, SV.val (KT.int IntKind.i64) (D.int v8))] [(3, Obj.box 42 (BC.cells [SV.selfn 3, SV.own 700193])), (700193, Obj.arr 5 x700193s)]
noncomputable def L10a (v6 : List D) (v7 : Int) (v8 : Int) (x700193s : List D) : R := LOOP E (RUN E) 10 Tryz.f10 [1, 1, 0, 1, 0] (h10a v6 v7 v8 x700193s)
theorem enter10 (l0 : List D) : RUN E 10 [D.list l0] =
 L10a l0 ((↑(List.length l0) : Int)) 0 [] := (RUN_eq _ _ _).trans (by kernel_rfl)
theorem round10a (v6 : List D) (v7 : Int) (v8 : Int) (x700193s : List D) : L10a v6 v7 v8 x700193s =
 cond (decide (v8 < v7))
 (cond (inb v8 (List.length v6))
 (cond (decide (0 < v8))
 (opt (RUN E 20 [D.agg [D.no, D.list x700193s], D.int 10]) fun ρ3 =>
 opt (RUN E 22 [List.getD v6 (Int.toNat v8) D.no]) fun ρ4 =>
 opt (RUN E 21 [D.agg [D.no, D.list (D.toList (D.cell (List.getD ρ3 1 D.no) 1))], D.str (D.toStr (List.getD ρ4 0 D.no))]) fun ρ5 =>
 L10a v6 v7 (IntKind.wrap IntKind.i64 (v8 + 1)) (D.toList (D.cell (List.getD ρ5 2 D.no) 1)))
 (opt (RUN E 22 [List.getD v6 (Int.toNat v8) D.no]) fun ρ3 =>
 opt (RUN E 21 [D.agg [D.no, D.list x700193s], D.str (D.toStr (List.getD ρ3 0 D.no))]) fun ρ4 =>
 L10a v6 v7 (IntKind.wrap IntKind.i64 (v8 + 1)) (D.toList (D.cell (List.getD ρ4 2 D.no) 1))))
 (none))
 (opt (RUN E 23 [D.agg [D.no, D.list x700193s]]) fun ρ1 =>
 some [D.str (D.toStr (List.getD ρ1 0 D.no))]) := (LOOP_eq _ _ _ _ _ _).trans (by kernel_rfl)
/-! masthead/mastref1.Nodes -/
def h11a (n3 : Int) (v8 : List D) (v9 : Int) (v10 : Int) : St := mkSt 21 [(3, SV.val (KT.int IntKind.i64) (D.int n3)), (8, SV.val (KT.slice 37) (D.list v8)), (9, SV.val (KT.int IntKind.i64) (D.int v9)), (10, SV.val (KT.int IntKind.i64) (D.int v10))] []
noncomputable def L11a (n3 : Int) (v8 : List D) (v9 : Int) (v10 : Int) : R := LOOP E (RUN E) 11 Tryz.f11 [1, 1, 0, 1, 0] (h11a n3 v8 v9 v10)
theorem enter11 (l0 : List D) : RUN E 11 [D.list l0] =
 L11a ((↑(List.length l0) : Int)) l0 ((↑(List.length l0) : Int)) 0 := (RUN_eq _ _ _).trans (by kernel_rfl)
theorem round11a (n3 : Int) (v8 : List D) (v9 : Int) (v10 : Int) : L11a n3 v8 v9 v10 =
 cond (decide (v10 < v9))
 (cond (inb v10 (List.length v8))
 (opt (RUN E 11 [D.list (D.toList (D.cell (List.getD v8 (Int.toNat v10) D.no) 5))]) fun ρ2 =>
 L11a (IntKind.wrap IntKind.i64 (n3 + D.toInt (List.getD ρ2 0 D.no))) v8 v9 (IntKind.wrap IntKind.i64 (v10 + 1)))
 (none))
 (some [D.int n3]) := (LOOP_eq _ _ _ _ _ _).trans (by kernel_rfl)
/-! masthead/mastref1.deep -/
def h12a (blocks1 : Int) (inlines2 : Int) (v11 : List D) (v12 : Int) (v13 : Int) : St := mkSt 40 [(1, SV.val (KT.int IntKind.i64) (D.int blocks1)), (2, SV.val (KT.int IntKind.i64) (D.int inlines2)), (11, SV.val (KT.slice 37) (D.list v11)), (12, SV.val (KT.int IntKind.i64) (D.int v12)), (13, SV.val (KT.int IntKind.i64) (D.int v13))] []
noncomputable def L12a (blocks1 : Int) (inlines2 : Int) (v11 : List D) (v12 : Int) (v13 : Int) : R := LOOP E (RUN E) 12 Tryz.f12 [1, 0, 1, 0] (h12a blocks1 inlines2 v11 v12 v13)
theorem enter12 (l0 : List D) (blocks1 : Int) (inlines2 : Int) : RUN E 12 [D.list l0, D.int blocks1, D.int inlines2] =
 L12a blocks1 inlines2 l0 ((↑(List.length l0) : Int)) 0 := (RUN_eq _ _ _).trans (by kernel_rfl)
theorem round12a (blocks1 : Int) (inlines2 : Int) (v11 : List D) (v12 : Int) (v13 : Int) : L12a blocks1 inlines2 v11 v12 v13 =
 cond (decide (v13 < v12))
 (cond (inb v13 (List.length v11))
 (opt (RUN E 24 [D.int (D.toInt (D.cell (List.getD v11 (Int.toNat v13) D.no) 0))]) fun ρ2 =>
 cond (D.toBool (List.getD ρ2 0 D.no))
 (opt (cond (bif bif decide (12 < blocks1) then true else decide (12 < IntKind.wrap IntKind.i64 (inlines2 + 1)) then false else true)
 (RUN E 12 [D.list (D.toList (D.cell (List.getD v11 (Int.toNat v13) D.no) 5)), D.int blocks1, D.int (IntKind.wrap IntKind.i64 (inlines2 + 1))])
 (some [])) fun ρ4 =>
 cond (bif bif decide (12 < blocks1) then true else decide (12 < IntKind.wrap IntKind.i64 (inlines2 + 1)) then true else D.toBool (List.getD ρ4 0 D.no))
 (some [D.bool true])
 (L12a blocks1 inlines2 v11 v12 (IntKind.wrap IntKind.i64 (v13 + 1))))
 (opt (cond (bif bif decide (12 < IntKind.wrap IntKind.i64 (blocks1 + 1)) then true else decide (12 < inlines2) then false else true)
 (RUN E 12 [D.list (D.toList (D.cell (List.getD v11 (Int.toNat v13) D.no) 5)), D.int (IntKind.wrap IntKind.i64 (blocks1 + 1)), D.int inlines2])
 (some [])) fun ρ4 =>
 cond (bif bif decide (12 < IntKind.wrap IntKind.i64 (blocks1 + 1)) then true else decide (12 < inlines2) then true else D.toBool (List.getD ρ4 0 D.no))
 (some [D.bool true])
 (L12a blocks1 inlines2 v11 v12 (IntKind.wrap IntKind.i64 (v13 + 1)))))
 (none))
 (some [D.bool false]) := (LOOP_eq _ _ _ _ _ _).trans (by kernel_rfl)
/-! masthead/mastref1.nodesError -/
def h13a (parent1 : Int) (v9 : List D) (v10 : Int) (v11 : Int) : St := mkSt 30 [(1, SV.val (KT.int IntKind.i64) (D.int parent1)), (9, SV.val (KT.slice 37) (D.list v9)), (10, SV.val (KT.int IntKind.i64) (D.int v10)), (11, SV.val (KT.int IntKind.i64) (D.int v11))] []
noncomputable def L13a (parent1 : Int) (v9 : List D) (v10 : Int) (v11 : Int) : R := LOOP E (RUN E) 13 Tryz.f13 [1, 0, 1, 0] (h13a parent1 v9 v10 v11)
theorem enter13 (l0 : List D) (parent1 : Int) : RUN E 13 [D.list l0, D.int parent1] =
 L13a parent1 l0 ((↑(List.length l0) : Int)) 0 := (RUN_eq _ _ _).trans (by kernel_rfl)
theorem round13a (parent1 : Int) (v9 : List D) (v10 : Int) (v11 : Int) : L13a parent1 v9 v10 v11 =
 cond (decide (v11 < v10))
 (cond (inb v11 (List.length v9))
 (opt (RUN E 25 [List.getD v9 (Int.toNat v11) D.no, D.int parent1]) fun ρ2 =>
 cond (bif decide (D.toInt (List.getD ρ2 0 D.no) = 0) then false else true)
 (some [D.int (D.toInt (List.getD ρ2 0 D.no))])
 (opt (RUN E 13 [D.list (D.toList (D.cell (List.getD v9 (Int.toNat v11) D.no) 5)), D.int (D.toInt (D.cell (List.getD v9 (Int.toNat v11) D.no) 0))]) fun ρ4 =>
 cond (bif decide (D.toInt (List.getD ρ4 0 D.no) = 0) then false else true)
 (some [D.int (D.toInt (List.getD ρ4 0 D.no))])
 (L13a parent1 v9 v10 (IntKind.wrap IntKind.i64 (v11 + 1)))))
 (none))
 (some [D.int 0]) := (LOOP_eq _ _ _ _ _ _).trans (by kernel_rfl)
/-! masthead/mastref1.goodBlocks -/
def h14a (l0 : List D) (v5 : List D) (v6 : Int) (v7 : Int) : St := mkSt 78 [(0, SV.val (KT.slice 37) (D.list l0)), (5, SV.val (KT.slice 37) (D.list v5)), (6, SV.val (KT.int IntKind.i64) (D.int v6)), (7, SV.val (KT.int IntKind.i64) (D.int v7))] []
noncomputable def L14a (l0 : List D) (v5 : List D) (v6 : Int) (v7 : Int) : R := LOOP E (RUN E) 14 Tryz.f14 [1, 0, 1, 0] (h14a l0 v5 v6 v7)
theorem enter14 (l0 : List D) : RUN E 14 [D.list l0] =
 L14a l0 l0 ((↑(List.length l0) : Int)) 0 := (RUN_eq _ _ _).trans (by kernel_rfl)
theorem round14a (l0 : List D) (v5 : List D) (v6 : Int) (v7 : Int) : L14a l0 v5 v6 v7 =
 cond (decide (v7 < v6))
 (cond (inb v7 (List.length v5))
 (cond (bif inb (IntKind.wrap IntKind.i64 (v7 - 1)) (List.length l0) then true else bif bif bif decide (0 < v7) then decide (D.toInt (D.cell (List.getD v5 (Int.toNat v7) D.no) 0) = 5) else false then true else false then false else true)
 (cond (bif inb (IntKind.wrap IntKind.i64 (v7 - 1)) (List.length l0) then true else bif bif bif bif decide (0 < v7) then decide (D.toInt (D.cell (List.getD v5 (Int.toNat v7) D.no) 0) = 5) else false then decide (D.toInt (D.cell (List.getD l0 (Int.toNat (IntKind.wrap IntKind.i64 (v7 - 1))) D.no) 0) = 5) else false then true else false then false else true)
 (cond (bif bif bif decide (0 < v7) then decide (D.toInt (D.cell (List.getD v5 (Int.toNat v7) D.no) 0) = 5) else false then decide (D.toInt (D.cell (List.getD l0 (Int.toNat (IntKind.wrap IntKind.i64 (v7 - 1))) D.no) 0) = 5) else false then decide (D.toInt (D.cell (List.getD v5 (Int.toNat v7) D.no) 1) < 0) == decide (D.toInt (D.cell (List.getD l0 (Int.toNat (IntKind.wrap IntKind.i64 (v7 - 1))) D.no) 1) < 0) else false)
 (some [D.bool false])
 (cond (decide (D.toInt (D.cell (List.getD v5 (Int.toNat v7) D.no) 0) = 1))
 (cond (decide (D.toInt (D.cell (List.getD v5 (Int.toNat v7) D.no) 0) = 1))
 (opt (RUN E 26 [List.getD v5 (Int.toNat v7) D.no]) fun ρ7 =>
 cond (bif D.toBool (List.getD ρ7 0 D.no) then false else true)
 (some [D.bool false])
 (L14a l0 v5 v6 (IntKind.wrap IntKind.i64 (v7 + 1))))
 (cond (decide (D.toInt (D.cell (List.getD v5 (Int.toNat v7) D.no) 0) = 2))
 (opt (cond (bif decide ((↑(List.length (D.toList (D.cell (List.getD v5 (Int.toNat v7) D.no) 5))) : Int) = 0) then false else true)
 (RUN E 26 [List.getD v5 (Int.toNat v7) D.no])
 (some [])) fun ρ8 =>
 cond (bif decide ((↑(List.length (D.toList (D.cell (List.getD v5 (Int.toNat v7) D.no) 5))) : Int) = 0) then true else bif D.toBool (List.getD ρ8 0 D.no) then false else true)
 (some [D.bool false])
 (L14a l0 v5 v6 (IntKind.wrap IntKind.i64 (v7 + 1))))
 (cond (decide (D.toInt (D.cell (List.getD v5 (Int.toNat v7) D.no) 0) = 3))
 (opt (RUN E 27 [List.getD v5 (Int.toNat v7) D.no]) fun ρ9 =>
 cond (bif D.toBool (List.getD ρ9 0 D.no) then false else true)
 (some [D.bool false])
 (L14a l0 v5 v6 (IntKind.wrap IntKind.i64 (v7 + 1))))
 (cond (decide (D.toInt (D.cell (List.getD v5 (Int.toNat v7) D.no) 0) = 7))
 (L14a l0 v5 v6 (IntKind.wrap IntKind.i64 (v7 + 1)))
 (opt (cond (bif decide ((↑(List.length (D.toList (D.cell (List.getD v5 (Int.toNat v7) D.no) 5))) : Int) = 0) then false else true)
 (RUN E 14 [D.list (D.toList (D.cell (List.getD v5 (Int.toNat v7) D.no) 5))])
 (some [])) fun ρ10 =>
 cond (bif decide ((↑(List.length (D.toList (D.cell (List.getD v5 (Int.toNat v7) D.no) 5))) : Int) = 0) then true else bif D.toBool (List.getD ρ10 0 D.no) then false else true)
 (some [D.bool false])
 (L14a l0 v5 v6 (IntKind.wrap IntKind.i64 (v7 + 1))))))))
 (cond (decide (D.toInt (D.cell (List.getD v5 (Int.toNat v7) D.no) 0) = 10))
 (opt (RUN E 26 [List.getD v5 (Int.toNat v7) D.no]) fun ρ7 =>
 cond (bif D.toBool (List.getD ρ7 0 D.no) then false else true)
 (some [D.bool false])
 (L14a l0 v5 v6 (IntKind.wrap IntKind.i64 (v7 + 1))))
 (cond (decide (D.toInt (D.cell (List.getD v5 (Int.toNat v7) D.no) 0) = 2))
 (opt (cond (bif decide ((↑(List.length (D.toList (D.cell (List.getD v5 (Int.toNat v7) D.no) 5))) : Int) = 0) then false else true)
 (RUN E 26 [List.getD v5 (Int.toNat v7) D.no])
 (some [])) fun ρ8 =>
 cond (bif decide ((↑(List.length (D.toList (D.cell (List.getD v5 (Int.toNat v7) D.no) 5))) : Int) = 0) then true else bif D.toBool (List.getD ρ8 0 D.no) then false else true)
 (some [D.bool false])
 (L14a l0 v5 v6 (IntKind.wrap IntKind.i64 (v7 + 1))))
 (cond (decide (D.toInt (D.cell (List.getD v5 (Int.toNat v7) D.no) 0) = 3))
 (opt (RUN E 27 [List.getD v5 (Int.toNat v7) D.no]) fun ρ9 =>
 cond (bif D.toBool (List.getD ρ9 0 D.no) then false else true)
 (some [D.bool false])
 (L14a l0 v5 v6 (IntKind.wrap IntKind.i64 (v7 + 1))))
 (cond (decide (D.toInt (D.cell (List.getD v5 (Int.toNat v7) D.no) 0) = 7))
 (L14a l0 v5 v6 (IntKind.wrap IntKind.i64 (v7 + 1)))
 (opt (cond (bif decide ((↑(List.length (D.toList (D.cell (List.getD v5 (Int.toNat v7) D.no) 5))) : Int) = 0) then false else true)
 (RUN E 14 [D.list (D.toList (D.cell (List.getD v5 (Int.toNat v7) D.no) 5))])
 (some [])) fun ρ10 =>
 cond (bif decide ((↑(List.length (D.toList (D.cell (List.getD v5 (Int.toNat v7) D.no) 5))) : Int) = 0) then true else bif D.toBool (List.getD ρ10 0 D.no) then false else true)
 (some [D.bool false])
 (L14a l0 v5 v6 (IntKind.wrap IntKind.i64 (v7 + 1))))))))))
 (none))
 (none))
 (none))
 (some [D.bool true]) := (LOOP_eq _ _ _ _ _ _).trans (by kernel_rfl)
/-! masthead/mastref1.PrintLines -/
def h15a (v13 : List D) (v14 : Int) (v15 : Int) (out3s : List D) : St := mkSt 148 [(3, SV.own 3), (13, SV.val (KT.slice 37) (D.list v13)), (14, SV.val (KT.int IntKind.i64) (D.int v14)), (15, SV.val (KT.int IntKind.i64) (D.int v15))] [(3, Obj.arr 9 out3s)]
noncomputable def L15a (v13 : List D) (v14 : Int) (v15 : Int) (out3s : List D) : R := LOOP E (RUN E) 15 Tryz.f15 [1, 1, 0, 1, 0] (h15a v13 v14 v15 out3s)
def h15b (v13 : List D) (v14 : Int) (v15 : Int) (out3s : List D) (x5 : D) : St := mkSt 148 [(3, SV.own 3), (5, SV.bptr 5 37 0 (KT.agg 37)), (13, SV.val (KT.slice 37) (D.list v13)), (14, SV.val (KT.int IntKind.i64) (D.int v14)), (15, SV.val (KT.int IntKind.i64) (D.int v15))] [(3, Obj.arr 9 out3s), (5, Obj.box 37 (BC.whole x5))]
noncomputable def C15b (v13 : List D) (v14 : Int) (v15 : Int) (out3s : List D) (x5 : D) : R := PART E (RUN E) 15 Tryz.f15 [1, 1, 0, 1, 0, 0, 1, 1, 0, 0, 1, 1] (h15b v13 v14 v15 out3s x5)
def h15c (v13 : List D) (v14 : Int) (v15 : Int) (v87 : List D) (v88 : Int) (v89 : Int) (out3s : List D) (cells6s : List D) : St := mkSt 148 [(3, SV.own 3), (6, SV.own 6), (13, SV.val (KT.slice 37) (D.list v13)), (14, SV.val (KT.int IntKind.i64) (D.int v14)), (15, SV.val (KT.int IntKind.i64) (D.int v15)), (87, SV.val (KT.slice 37) (D.list v87)), (88, SV.val (KT.int IntKind.i64) (D.int v88)), (89, SV.val (KT.int IntKind.i64) (D.int v89))] [(3, Obj.arr 9 out3s), (6, Obj.arr 9 cells6s)]
noncomputable def L15c (v13 : List D) (v14 : Int) (v15 : Int) (v87 : List D) (v88 : Int) (v89 : Int) (out3s : List D) (cells6s : List D) : R := LOOP E (RUN E) 15 Tryz.f15 [1, 1, 0, 1, 0, 0, 1, 1, 0, 0, 1, 1, 1, 0, 1, 1, 1, 1, 1, 1, 1, 1, 1, 1, 1, 0, 1, 0, 1, 0] (h15c v13 v14 v15 v87 v88 v89 out3s cells6s)
def h15d (v13 : List D) (v14 : Int) (v15 : Int) (v111 : List D) (v112 : Int) (v113 : Int) (out3s : List D) : St := mkSt 148 [(3, SV.own 3), (13, SV.val (KT.slice 37) (D.list v13)), (14, SV.val (KT.int IntKind.i64) (D.int v14)), (15, SV.val (KT.int IntKind.i64) (D.int v15)), (111, SV.val (KT.slice 9) (D.list v111)), (112, SV.val (KT.int IntKind.i64) (D.int v112)), (113, SV.val (KT.int IntKind.i64) (D.int v113))] [(3, Obj.arr 9 out3s)]
noncomputable def L15d (v13 : List D) (v14 : Int) (v15 : Int) (v111 : List D) (v112 : Int) (v113 : Int) (out3s : List D) : R := LOOP E (RUN E) 15 Tryz.f15 [1, 1, 0, 1, 0, 0, 1, 1, 0, 0, 1, 1, 1, 0, 1, 1, 1, 1, 1, 1, 1, 1, 1, 1, 1, 1, 1, 0, 1, 0] (h15d v13 v14 v15 v111 v112 v113 out3s)
def h15e (v13 : List D) (v14 : Int) (v15 : Int) (v131 : List D) (v132 : Int) (v133 : Int) (out3s : List D) (x5 : D) : St := mkSt 148 [(3, SV.own 3), (5, SV.bptr 5 37 0 (KT.agg 37)), (13, SV.val (KT.slice 37) (D.list v13)), (14, SV.val (KT.int IntKind.i64) (D.int v14)), (15, SV.val (KT.int IntKind.i64) (D.int v15)), (131, SV.val (KT.slice 37) (D.list v131)), (132, SV.val (KT.int IntKind.i64) (D.int v132)), (133, SV.val (KT.int IntKind.i64) (D.int v133))] [(3, Obj.arr 9 out3s), (5, Obj.box 37 (BC.whole x5))]
noncomputable def L15e (v13 : List D) (v14 : Int) (v15 : Int) (v131 : List D) (v132 : Int) (v133 : Int) (out3s : List D) (x5 : D) : R := LOOP E (RUN E) 15 Tryz.f15 [1, 1, 0, 1, 0, 0, 1, 1, 0, 0, 1, 1, 1, 0, 1, 1, 1, 1, 1, 1, 1, 1, 1, 1, 1, 1, 1, 1, 1, 0, 1, 0] (h15e v13 v14 v15 v131 v132 v133 out3s x5)
theorem enter15 (l0 : List D) : RUN E 15 [D.list l0] =
 L15a l0 ((↑(List.length l0) : Int)) 0 [] := (RUN_eq _ _ _).trans (by kernel_rfl)
theorem round15a (v13 : List D) (v14 : Int) (v15 : Int) (out3s : List D) : L15a v13 v14 v15 out3s =
 cond (decide (v15 < v14))
 (cond (inb v15 (List.length v13))
 (cond (bif bif decide (0 < v15) then bif decide (D.toInt (D.cell (List.getD v13 (Int.toNat v15) D.no) 0) = 6) then false else true else false then bif decide (D.toInt (D.cell (List.getD v13 (Int.toNat v15) D.no) 0) = 9) then false else true else false)
 (cond (fitL (List.length out3s) (List.length [D.str (([] : List UInt8))]))
 (C15b v13 v14 v15 (out3s ++ [D.str (([] : List UInt8))]) (List.getD v13 (Int.toNat v15) D.no))
 (none))
 (C15b v13 v14 v15 out3s (List.getD v13 (Int.toNat v15) D.no)))
 (none))
 (some [D.list out3s]) := (LOOP_eq _ _ _ _ _ _).trans (by kernel_rfl)
theorem round15b (v13 : List D) (v14 : Int) (v15 : Int) (out3s : List D) (x5 : D) : C15b v13 v14 v15 out3s x5 =
 cond (decide (D.toInt (D.cell x5 0) = 1))
 (opt (RUN E 28 [D.str (([35] : List UInt8)), D.int (D.toInt (D.cell x5 1))]) fun ρ1 =>
 cond (decide (List.length (D.toStr (List.getD ρ1 0 D.no)) + List.length (([32] : List UInt8)) ≤ lim))
 (opt (RUN E 29 [D.list (D.toList (D.cell x5 5)), D.bool false, D.bool false]) fun ρ3 =>
 cond (decide (List.length (D.toStr (List.getD ρ1 0 D.no) ++ ([32] : List UInt8)) + List.length (D.toStr (List.getD ρ3 0 D.no)) ≤ lim))
 (cond (fitL (List.length out3s) (List.length [D.str (D.toStr (List.getD ρ1 0 D.no) ++ ([32] : List UInt8) ++ D.toStr (List.getD ρ3 0 D.no))]))
 (L15a v13 v14 (IntKind.wrap IntKind.i64 (v15 + 1)) (out3s ++ [D.str (D.toStr (List.getD ρ1 0 D.no) ++ ([32] : List UInt8) ++ D.toStr (List.getD ρ3 0 D.no))]))
 (none))
 (none))
 (none))
 (cond (decide (D.toInt (D.cell x5 0) = 7))
 (cond (fitL (List.length out3s) (List.length [D.str (([45, 45, 45] : List UInt8))]))
 (L15a v13 v14 (IntKind.wrap IntKind.i64 (v15 + 1)) (out3s ++ [D.str (([45, 45, 45] : List UInt8))]))
 (none))
 (cond (decide (D.toInt (D.cell x5 0) = 3))
 (cond (decide (List.length (([96, 96, 96] : List UInt8)) + List.length (D.toStr (D.cell x5 3)) ≤ lim))
 (cond (fitL (List.length out3s) (List.length [D.str (([96, 96, 96] : List UInt8) ++ D.toStr (D.cell x5 3))]))
 (opt (RUN E 30 [D.str (D.toStr (D.cell x5 2))]) fun ρ5 =>
 cond (fitL (List.length (D.toList (List.getD ρ5 0 D.no))) (List.length [D.str (([96, 96, 96] : List UInt8))]))
 (cond (fitL (List.length (out3s ++ [D.str (([96, 96, 96] : List UInt8) ++ D.toStr (D.cell x5 3))])) (List.length (D.toList (List.getD ρ5 0 D.no) ++ [D.str (([96, 96, 96] : List UInt8))])))
 (L15a v13 v14 (IntKind.wrap IntKind.i64 (v15 + 1)) (out3s ++ [D.str (([96, 96, 96] : List UInt8) ++ D.toStr (D.cell x5 3))] ++ (D.toList (List.getD ρ5 0 D.no) ++ [D.str (([96, 96, 96] : List UInt8))])))
 (none))
 (none))
 (none))
 (none))
 (cond (decide (D.toInt (D.cell x5 0) = 2))
 (opt (RUN E 29 [D.list (D.toList (D.cell x5 5)), D.bool true, D.bool true]) fun ρ4 =>
 opt (RUN E 31 [D.str (D.toStr (List.getD ρ4 0 D.no)), D.str (([10] : List UInt8))]) fun ρ5 =>
 cond (fitL (List.length out3s) (List.length (D.toList (List.getD ρ5 0 D.no))))
 (L15a v13 v14 (IntKind.wrap IntKind.i64 (v15 + 1)) (out3s ++ D.toList (List.getD ρ5 0 D.no)))
 (none))
 (cond (decide (D.toInt (D.cell x5 0) = 8))
 (opt (RUN E 15 [D.list (D.toList (D.cell x5 5))]) fun ρ5 =>
 cond (fitL (List.length out3s) (List.length (D.toList (List.getD ρ5 0 D.no))))
 (L15a v13 v14 (IntKind.wrap IntKind.i64 (v15 + 1)) (out3s ++ D.toList (List.getD ρ5 0 D.no)))
 (none))
 (cond (decide (D.toInt (D.cell x5 0) = 9))
 (L15c v13 v14 v15 (D.toList (D.cell x5 5)) ((↑(List.length (D.toList (D.cell x5 5))) : Int)) 0 out3s [])
 (cond (decide (D.toInt (D.cell x5 0) = 4))
 (opt (RUN E 15 [D.list (D.toList (D.cell x5 5))]) fun ρ7 =>
 L15d v13 v14 v15 (D.toList (List.getD ρ7 0 D.no)) ((↑(List.length (D.toList (List.getD ρ7 0 D.no))) : Int)) 0 out3s)
 (cond (decide (D.toInt (D.cell x5 0) = 5))
 (L15e v13 v14 v15 (D.toList (D.cell x5 5)) ((↑(List.length (D.toList (D.cell x5 5))) : Int)) 0 out3s x5)
 (L15a v13 v14 (IntKind.wrap IntKind.i64 (v15 + 1)) out3s)))))))) := (PART_eq _ _ _ _ _ _).trans (by kernel_rfl)
theorem round15c (v13 : List D) (v14 : Int) (v15 : Int) (v87 : List D) (v88 : Int) (v89 : Int) (out3s : List D) (cells6s : List D) : L15c v13 v14 v15 v87 v88 v89 out3s cells6s =
 cond (decide (v89 < v88))
 (cond (inb v89 (List.length v87))
 (opt (RUN E 29 [D.list (D.toList (D.cell (List.getD v87 (Int.toNat v89) D.no) 5)), D.bool false, D.bool false]) fun ρ2 =>
 cond (fitL (List.length cells6s) (List.length [D.str (D.toStr (List.getD ρ2 0 D.no))]))
 (L15c v13 v14 v15 v87 v88 (IntKind.wrap IntKind.i64 (v89 + 1)) out3s (cells6s ++ [D.str (D.toStr (List.getD ρ2 0 D.no))]))
 (none))
 (none))
 (opt (RUN E 32 [D.list cells6s, D.str (([32, 124, 32] : List UInt8))]) fun ρ1 =>
 cond (decide (List.length (([124, 32] : List UInt8)) + List.length (D.toStr (List.getD ρ1 0 D.no)) ≤ lim))
 (cond (decide (List.length (([124, 32] : List UInt8) ++ D.toStr (List.getD ρ1 0 D.no)) + List.length (([32, 124] : List UInt8)) ≤ lim))
 (cond (fitL (List.length out3s) (List.length [D.str (([124, 32] : List UInt8) ++ D.toStr (List.getD ρ1 0 D.no) ++ ([32, 124] : List UInt8))]))
 (L15a v13 v14 (IntKind.wrap IntKind.i64 (v15 + 1)) (out3s ++ [D.str (([124, 32] : List UInt8) ++ D.toStr (List.getD ρ1 0 D.no) ++ ([32, 124] : List UInt8))]))
 (none))
 (none))
 (none)) := (LOOP_eq _ _ _ _ _ _).trans (by kernel_rfl)
theorem round15d (v13 : List D) (v14 : Int) (v15 : Int) (v111 : List D) (v112 : Int) (v113 : Int) (out3s : List D) : L15d v13 v14 v15 v111 v112 v113 out3s =
 cond (decide (v113 < v112))
 (cond (inb v113 (List.length v111))
 (cond (decide (D.toStr (List.getD v111 (Int.toNat v113) D.no) = ([] : List UInt8)))
 (cond (fitL (List.length out3s) (List.length [D.str (([62] : List UInt8))]))
 (L15d v13 v14 v15 v111 v112 (IntKind.wrap IntKind.i64 (v113 + 1)) (out3s ++ [D.str (([62] : List UInt8))]))
 (none))
 (cond (decide (List.length (([62, 32] : List UInt8)) + List.length (D.toStr (List.getD v111 (Int.toNat v113) D.no)) ≤ lim))
 (cond (fitL (List.length out3s) (List.length [D.str (([62, 32] : List UInt8) ++ D.toStr (List.getD v111 (Int.toNat v113) D.no))]))
 (L15d v13 v14 v15 v111 v112 (IntKind.wrap IntKind.i64 (v113 + 1)) (out3s ++ [D.str (([62, 32] : List UInt8) ++ D.toStr (List.getD v111 (Int.toNat v113) D.no))]))
 (none))
 (none)))
 (none))
 (L15a v13 v14 (IntKind.wrap IntKind.i64 (v15 + 1)) out3s) := (LOOP_eq _ _ _ _ _ _).trans (by kernel_rfl)
theorem round15e (v13 : List D) (v14 : Int) (v15 : Int) (v131 : List D) (v132 : Int) (v133 : Int) (out3s : List D) (x5 : D) : L15e v13 v14 v15 v131 v132 v133 out3s x5 =
 cond (decide (v133 < v132))
 (cond (inb v133 (List.length v131))
 (opt (RUN E 33 [D.int (D.toInt (D.cell x5 1)), D.int v133, List.getD v131 (Int.toNat v133) D.no]) fun ρ2 =>
 cond (fitL (List.length out3s) (List.length (D.toList (List.getD ρ2 0 D.no))))
 (L15e v13 v14 v15 v131 v132 (IntKind.wrap IntKind.i64 (v133 + 1)) (out3s ++ D.toList (List.getD ρ2 0 D.no)) x5)
 (none))
 (none))
 (L15a v13 v14 (IntKind.wrap IntKind.i64 (v15 + 1)) out3s) := (LOOP_eq _ _ _ _ _ _).trans (by kernel_rfl)
/-! masthead/mark.count -/
def h16a (l0 : List D) (n3 : Int) (v6 : Int) (v7 : Int) : St := mkSt 28 [(0, SV.val (KT.slice 37) (D.list l0)), (3, SV.val (KT.int IntKind.i64) (D.int n3)), (6, SV.val (KT.int IntKind.i64) (D.int v6)), (7, SV.val (KT.int IntKind.i64) (D.int v7))] []
noncomputable def L16a (l0 : List D) (n3 : Int) (v6 : Int) (v7 : Int) : R := LOOP E (RUN E) 16 Tryz.f16 [1, 1, 0, 1, 0] (h16a l0 n3 v6 v7)
theorem enter16 (l0 : List D) : RUN E 16 [D.list l0] =
 L16a l0 0 ((↑(List.length l0) : Int)) 0 := (RUN_eq _ _ _).trans (by kernel_rfl)
theorem round16a (l0 : List D) (n3 : Int) (v6 : Int) (v7 : Int) : L16a l0 n3 v6 v7 =
 cond (decide (v7 < v6))
 (cond (decide (4000 < IntKind.wrap IntKind.i64 (n3 + 1)))
 (some [D.int (IntKind.wrap IntKind.i64 (n3 + 1))])
 (cond (inb v7 (List.length l0))
 (opt (RUN E 16 [D.list (D.toList (D.cell (List.getD l0 (Int.toNat v7) D.no) 5))]) fun ρ3 =>
 cond (decide (4000 < IntKind.wrap IntKind.i64 (IntKind.wrap IntKind.i64 (n3 + 1) + D.toInt (List.getD ρ3 0 D.no))))
 (some [D.int (IntKind.wrap IntKind.i64 (IntKind.wrap IntKind.i64 (n3 + 1) + D.toInt (List.getD ρ3 0 D.no)))])
 (L16a l0 (IntKind.wrap IntKind.i64 (IntKind.wrap IntKind.i64 (n3 + 1) + D.toInt (List.getD ρ3 0 D.no))) v6 (IntKind.wrap IntKind.i64 (v7 + 1))))
 (none)))
 (some [D.int n3]) := (LOOP_eq _ _ _ _ _ _).trans (by kernel_rfl)
/-! masthead/mark.tooDeep -/
def h17a (l0 : List D) (blocks1 : Int) (inline2 : Int) (v11 : Int) (v12 : Int) : St := mkSt 44 [(0, SV.val (KT.slice 37) (D.list l0)), (1, SV.val (KT.int IntKind.i64) (D.int blocks1)), (2, SV.val (KT.int IntKind.i64) (D.int inline2)), (11, SV.val (KT.int IntKind.i64) (D.int v11)), (12, SV.val (KT.int IntKind.i64) (D.int v12))] []
noncomputable def L17a (l0 : List D) (blocks1 : Int) (inline2 : Int) (v11 : Int) (v12 : Int) : R := LOOP E (RUN E) 17 Tryz.f17 [1, 0, 1, 0] (h17a l0 blocks1 inline2 v11 v12)
theorem enter17 (l0 : List D) (blocks1 : Int) (inline2 : Int) : RUN E 17 [D.list l0, D.int blocks1, D.int inline2] =
 L17a l0 blocks1 inline2 ((↑(List.length l0) : Int)) 0 := (RUN_eq _ _ _).trans (by kernel_rfl)
theorem round17a (l0 : List D) (blocks1 : Int) (inline2 : Int) (v11 : Int) (v12 : Int) : L17a l0 blocks1 inline2 v11 v12 =
 cond (decide (v12 < v11))
 (cond (inb v12 (List.length l0))
 (opt (RUN E 34 [D.int (D.toInt (D.cell (List.getD l0 (Int.toNat v12) D.no) 0))]) fun ρ2 =>
 cond (D.toBool (List.getD ρ2 0 D.no))
 (cond (bif inb v12 (List.length l0) then true else bif bif bif decide (12 < blocks1) then true else decide (12 < IntKind.wrap IntKind.i64 (inline2 + 1)) then false else true then false else true)
 (opt (cond (bif bif decide (12 < blocks1) then true else decide (12 < IntKind.wrap IntKind.i64 (inline2 + 1)) then false else true)
 (RUN E 17 [D.list (D.toList (D.cell (List.getD l0 (Int.toNat v12) D.no) 5)), D.int blocks1, D.int (IntKind.wrap IntKind.i64 (inline2 + 1))])
 (some [])) fun ρ5 =>
 cond (bif bif decide (12 < blocks1) then true else decide (12 < IntKind.wrap IntKind.i64 (inline2 + 1)) then true else D.toBool (List.getD ρ5 0 D.no))
 (some [D.bool true])
 (L17a l0 blocks1 inline2 v11 (IntKind.wrap IntKind.i64 (v12 + 1))))
 (none))
 (cond (bif inb v12 (List.length l0) then true else bif bif bif decide (12 < IntKind.wrap IntKind.i64 (blocks1 + 1)) then true else decide (12 < inline2) then false else true then false else true)
 (opt (cond (bif bif decide (12 < IntKind.wrap IntKind.i64 (blocks1 + 1)) then true else decide (12 < inline2) then false else true)
 (RUN E 17 [D.list (D.toList (D.cell (List.getD l0 (Int.toNat v12) D.no) 5)), D.int (IntKind.wrap IntKind.i64 (blocks1 + 1)), D.int inline2])
 (some [])) fun ρ5 =>
 cond (bif bif decide (12 < IntKind.wrap IntKind.i64 (blocks1 + 1)) then true else decide (12 < inline2) then true else D.toBool (List.getD ρ5 0 D.no))
 (some [D.bool true])
 (L17a l0 blocks1 inline2 v11 (IntKind.wrap IntKind.i64 (v12 + 1))))
 (none)))
 (none))
 (some [D.bool false]) := (LOOP_eq _ _ _ _ _ _).trans (by kernel_rfl)
/-! masthead/mark.nodesFault -/
def h18a (in1 : Int) (v9 : List D) (v10 : Int) (v11 : Int) : St := mkSt 30 [(1, SV.val (KT.int IntKind.i64) (D.int in1)), (9, SV.val (KT.slice 37) (D.list v9)), (10, SV.val (KT.int IntKind.i64) (D.int v10)), (11, SV.val (KT.int IntKind.i64) (D.int v11))] []
noncomputable def L18a (in1 : Int) (v9 : List D) (v10 : Int) (v11 : Int) : R := LOOP E (RUN E) 18 Tryz.f18 [1, 0, 1, 0] (h18a in1 v9 v10 v11)
theorem enter18 (l0 : List D) (in1 : Int) : RUN E 18 [D.list l0, D.int in1] =
 L18a in1 l0 ((↑(List.length l0) : Int)) 0 := (RUN_eq _ _ _).trans (by kernel_rfl)
theorem round18a (in1 : Int) (v9 : List D) (v10 : Int) (v11 : Int) : L18a in1 v9 v10 v11 =
 cond (decide (v11 < v10))
 (cond (inb v11 (List.length v9))
 (opt (RUN E 35 [List.getD v9 (Int.toNat v11) D.no, D.int in1]) fun ρ2 =>
 cond (bif decide (D.toInt (List.getD ρ2 0 D.no) = 0) then false else true)
 (some [D.int (D.toInt (List.getD ρ2 0 D.no))])
 (opt (RUN E 18 [D.list (D.toList (D.cell (List.getD v9 (Int.toNat v11) D.no) 5)), D.int (D.toInt (D.cell (List.getD v9 (Int.toNat v11) D.no) 0))]) fun ρ4 =>
 cond (bif decide (D.toInt (List.getD ρ4 0 D.no) = 0) then false else true)
 (some [D.int (D.toInt (List.getD ρ4 0 D.no))])
 (L18a in1 v9 v10 (IntKind.wrap IntKind.i64 (v11 + 1)))))
 (none))
 (some [D.int 0]) := (LOOP_eq _ _ _ _ _ _).trans (by kernel_rfl)
/-! masthead/mark.blockFits -/
theorem enter19 (n0 : D) : RUN E 19 [n0] =
 cond (decide (D.toInt (D.cell n0 0) = 7))
 (some [D.bool true])
 (cond (decide (D.toInt (D.cell n0 0) = 3))
 (opt (RUN E 36 [n0]) fun ρ2 =>
 some [D.bool (D.toBool (List.getD ρ2 0 D.no))])
 (cond (decide (D.toInt (D.cell n0 0) = 1))
 (opt (RUN E 37 [D.list (D.toList (D.cell n0 5)), D.int (D.toInt (D.cell n0 0))]) fun ρ3 =>
 some [D.bool (D.toBool (List.getD ρ3 0 D.no))])
 (cond (decide (D.toInt (D.cell n0 0) = 2))
 (opt (cond (bif decide (0 < (↑(List.length (D.toList (D.cell n0 5))) : Int)) then true else false)
 (RUN E 37 [D.list (D.toList (D.cell n0 5)), D.int (D.toInt (D.cell n0 0))])
 (some [])) fun ρ4 =>
 some [D.bool (bif decide (0 < (↑(List.length (D.toList (D.cell n0 5))) : Int)) then D.toBool (List.getD ρ4 0 D.no) else false)])
 (cond (decide (D.toInt (D.cell n0 0) = 10))
 (opt (RUN E 37 [D.list (D.toList (D.cell n0 5)), D.int (D.toInt (D.cell n0 0))]) fun ρ5 =>
 some [D.bool (D.toBool (List.getD ρ5 0 D.no))])
 (opt (cond (bif decide (0 < (↑(List.length (D.toList (D.cell n0 5))) : Int)) then true else false)
 (RUN E 9 [D.list (D.toList (D.cell n0 5))])
 (some [])) fun ρ5 =>
 some [D.bool (bif decide (0 < (↑(List.length (D.toList (D.cell n0 5))) : Int)) then D.toBool (List.getD ρ5 0 D.no) else false)]))))) := (RUN_eq _ _ _).trans (by kernel_rfl)
/-! (*strings.Builder).WriteByte -/
theorem enter20 (b0c1 : List D) (c1 : Int) : RUN E 20 [D.agg [D.no, D.list b0c1], D.int c1] =
 opt (RUN E 38 [D.agg [D.no, D.list b0c1]]) fun ρ0 =>
 cond (fitL (List.length (D.toList (D.cell (List.getD ρ0 0 D.no) 1))) (List.length [D.int c1]))
 (some [D.no, D.agg [D.no, D.list (D.toList (D.cell (List.getD ρ0 0 D.no) 1) ++ [D.int c1])]])
 (none) := (RUN_eq _ _ _).trans (by kernel_rfl)
/-! masthead/mark.printedBlock -/
def h22a (v52 : List D) (v53 : Int) (v54 : Int) (x700321s : List D) : St := mkSt 82 [(5, SV.bptr 5 42 0 (KT.agg 42)), (52, SV.val (KT.slice 37) (D.list v52)), (53, SV.val (KT.int IntKind.i64) (D.int v53)), (54, SV.val (KT.int IntKind.i64) (D.int v54))] [(5, Obj.box 42 (BC.cells [SV.selfn 5, SV.own 700321])), (700321, Obj.arr 5 x700321s)]
noncomputable def L22a (v52 : List D) (v53 : Int) (v54 : Int) (x700321s : List D) : R := LOOP E (RUN E) 22 Tryz.f22 [1, 0, 1, 0, 1, 1, 1, 1, 1, 1, 1, 1, 1, 1, 1, 0, 1, 0, 1, 0] (h22a v52 v53 v54 x700321s)
def h22b (v52 : List D) (v53 : Int) (v54 : Int) (v59 : List D) (v60 : Int) (v61 : Int) (x700321s : List D) : St := mkSt 82 [(5, SV.bptr 5 42 0 (KT.agg 42)), (52, SV.val (KT.slice 37) (D.list v52)), (53, SV.val (KT.int IntKind.i64) (D.int v53)), (54, SV.val (KT.int IntKind.i64) (D.int v54)), (59, SV.val (KT.slice 37) (D.list v59)), (60, SV.val (KT.int IntKind.i64) (D.int v60)), (61, SV.val (KT.int IntKind.i64) (D.int v61))] [(5, Obj.box 42 (BC.cells [SV.selfn 5, SV.own 700321])), (700321, Obj.arr 5 x700321s)]
noncomputable def L22b (v52 : List D) (v53 : Int) (v54 : Int) (v59 : List D) (v60 : Int) (v61 : Int) (x700321s : List D) : R := LOOP E (RUN E) 22 Tryz.f22 [1, 0, 1, 0, 1, 1, 1, 1, 1, 1, 1, 1, 1, 1, 1, 0, 1, 0, 1, 0, 0, 1, 1, 0, 0, 1, 0, 1, 0] (h22b v52 v53 v54 v59 v60 v61 x700321s)
theorem enter22 (n0 : D) : RUN E 22 [n0] =
 cond (decide (D.toInt (D.cell n0 0) = 1))
 (opt (RUN E 28 [D.str (([35] : List UInt8)), D.int (D.toInt (D.cell n0 1))]) fun ρ1 =>
 cond (decide (List.length (D.toStr (List.getD ρ1 0 D.no)) + List.length (([32] : List UInt8)) ≤ lim))
 (opt (RUN E 39 [D.list (D.toList (D.cell n0 5)), D.bool false]) fun ρ3 =>
 cond (decide (List.length (D.toStr (List.getD ρ1 0 D.no) ++ ([32] : List UInt8)) + List.length (D.toStr (List.getD ρ3 0 D.no)) ≤ lim))
 (cond (decide (List.length (D.toStr (List.getD ρ1 0 D.no) ++ ([32] : List UInt8) ++ D.toStr (List.getD ρ3 0 D.no)) + List.length (([10] : List UInt8)) ≤ lim))
 (some [D.str (D.toStr (List.getD ρ1 0 D.no) ++ ([32] : List UInt8) ++ D.toStr (List.getD ρ3 0 D.no) ++ ([10] : List UInt8))])
 (none))
 (none))
 (none))
 (cond (decide (D.toInt (D.cell n0 0) = 7))
 (some [D.str (([45, 45, 45, 10] : List UInt8))])
 (cond (decide (D.toInt (D.cell n0 0) = 3))
 (cond (decide (List.length (([96, 96, 96] : List UInt8)) + List.length (D.toStr (D.cell n0 3)) ≤ lim))
 (cond (decide (List.length (([96, 96, 96] : List UInt8) ++ D.toStr (D.cell n0 3)) + List.length (([10] : List UInt8)) ≤ lim))
 (cond (decide (List.length (([96, 96, 96] : List UInt8) ++ D.toStr (D.cell n0 3) ++ ([10] : List UInt8)) + List.length (D.toStr (D.cell n0 2)) ≤ lim))
 (cond (decide (List.length (([96, 96, 96] : List UInt8) ++ D.toStr (D.cell n0 3) ++ ([10] : List UInt8) ++ D.toStr (D.cell n0 2)) + List.length (([96, 96, 96, 10] : List UInt8)) ≤ lim))
 (some [D.str (([96, 96, 96] : List UInt8) ++ D.toStr (D.cell n0 3) ++ ([10] : List UInt8) ++ D.toStr (D.cell n0 2) ++ ([96, 96, 96, 10] : List UInt8))])
 (none))
 (none))
 (none))
 (none))
 (cond (decide (D.toInt (D.cell n0 0) = 4))
 (opt (RUN E 10 [D.list (D.toList (D.cell n0 5))]) fun ρ4 =>
 opt (RUN E 40 [D.str (D.toStr (List.getD ρ4 0 D.no)), D.str (([10] : List UInt8))]) fun ρ5 =>
 cond (D.toBool (List.getD ρ5 0 D.no))
 (opt (RUN E 41 [D.str (D.toStr (List.getD ρ4 0 D.no)), D.str (([62] : List UInt8)), D.str (([62] : List UInt8)), D.str (([62, 32] : List UInt8))]) fun ρ7 =>
 some [D.str (D.toStr (List.getD ρ7 0 D.no))])
 (opt (RUN E 41 [D.str (D.toStr (List.getD ρ4 0 D.no)), D.str (([62, 32] : List UInt8)), D.str (([62] : List UInt8)), D.str (([62, 32] : List UInt8))]) fun ρ7 =>
 some [D.str (D.toStr (List.getD ρ7 0 D.no))]))
 (cond (decide (D.toInt (D.cell n0 0) = 5))
 (opt (RUN E 42 [n0]) fun ρ5 =>
 some [D.str (D.toStr (List.getD ρ5 0 D.no))])
 (cond (decide (D.toInt (D.cell n0 0) = 8))
 (L22a (D.toList (D.cell n0 5)) ((↑(List.length (D.toList (D.cell n0 5))) : Int)) 0 [])
 (opt (RUN E 39 [D.list (D.toList (D.cell n0 5)), D.bool true]) fun ρ6 =>
 cond (decide (List.length (D.toStr (List.getD ρ6 0 D.no)) + List.length (([10] : List UInt8)) ≤ lim))
 (some [D.str (D.toStr (List.getD ρ6 0 D.no) ++ ([10] : List UInt8))])
 (none))))))) := (RUN_eq _ _ _).trans (by kernel_rfl)
theorem round22a (v52 : List D) (v53 : Int) (v54 : Int) (x700321s : List D) : L22a v52 v53 v54 x700321s =
 cond (decide (v54 < v53))
 (cond (inb v54 (List.length v52))
 (L22b v52 v53 v54 (D.toList (D.cell (List.getD v52 (Int.toNat v54) D.no) 5)) ((↑(List.length (D.toList (D.cell (List.getD v52 (Int.toNat v54) D.no) 5))) : Int)) 0 x700321s)
 (none))
 (opt (RUN E 23 [D.agg [D.no, D.list x700321s]]) fun ρ1 =>
 some [D.str (D.toStr (List.getD ρ1 0 D.no))]) := (LOOP_eq _ _ _ _ _ _).trans (by kernel_rfl)
theorem round22b (v52 : List D) (v53 : Int) (v54 : Int) (v59 : List D) (v60 : Int) (v61 : Int) (x700321s : List D) : L22b v52 v53 v54 v59 v60 v61 x700321s =
 cond (decide (v61 < v60))
 (cond (inb v61 (List.length v59))
 (cond (decide (v61 = 0))
 (opt (RUN E 21 [D.agg [D.no, D.list x700321s], D.str (([124, 32] : List UInt8))]) fun ρ3 =>
 opt (RUN E 39 [D.list (D.toList (D.cell (List.getD v59 (Int.toNat v61) D.no) 5)), D.bool false]) fun ρ4 =>
 opt (RUN E 21 [D.agg [D.no, D.list (D.toList (D.cell (List.getD ρ3 2 D.no) 1))], D.str (D.toStr (List.getD ρ4 0 D.no))]) fun ρ5 =>
 L22b v52 v53 v54 v59 v60 (IntKind.wrap IntKind.i64 (v61 + 1)) (D.toList (D.cell (List.getD ρ5 2 D.no) 1)))
 (opt (RUN E 21 [D.agg [D.no, D.list x700321s], D.str (([32, 124, 32] : List UInt8))]) fun ρ3 =>
 opt (RUN E 39 [D.list (D.toList (D.cell (List.getD v59 (Int.toNat v61) D.no) 5)), D.bool false]) fun ρ4 =>
 opt (RUN E 21 [D.agg [D.no, D.list (D.toList (D.cell (List.getD ρ3 2 D.no) 1))], D.str (D.toStr (List.getD ρ4 0 D.no))]) fun ρ5 =>
 L22b v52 v53 v54 v59 v60 (IntKind.wrap IntKind.i64 (v61 + 1)) (D.toList (D.cell (List.getD ρ5 2 D.no) 1))))
 (none))
 (opt (RUN E 21 [D.agg [D.no, D.list x700321s], D.str (([32, 124, 10] : List UInt8))]) fun ρ1 =>
 L22a v52 v53 (IntKind.wrap IntKind.i64 (v54 + 1)) (D.toList (D.cell (List.getD ρ1 2 D.no) 1))) := (LOOP_eq _ _ _ _ _ _).trans (by kernel_rfl)
/-! (*strings.Builder).WriteString -/
theorem enter21 (b0c1 : List D) (s1 : List UInt8) : RUN E 21 [D.agg [D.no, D.list b0c1], D.str s1] =
 opt (RUN E 38 [D.agg [D.no, D.list b0c1]]) fun ρ0 =>
 cond (fitL (List.length (D.toList (D.cell (List.getD ρ0 0 D.no) 1))) (List.length (bytesD s1)))
 (some [D.int (↑(List.length s1) : Int), D.no, D.agg [D.no, D.list (D.toList (D.cell (List.getD ρ0 0 D.no) 1) ++ bytesD s1)]])
 (none) := (RUN_eq _ _ _).trans (by kernel_rfl)
/-! masthead/mastref1.isInline -/
theorem enter24 (k0 : Int) : RUN E 24 [D.int k0] =
 some [D.bool (bif decide (11 ≤ k0) then decide (k0 ≤ 18) else false)] := (RUN_eq _ _ _).trans (by kernel_rfl)
/-! masthead/mastref1.nodeError -/
theorem enter25 (x0 : D) (parent1 : Int) : RUN E 25 [x0, D.int parent1] =
 opt (RUN E 43 [D.int parent1, D.int (D.toInt (D.cell x0 0))]) fun ρ0 =>
 cond (bif D.toBool (List.getD ρ0 0 D.no) then false else true)
 (some [D.int 10])
 (cond (bif bif decide (D.toInt (D.cell x0 0) = 1) then bif decide (D.toInt (D.cell x0 1) < 1) then true else decide (6 < D.toInt (D.cell x0 1)) else false then true else bif decide (D.toInt (D.cell x0 0) = 5) then bif decide (D.toInt (D.cell x0 1) < -1) then true else decide (9999 < D.toInt (D.cell x0 1)) else false)
 (some [D.int 2])
 (cond (bif bif bif bif bif bif bif decide (D.toInt (D.cell x0 0) = 1) then false else true then bif decide (D.toInt (D.cell x0 0) = 5) then false else true else false then bif decide (D.toInt (D.cell x0 1) = 0) then false else true else false then true else bif bif bif bif bif decide (D.toInt (D.cell x0 0) = 3) then true else decide (D.toInt (D.cell x0 0) = 11) then true else decide (D.toInt (D.cell x0 0) = 16) then true else decide (D.toInt (D.cell x0 0) = 18) then false else true then bif decide (D.toStr (D.cell x0 2) = ([] : List UInt8)) then false else true else false then true else bif bif bif bif decide (D.toInt (D.cell x0 0) = 3) then true else decide (D.toInt (D.cell x0 0) = 17) then true else decide (D.toInt (D.cell x0 0) = 18) then false else true then bif decide (D.toStr (D.cell x0 3) = ([] : List UInt8)) then false else true else false then true else bif bif bif decide (D.toInt (D.cell x0 0) = 17) then true else decide (D.toInt (D.cell x0 0) = 18) then false else true then bif decide (D.toStr (D.cell x0 4) = ([] : List UInt8)) then false else true else false then true else bif bif bif bif bif bif bif bif bif decide (D.toInt (D.cell x0 0) = 3) then false else true then bif decide (D.toInt (D.cell x0 0) = 7) then false else true else false then bif decide (D.toInt (D.cell x0 0) = 11) then false else true else false then bif decide (D.toInt (D.cell x0 0) = 12) then false else true else false then bif decide (D.toInt (D.cell x0 0) = 13) then false else true else false then bif decide (D.toInt (D.cell x0 0) = 16) then false else true else false then bif decide (D.toInt (D.cell x0 0) = 18) then false else true else false then false else true then decide (0 < (↑(List.length (D.toList (D.cell x0 5))) : Int)) else false)
 (some [D.int 1])
 (opt (RUN E 44 [D.str (D.toStr (D.cell x0 2)), D.bool true, D.bool (decide (D.toInt (D.cell x0 0) = 3))]) fun ρ4 =>
 opt (cond (bif D.toBool (List.getD ρ4 0 D.no) then false else true)
 (RUN E 44 [D.str (D.toStr (D.cell x0 3)), D.bool (decide (D.toInt (D.cell x0 0) = 3)), D.bool false])
 (some [])) fun ρ5 =>
 opt (cond (bif bif D.toBool (List.getD ρ4 0 D.no) then true else D.toBool (List.getD ρ5 0 D.no) then false else true)
 (RUN E 44 [D.str (D.toStr (D.cell x0 4)), D.bool true, D.bool false])
 (some [])) fun ρ6 =>
 cond (bif bif D.toBool (List.getD ρ4 0 D.no) then true else D.toBool (List.getD ρ5 0 D.no) then true else D.toBool (List.getD ρ6 0 D.no))
 (some [D.int 9])
 (some [D.int 0])))) := (RUN_eq _ _ _).trans (by kernel_rfl)
/-! masthead/mastref1.goodLine -/
theorem enter26 (x0 : D) : RUN E 26 [x0] =
 cond (decide (0 < (↑(List.length (D.toList (D.cell x0 5))) : Int)))
 (cond (inb 0 (List.length (D.toList (D.cell x0 5))))
 (opt (RUN E 45 [D.str (D.toStr (D.cell (List.getD (D.toList (D.cell x0 5)) 0 D.no) 2))]) fun ρ2 =>
 cond (inb (IntKind.wrap IntKind.i64 ((↑(List.length (D.toList (D.cell x0 5))) : Int) - 1)) (List.length (D.toList (D.cell x0 5))))
 (opt (RUN E 45 [D.str (D.toStr (D.cell (List.getD (D.toList (D.cell x0 5)) (Int.toNat (IntKind.wrap IntKind.i64 ((↑(List.length (D.toList (D.cell x0 5))) : Int) - 1))) D.no) 2))]) fun ρ4 =>
 cond (inb 0 (List.length (D.toList (D.cell x0 5))))
 (cond (bif inb (IntKind.wrap IntKind.i64 ((↑(List.length (D.toList (D.cell x0 5))) : Int) - 1)) (List.length (D.toList (D.cell x0 5))) then true else bif bif bif decide (D.toInt (D.cell (List.getD (D.toList (D.cell x0 5)) 0 D.no) 0) = 11) then D.toBool (List.getD ρ2 0 D.no) else false then false else true then false else true)
 (cond (bif bif decide (D.toInt (D.cell (List.getD (D.toList (D.cell x0 5)) 0 D.no) 0) = 11) then D.toBool (List.getD ρ2 0 D.no) else false then true else bif decide (D.toInt (D.cell (List.getD (D.toList (D.cell x0 5)) (Int.toNat (IntKind.wrap IntKind.i64 ((↑(List.length (D.toList (D.cell x0 5))) : Int) - 1))) D.no) 0) = 11) then D.toBool (List.getD ρ4 1 D.no) else false)
 (some [D.bool false])
 (opt (RUN E 46 [D.list (D.toList (D.cell x0 5)), D.int (D.toInt (D.cell x0 0)), D.agg [D.bool false, D.bool false, D.bool false, D.bool (decide (D.toInt (D.cell x0 0) = 10)), D.bool (decide (D.toInt (D.cell x0 0) = 2))]]) fun ρ8 =>
 some [D.bool (D.toBool (List.getD ρ8 0 D.no))]))
 (none))
 (none))
 (none))
 (none))
 (opt (RUN E 46 [D.list (D.toList (D.cell x0 5)), D.int (D.toInt (D.cell x0 0)), D.agg [D.bool false, D.bool false, D.bool false, D.bool (decide (D.toInt (D.cell x0 0) = 10)), D.bool (decide (D.toInt (D.cell x0 0) = 2))]]) fun ρ1 =>
 some [D.bool (D.toBool (List.getD ρ1 0 D.no))]) := (RUN_eq _ _ _).trans (by kernel_rfl)
/-! masthead/mastref1.goodFence -/
def h27a (v30 : List D) (v31 : Int) (v32 : Int) : St := mkSt 47 [(30, SV.val (KT.slice 9) (D.list v30)), (31, SV.val (KT.int IntKind.i64) (D.int v31)), (32, SV.val (KT.int IntKind.i64) (D.int v32))] []
noncomputable def L27a (v30 : List D) (v31 : Int) (v32 : Int) : R := LOOP E (RUN E) 27 Tryz.f27 [1, 1, 0, 1, 0] (h27a v30 v31 v32)
theorem enter27 (x0 : D) : RUN E 27 [x0] =
 opt (RUN E 45 [D.str (D.toStr (D.cell x0 3))]) fun ρ0 =>
 opt (cond (bif bif bif decide (D.toStr (D.cell x0 2) = ([] : List UInt8)) then false else true then true else false then bif bif D.toBool (List.getD ρ0 0 D.no) then true else D.toBool (List.getD ρ0 1 D.no) then false else true else false)
 (RUN E 47 [D.str (D.toStr (D.cell x0 2)), D.str (([10] : List UInt8))])
 (some [])) fun ρ1 =>
 cond (bif bif D.toBool (List.getD ρ0 0 D.no) then true else D.toBool (List.getD ρ0 1 D.no) then true else bif bif decide (D.toStr (D.cell x0 2) = ([] : List UInt8)) then false else true then bif D.toBool (List.getD ρ1 0 D.no) then false else true else false)
 (some [D.bool false])
 (opt (RUN E 30 [D.str (D.toStr (D.cell x0 2))]) fun ρ3 =>
 L27a (D.toList (List.getD ρ3 0 D.no)) ((↑(List.length (D.toList (List.getD ρ3 0 D.no))) : Int)) 0) := (RUN_eq _ _ _).trans (by kernel_rfl)
theorem round27a (v30 : List D) (v31 : Int) (v32 : Int) : L27a v30 v31 v32 =
 cond (decide (v32 < v31))
 (cond (inb v32 (List.length v30))
 (opt (cond (bif bif decide (D.toStr (List.getD v30 (Int.toNat v32) D.no) = ([] : List UInt8)) then false else true then true else false)
 (RUN E 48 [D.str (D.toStr (List.getD v30 (Int.toNat v32) D.no))])
 (some [])) fun ρ2 =>
 opt (cond (bif bif bif decide (D.toStr (List.getD v30 (Int.toNat v32) D.no) = ([] : List UInt8)) then false else true then D.toBool (List.getD ρ2 0 D.no) else false then false else true)
 (RUN E 49 [D.str (D.toStr (List.getD v30 (Int.toNat v32) D.no))])
 (some [])) fun ρ3 =>
 cond (bif bif bif decide (D.toStr (List.getD v30 (Int.toNat v32) D.no) = ([] : List UInt8)) then false else true then D.toBool (List.getD ρ2 0 D.no) else false then true else D.toBool (List.getD ρ3 0 D.no))
 (some [D.bool false])
 (L27a v30 v31 (IntKind.wrap IntKind.i64 (v32 + 1))))
 (none))
 (some [D.bool true]) := (LOOP_eq _ _ _ _ _ _).trans (by kernel_rfl)
/-! masthead/mastref1.printed -/
def h29a (para1 : Bool) (start2 : Bool) (out7 : List UInt8) (v12 : List D) (v13 : Int) (v14 : Int) : St := mkSt 119 [(1, SV.val KT.bool (D.bool para1)), (2, SV.val KT.bool (D.bool start2)), (7, SV.val KT.str (D.str out7)), (12, SV.val (KT.slice 37) (D.list v12)), (13, SV.val (KT.int IntKind.i64) (D.int v13)), (14, SV.val (KT.int IntKind.i64) (D.int v14))] []
noncomputable def L29a (para1 : Bool) (start2 : Bool) (out7 : List UInt8) (v12 : List D) (v13 : Int) (v14 : Int) : R := LOOP E (RUN E) 29 Tryz.f29 [1, 1, 0, 1, 0] (h29a para1 start2 out7 v12 v13 v14)
def h29b (para1 : Bool) (start2 : Bool) (out7 : List UInt8) (at10 : Bool) (target11 : List UInt8) (v12 : List D) (v13 : Int) (v14 : Int) (x9 : D) : St := mkSt 119 [(1, SV.val KT.bool (D.bool para1)), (2, SV.val KT.bool (D.bool start2)), (7, SV.val KT.str (D.str out7)), (9, SV.bptr 9 37 0 (KT.agg 37)), (10, SV.val KT.bool (D.bool at10)), (11, SV.val KT.str (D.str target11)), (12, SV.val (KT.slice 37) (D.list v12)), (13, SV.val (KT.int IntKind.i64) (D.int v13)), (14, SV.val (KT.int IntKind.i64) (D.int v14))] [(9, Obj.box 37 (BC.whole x9))]
noncomputable def C29b (para1 : Bool) (start2 : Bool) (out7 : List UInt8) (at10 : Bool) (target11 : List UInt8) (v12 : List D) (v13 : Int) (v14 : Int) (x9 : D) : R := PART E (RUN E) 29 Tryz.f29 [1, 1, 0, 1, 0, 0, 1, 1, 0, 0, 1, 1, 1, 1] (h29b para1 start2 out7 at10 target11 v12 v13 v14 x9)
theorem enter29 (l0 : List D) (para1 : Bool) (start2 : Bool) : RUN E 29 [D.list l0, D.bool para1, D.bool start2] =
 L29a para1 start2 (([] : List UInt8)) l0 ((↑(List.length l0) : Int)) 0 := (RUN_eq _ _ _).trans (by kernel_rfl)
theorem round29a (para1 : Bool) (start2 : Bool) (out7 : List UInt8) (v12 : List D) (v13 : Int) (v14 : Int) : L29a para1 start2 out7 v12 v13 v14 =
 cond (decide (v14 < v13))
 (cond (inb v14 (List.length v12))
 (opt (cond (bif bif start2 then decide (out7 = ([] : List UInt8)) else false then false else true)
 (RUN E 47 [D.str out7, D.str (([10] : List UInt8))])
 (some [])) fun ρ2 =>
 cond (bif decide (D.toStr (D.cell (List.getD v12 (Int.toNat v14) D.no) 4) = ([] : List UInt8)) then false else true)
 (cond (decide (List.length (([32, 34] : List UInt8)) + List.length (D.toStr (D.cell (List.getD v12 (Int.toNat v14) D.no) 4)) ≤ lim))
 (cond (decide (List.length (([32, 34] : List UInt8) ++ D.toStr (D.cell (List.getD v12 (Int.toNat v14) D.no) 4)) + List.length (([34] : List UInt8)) ≤ lim))
 (cond (decide (List.length (D.toStr (D.cell (List.getD v12 (Int.toNat v14) D.no) 3)) + List.length (([32, 34] : List UInt8) ++ D.toStr (D.cell (List.getD v12 (Int.toNat v14) D.no) 4) ++ ([34] : List UInt8)) ≤ lim))
 (C29b para1 start2 out7 (bif bif start2 then decide (out7 = ([] : List UInt8)) else false then true else D.toBool (List.getD ρ2 0 D.no)) (D.toStr (D.cell (List.getD v12 (Int.toNat v14) D.no) 3) ++ (([32, 34] : List UInt8) ++ D.toStr (D.cell (List.getD v12 (Int.toNat v14) D.no) 4) ++ ([34] : List UInt8))) v12 v13 v14 (List.getD v12 (Int.toNat v14) D.no))
 (none))
 (none))
 (none))
 (C29b para1 start2 out7 (bif bif start2 then decide (out7 = ([] : List UInt8)) else false then true else D.toBool (List.getD ρ2 0 D.no)) (D.toStr (D.cell (List.getD v12 (Int.toNat v14) D.no) 3)) v12 v13 v14 (List.getD v12 (Int.toNat v14) D.no)))
 (none))
 (some [D.str out7]) := (LOOP_eq _ _ _ _ _ _).trans (by kernel_rfl)
theorem round29b (para1 : Bool) (start2 : Bool) (out7 : List UInt8) (at10 : Bool) (target11 : List UInt8) (v12 : List D) (v13 : Int) (v14 : Int) (x9 : D) : C29b para1 start2 out7 at10 target11 v12 v13 v14 x9 =
 cond (decide (D.toInt (D.cell x9 0) = 11))
 (cond (bif para1 then at10 else false)
 (opt (RUN E 53 [D.str (D.toStr (D.cell x9 2))]) fun ρ2 =>
 cond (decide (List.length out7 + List.length (D.toStr (List.getD ρ2 0 D.no)) ≤ lim))
 (L29a para1 start2 (out7 ++ D.toStr (List.getD ρ2 0 D.no)) v12 v13 (IntKind.wrap IntKind.i64 (v14 + 1)))
 (none))
 (opt (RUN E 54 [D.str (D.toStr (D.cell x9 2)), D.str (([92, 96, 42, 91, 93, 33, 124] : List UInt8))]) fun ρ2 =>
 cond (decide (List.length out7 + List.length (D.toStr (List.getD ρ2 0 D.no)) ≤ lim))
 (L29a para1 start2 (out7 ++ D.toStr (List.getD ρ2 0 D.no)) v12 v13 (IntKind.wrap IntKind.i64 (v14 + 1)))
 (none)))
 (cond (decide (D.toInt (D.cell x9 0) = 12))
 (cond (decide (List.length out7 + List.length (([10] : List UInt8)) ≤ lim))
 (L29a para1 start2 (out7 ++ ([10] : List UInt8)) v12 v13 (IntKind.wrap IntKind.i64 (v14 + 1)))
 (none))
 (cond (decide (D.toInt (D.cell x9 0) = 13))
 (cond (decide (List.length out7 + List.length (([92, 10] : List UInt8)) ≤ lim))
 (L29a para1 start2 (out7 ++ ([92, 10] : List UInt8)) v12 v13 (IntKind.wrap IntKind.i64 (v14 + 1)))
 (none))
 (cond (decide (D.toInt (D.cell x9 0) = 16))
 (cond (decide (List.length (([96] : List UInt8)) + List.length (D.toStr (D.cell x9 2)) ≤ lim))
 (cond (decide (List.length (([96] : List UInt8) ++ D.toStr (D.cell x9 2)) + List.length (([96] : List UInt8)) ≤ lim))
 (cond (decide (List.length out7 + List.length (([96] : List UInt8) ++ D.toStr (D.cell x9 2) ++ ([96] : List UInt8)) ≤ lim))
 (L29a para1 start2 (out7 ++ (([96] : List UInt8) ++ D.toStr (D.cell x9 2) ++ ([96] : List UInt8))) v12 v13 (IntKind.wrap IntKind.i64 (v14 + 1)))
 (none))
 (none))
 (none))
 (cond (decide (D.toInt (D.cell x9 0) = 14))
 (opt (RUN E 29 [D.list (D.toList (D.cell x9 5)), D.bool para1, D.bool false]) fun ρ5 =>
 cond (decide (List.length (([42] : List UInt8)) + List.length (D.toStr (List.getD ρ5 0 D.no)) ≤ lim))
 (cond (decide (List.length (([42] : List UInt8) ++ D.toStr (List.getD ρ5 0 D.no)) + List.length (([42] : List UInt8)) ≤ lim))
 (cond (decide (List.length out7 + List.length (([42] : List UInt8) ++ D.toStr (List.getD ρ5 0 D.no) ++ ([42] : List UInt8)) ≤ lim))
 (L29a para1 start2 (out7 ++ (([42] : List UInt8) ++ D.toStr (List.getD ρ5 0 D.no) ++ ([42] : List UInt8))) v12 v13 (IntKind.wrap IntKind.i64 (v14 + 1)))
 (none))
 (none))
 (none))
 (cond (decide (D.toInt (D.cell x9 0) = 15))
 (opt (RUN E 29 [D.list (D.toList (D.cell x9 5)), D.bool para1, D.bool false]) fun ρ6 =>
 cond (decide (List.length (([42, 42] : List UInt8)) + List.length (D.toStr (List.getD ρ6 0 D.no)) ≤ lim))
 (cond (decide (List.length (([42, 42] : List UInt8) ++ D.toStr (List.getD ρ6 0 D.no)) + List.length (([42, 42] : List UInt8)) ≤ lim))
 (cond (decide (List.length out7 + List.length (([42, 42] : List UInt8) ++ D.toStr (List.getD ρ6 0 D.no) ++ ([42, 42] : List UInt8)) ≤ lim))
 (L29a para1 start2 (out7 ++ (([42, 42] : List UInt8) ++ D.toStr (List.getD ρ6 0 D.no) ++ ([42, 42] : List UInt8))) v12 v13 (IntKind.wrap IntKind.i64 (v14 + 1)))
 (none))
 (none))
 (none))
 (cond (decide (D.toInt (D.cell x9 0) = 17))
 (opt (RUN E 29 [D.list (D.toList (D.cell x9 5)), D.bool para1, D.bool false]) fun ρ7 =>
 cond (decide (List.length (([91] : List UInt8)) + List.length (D.toStr (List.getD ρ7 0 D.no)) ≤ lim))
 (cond (decide (List.length (([91] : List UInt8) ++ D.toStr (List.getD ρ7 0 D.no)) + List.length (([93, 40] : List UInt8)) ≤ lim))
 (cond (decide (List.length (([91] : List UInt8) ++ D.toStr (List.getD ρ7 0 D.no) ++ ([93, 40] : List UInt8)) + List.length target11 ≤ lim))
 (cond (decide (List.length (([91] : List UInt8) ++ D.toStr (List.getD ρ7 0 D.no) ++ ([93, 40] : List UInt8) ++ target11) + List.length (([41] : List UInt8)) ≤ lim))
 (cond (decide (List.length out7 + List.length (([91] : List UInt8) ++ D.toStr (List.getD ρ7 0 D.no) ++ ([93, 40] : List UInt8) ++ target11 ++ ([41] : List UInt8)) ≤ lim))
 (L29a para1 start2 (out7 ++ (([91] : List UInt8) ++ D.toStr (List.getD ρ7 0 D.no) ++ ([93, 40] : List UInt8) ++ target11 ++ ([41] : List UInt8))) v12 v13 (IntKind.wrap IntKind.i64 (v14 + 1)))
 (none))
 (none))
 (none))
 (none))
 (none))
 (cond (decide (D.toInt (D.cell x9 0) = 18))
 (opt (RUN E 54 [D.str (D.toStr (D.cell x9 2)), D.str (([92, 96, 91, 93] : List UInt8))]) fun ρ8 =>
 cond (decide (List.length (([33, 91] : List UInt8)) + List.length (D.toStr (List.getD ρ8 0 D.no)) ≤ lim))
 (cond (decide (List.length (([33, 91] : List UInt8) ++ D.toStr (List.getD ρ8 0 D.no)) + List.length (([93, 40] : List UInt8)) ≤ lim))
 (cond (decide (List.length (([33, 91] : List UInt8) ++ D.toStr (List.getD ρ8 0 D.no) ++ ([93, 40] : List UInt8)) + List.length target11 ≤ lim))
 (cond (decide (List.length (([33, 91] : List UInt8) ++ D.toStr (List.getD ρ8 0 D.no) ++ ([93, 40] : List UInt8) ++ target11) + List.length (([41] : List UInt8)) ≤ lim))
 (cond (decide (List.length out7 + List.length (([33, 91] : List UInt8) ++ D.toStr (List.getD ρ8 0 D.no) ++ ([93, 40] : List UInt8) ++ target11 ++ ([41] : List UInt8)) ≤ lim))
 (L29a para1 start2 (out7 ++ (([33, 91] : List UInt8) ++ D.toStr (List.getD ρ8 0 D.no) ++ ([93, 40] : List UInt8) ++ target11 ++ ([41] : List UInt8))) v12 v13 (IntKind.wrap IntKind.i64 (v14 + 1)))
 (none))
 (none))
 (none))
 (none))
 (none))
 (L29a para1 start2 out7 v12 v13 (IntKind.wrap IntKind.i64 (v14 + 1)))))))))) := (PART_eq _ _ _ _ _ _).trans (by kernel_rfl)
/-! masthead/mastref1.LinesOf -/
theorem enter30 (s0 : List UInt8) : RUN E 30 [D.str s0] =
 opt (RUN E 47 [D.str s0, D.str (([10] : List UInt8))]) fun ρ0 =>
 cond (D.toBool (List.getD ρ0 0 D.no))
 (cond (cutOk (List.length s0) none (some (IntKind.wrap IntKind.i64 ((↑(List.length s0) : Int) - 1))))
 (opt (RUN E 31 [D.str (cutL s0 none (some (IntKind.wrap IntKind.i64 ((↑(List.length s0) : Int) - 1)))), D.str (([10] : List UInt8))]) fun ρ3 =>
 some [D.list (D.toList (List.getD ρ3 0 D.no))])
 (none))
 (cond (decide (s0 = ([] : List UInt8)))
 (some [D.list []])
 (opt (RUN E 31 [D.str s0, D.str (([10] : List UInt8))]) fun ρ3 =>
 some [D.list (D.toList (List.getD ρ3 0 D.no))])) := (RUN_eq _ _ _).trans (by kernel_rfl)
/-! strings.Split -/
theorem enter31 (s0 : List UInt8) (sep1 : List UInt8) : RUN E 31 [D.str s0, D.str sep1] =
 opt (RUN E 55 [D.str s0, D.str sep1, D.int 0, D.int (-1)]) fun ρ0 =>
 some [D.list (D.toList (List.getD ρ0 0 D.no))] := (RUN_eq _ _ _).trans (by kernel_rfl)
/-! masthead/mastref1.itemLines -/
def h33a (sign7 : List UInt8) (item5 : D) : St := mkSt 51 [(5, SV.bptr 5 37 0 (KT.agg 37)), (7, SV.val KT.str (D.str sign7))] [(5, Obj.box 37 (BC.whole item5))]
noncomputable def C33a (sign7 : List UInt8) (item5 : D) : R := PART E (RUN E) 33 Tryz.f33 [1, 1, 1] (h33a sign7 item5)
def h33b (sign7 : List UInt8) (v23 : Int) (v24 : Int) (v21s : List D) : St := mkSt 51 [(7, SV.val KT.str (D.str sign7)), (8, SV.own 21), (22, SV.own 21), (23, SV.val (KT.int IntKind.i64) (D.int v23)), (24, SV.val (KT.int IntKind.i64) (D.int v24))] [(21, Obj.arr 9 v21s)]
noncomputable def L33b (sign7 : List UInt8) (v23 : Int) (v24 : Int) (v21s : List D) : R := LOOP E (RUN E) 33 Tryz.f33 [1, 1, 1, 1, 0, 1, 0] (h33b sign7 v23 v24 v21s)
theorem enter33 (level0 : Int) (k1 : Int) (item2 : D) : RUN E 33 [D.int level0, D.int k1, item2] =
 cond (decide (0 ≤ level0))
 (opt (RUN E 56 [D.int (mmInt false (IntKind.wrap IntKind.i64 (level0 + k1)) 9999)]) fun ρ1 =>
 cond (decide (List.length (D.toStr (List.getD ρ1 0 D.no)) + List.length (([46, 32] : List UInt8)) ≤ lim))
 (C33a (D.toStr (List.getD ρ1 0 D.no) ++ ([46, 32] : List UInt8)) item2)
 (none))
 (C33a (([45, 32] : List UInt8)) item2) := (RUN_eq _ _ _).trans (by kernel_rfl)
theorem round33a (sign7 : List UInt8) (item5 : D) : C33a sign7 item5 =
 opt (RUN E 15 [D.list (D.toList (D.cell item5 5))]) fun ρ0 =>
 L33b sign7 ((↑(List.length (D.toList (List.getD ρ0 0 D.no))) : Int)) 0 (D.toList (List.getD ρ0 0 D.no)) := (PART_eq _ _ _ _ _ _).trans (by kernel_rfl)
theorem round33b (sign7 : List UInt8) (v23 : Int) (v24 : Int) (v21s : List D) : L33b sign7 v23 v24 v21s =
 cond (decide (v24 < v23))
 (cond (inb v24 (List.length v21s))
 (cond (decide (v24 = 0))
 (cond (decide (List.length sign7 + List.length (D.toStr (List.getD v21s (Int.toNat v24) D.no)) ≤ lim))
 (cond (inb v24 (List.length v21s))
 (L33b sign7 v23 (IntKind.wrap IntKind.i64 (v24 + 1)) (List.set v21s (Int.toNat v24) (D.str (sign7 ++ D.toStr (List.getD v21s (Int.toNat v24) D.no)))))
 (none))
 (none))
 (cond (bif decide (D.toStr (List.getD v21s (Int.toNat v24) D.no) = ([] : List UInt8)) then false else true)
 (opt (RUN E 28 [D.str (([32] : List UInt8)), D.int (↑(List.length sign7) : Int)]) fun ρ4 =>
 cond (decide (List.length (D.toStr (List.getD ρ4 0 D.no)) + List.length (D.toStr (List.getD v21s (Int.toNat v24) D.no)) ≤ lim))
 (cond (inb v24 (List.length v21s))
 (L33b sign7 v23 (IntKind.wrap IntKind.i64 (v24 + 1)) (List.set v21s (Int.toNat v24) (D.str (D.toStr (List.getD ρ4 0 D.no) ++ D.toStr (List.getD v21s (Int.toNat v24) D.no)))))
 (none))
 (none))
 (L33b sign7 v23 (IntKind.wrap IntKind.i64 (v24 + 1)) v21s)))
 (none))
 (some [D.list v21s]) := (LOOP_eq _ _ _ _ _ _).trans (by kernel_rfl)
/-! masthead/mark.isInline -/
theorem enter34 (kind0 : Int) : RUN E 34 [D.int kind0] =
 some [D.bool (bif decide (11 ≤ kind0) then decide (kind0 ≤ 18) else false)] := (RUN_eq _ _ _).trans (by kernel_rfl)
/-! masthead/mark.nodeFault -/
theorem enter35 (n0 : D) (in1 : Int) : RUN E 35 [n0, D.int in1] =
 opt (RUN E 57 [D.int (D.toInt (D.cell n0 0)), D.int in1]) fun ρ0 =>
 cond (bif D.toBool (List.getD ρ0 0 D.no) then false else true)
 (some [D.int 10])
 (cond (bif bif decide (D.toInt (D.cell n0 0) = 1) then bif decide (D.toInt (D.cell n0 1) < 1) then true else decide (6 < D.toInt (D.cell n0 1)) else false then true else bif decide (D.toInt (D.cell n0 0) = 5) then bif decide (D.toInt (D.cell n0 1) < -1) then true else decide (9999 < D.toInt (D.cell n0 1)) else false)
 (some [D.int 2])
 (opt (RUN E 58 [D.int (D.toInt (D.cell n0 0))]) fun ρ3 =>
 opt (RUN E 59 [D.str (([76] : List UInt8)), D.bool (decide (D.toInt (D.cell n0 1) = 0)), D.str (D.toStr (List.getD ρ3 0 D.no))]) fun ρ4 =>
 opt (cond (bif D.toBool (List.getD ρ4 0 D.no) then false else true)
 (RUN E 59 [D.str (([84] : List UInt8)), D.bool (decide (D.toStr (D.cell n0 2) = ([] : List UInt8))), D.str (D.toStr (List.getD ρ3 0 D.no))])
 (some [])) fun ρ5 =>
 opt (cond (bif bif D.toBool (List.getD ρ4 0 D.no) then true else D.toBool (List.getD ρ5 0 D.no) then false else true)
 (RUN E 59 [D.str (([68] : List UInt8)), D.bool (decide (D.toStr (D.cell n0 3) = ([] : List UInt8))), D.str (D.toStr (List.getD ρ3 0 D.no))])
 (some [])) fun ρ6 =>
 opt (cond (bif bif bif D.toBool (List.getD ρ4 0 D.no) then true else D.toBool (List.getD ρ5 0 D.no) then true else D.toBool (List.getD ρ6 0 D.no) then false else true)
 (RUN E 59 [D.str (([78] : List UInt8)), D.bool (decide (D.toStr (D.cell n0 4) = ([] : List UInt8))), D.str (D.toStr (List.getD ρ3 0 D.no))])
 (some [])) fun ρ7 =>
 opt (cond (bif bif bif bif D.toBool (List.getD ρ4 0 D.no) then true else D.toBool (List.getD ρ5 0 D.no) then true else D.toBool (List.getD ρ6 0 D.no) then true else D.toBool (List.getD ρ7 0 D.no) then false else true)
 (RUN E 59 [D.str (([75] : List UInt8)), D.bool (decide ((↑(List.length (D.toList (D.cell n0 5))) : Int) = 0)), D.str (D.toStr (List.getD ρ3 0 D.no))])
 (some [])) fun ρ8 =>
 cond (bif bif bif bif D.toBool (List.getD ρ4 0 D.no) then true else D.toBool (List.getD ρ5 0 D.no) then true else D.toBool (List.getD ρ6 0 D.no) then true else D.toBool (List.getD ρ7 0 D.no) then true else D.toBool (List.getD ρ8 0 D.no))
 (some [D.int 1])
 (opt (RUN E 61 [n0]) fun ρ10 =>
 cond (D.toBool (List.getD ρ10 0 D.no))
 (some [D.int 9])
 (some [D.int 0])))) := (RUN_eq _ _ _).trans (by kernel_rfl)
/-! masthead/mark.fenceFits -/
def h36a (v24 : List D) (v25 : Int) (v26 : Int) : St := mkSt 41 [(24, SV.val (KT.slice 9) (D.list v24)), (25, SV.val (KT.int IntKind.i64) (D.int v25)), (26, SV.val (KT.int IntKind.i64) (D.int v26))] []
noncomputable def L36a (v24 : List D) (v25 : Int) (v26 : Int) : R := LOOP E (RUN E) 36 Tryz.f36 [1, 1, 0, 1, 0] (h36a v24 v25 v26)
theorem enter36 (n0 : D) : RUN E 36 [n0] =
 opt (cond (bif bif decide (D.toStr (D.cell n0 2) = ([] : List UInt8)) then false else true then true else false)
 (RUN E 47 [D.str (D.toStr (D.cell n0 2)), D.str (([10] : List UInt8))])
 (some [])) fun ρ0 =>
 opt (cond (bif bif bif decide (D.toStr (D.cell n0 2) = ([] : List UInt8)) then false else true then bif D.toBool (List.getD ρ0 0 D.no) then false else true else false then false else true)
 (RUN E 62 [D.str (D.toStr (D.cell n0 3))])
 (some [])) fun ρ1 =>
 cond (bif bif bif decide (D.toStr (D.cell n0 2) = ([] : List UInt8)) then false else true then bif D.toBool (List.getD ρ0 0 D.no) then false else true else false then true else bif decide (D.toStr (List.getD ρ1 0 D.no) = D.toStr (D.cell n0 3)) then false else true)
 (some [D.bool false])
 (opt (RUN E 63 [D.str (D.toStr (D.cell n0 2))]) fun ρ3 =>
 L36a (D.toList (List.getD ρ3 0 D.no)) ((↑(List.length (D.toList (List.getD ρ3 0 D.no))) : Int)) 0) := (RUN_eq _ _ _).trans (by kernel_rfl)
theorem round36a (v24 : List D) (v25 : Int) (v26 : Int) : L36a v24 v25 v26 =
 cond (decide (v26 < v25))
 (cond (inb v26 (List.length v24))
 (opt (cond (bif bif decide (D.toStr (List.getD v24 (Int.toNat v26) D.no) = ([] : List UInt8)) then false else true then true else false)
 (RUN E 64 [D.str (D.toStr (List.getD v24 (Int.toNat v26) D.no))])
 (some [])) fun ρ2 =>
 opt (cond (bif bif bif decide (D.toStr (List.getD v24 (Int.toNat v26) D.no) = ([] : List UInt8)) then false else true then D.toBool (List.getD ρ2 0 D.no) else false then false else true)
 (RUN E 65 [D.str (D.toStr (List.getD v24 (Int.toNat v26) D.no))])
 (some [])) fun ρ3 =>
 cond (bif bif bif decide (D.toStr (List.getD v24 (Int.toNat v26) D.no) = ([] : List UInt8)) then false else true then D.toBool (List.getD ρ2 0 D.no) else false then true else D.toBool (List.getD ρ3 0 D.no))
 (some [D.bool false])
 (L36a v24 v25 (IntKind.wrap IntKind.i64 (v26 + 1))))
 (none))
 (some [D.bool true]) := (LOOP_eq _ _ _ _ _ _).trans (by kernel_rfl)
/-! masthead/mark.lineFits -/
theorem enter37 (l0 : List D) (kind1 : Int) : RUN E 37 [D.list l0, D.int kind1] =
 cond (decide (0 < (↑(List.length l0) : Int)))
 (cond (inb 0 (List.length l0))
 (cond (inb (IntKind.wrap IntKind.i64 ((↑(List.length l0) : Int) - 1)) (List.length l0))
 (opt (RUN E 66 [List.getD l0 0 D.no]) fun ρ3 =>
 opt (cond (bif D.toBool (List.getD ρ3 0 D.no) then false else true)
 (RUN E 66 [List.getD l0 (Int.toNat (IntKind.wrap IntKind.i64 ((↑(List.length l0) : Int) - 1))) D.no])
 (some [])) fun ρ4 =>
 cond (bif inb 0 (List.length (D.toStr (D.cell (List.getD l0 0 D.no) 2))) then true else bif bif bif bif decide (D.toInt (D.cell (List.getD l0 0 D.no) 0) = 11) then bif decide (D.toStr (D.cell (List.getD l0 0 D.no) 2) = ([] : List UInt8)) then false else true else false then true else false then bif bif D.toBool (List.getD ρ3 0 D.no) then true else D.toBool (List.getD ρ4 0 D.no) then false else true else false then false else true)
 (opt (cond (bif bif bif decide (D.toInt (D.cell (List.getD l0 0 D.no) 0) = 11) then bif decide (D.toStr (D.cell (List.getD l0 0 D.no) 2) = ([] : List UInt8)) then false else true else false then true else false then bif bif D.toBool (List.getD ρ3 0 D.no) then true else D.toBool (List.getD ρ4 0 D.no) then false else true else false)
 (RUN E 67 [D.int (↑(UInt8.toNat (List.getD (D.toStr (D.cell (List.getD l0 0 D.no) 2)) 0 0)) : Int)])
 (some [])) fun ρ6 =>
 cond (bif inb (IntKind.wrap IntKind.i64 ((↑(List.length (D.toStr (D.cell (List.getD l0 (Int.toNat (IntKind.wrap IntKind.i64 ((↑(List.length l0) : Int) - 1))) D.no) 2))) : Int) - 1)) (List.length (D.toStr (D.cell (List.getD l0 (Int.toNat (IntKind.wrap IntKind.i64 ((↑(List.length l0) : Int) - 1))) D.no) 2))) then true else bif bif bif bif decide (D.toInt (D.cell (List.getD l0 (Int.toNat (IntKind.wrap IntKind.i64 ((↑(List.length l0) : Int) - 1))) D.no) 0) = 11) then bif decide (D.toStr (D.cell (List.getD l0 (Int.toNat (IntKind.wrap IntKind.i64 ((↑(List.length l0) : Int) - 1))) D.no) 2) = ([] : List UInt8)) then false else true else false then true else false then bif bif bif D.toBool (List.getD ρ3 0 D.no) then true else D.toBool (List.getD ρ4 0 D.no) then true else bif bif decide (D.toInt (D.cell (List.getD l0 0 D.no) 0) = 11) then bif decide (D.toStr (D.cell (List.getD l0 0 D.no) 2) = ([] : List UInt8)) then false else true else false then D.toBool (List.getD ρ6 0 D.no) else false then false else true else false then false else true)
 (opt (cond (bif bif bif decide (D.toInt (D.cell (List.getD l0 (Int.toNat (IntKind.wrap IntKind.i64 ((↑(List.length l0) : Int) - 1))) D.no) 0) = 11) then bif decide (D.toStr (D.cell (List.getD l0 (Int.toNat (IntKind.wrap IntKind.i64 ((↑(List.length l0) : Int) - 1))) D.no) 2) = ([] : List UInt8)) then false else true else false then true else false then bif bif bif D.toBool (List.getD ρ3 0 D.no) then true else D.toBool (List.getD ρ4 0 D.no) then true else bif bif decide (D.toInt (D.cell (List.getD l0 0 D.no) 0) = 11) then bif decide (D.toStr (D.cell (List.getD l0 0 D.no) 2) = ([] : List UInt8)) then false else true else false then D.toBool (List.getD ρ6 0 D.no) else false then false else true else false)
 (RUN E 67 [D.int (↑(UInt8.toNat (List.getD (D.toStr (D.cell (List.getD l0 (Int.toNat (IntKind.wrap IntKind.i64 ((↑(List.length l0) : Int) - 1))) D.no) 2)) (Int.toNat (IntKind.wrap IntKind.i64 ((↑(List.length (D.toStr (D.cell (List.getD l0 (Int.toNat (IntKind.wrap IntKind.i64 ((↑(List.length l0) : Int) - 1))) D.no) 2))) : Int) - 1))) 0)) : Int)])
 (some [])) fun ρ8 =>
 cond (bif bif bif D.toBool (List.getD ρ3 0 D.no) then true else D.toBool (List.getD ρ4 0 D.no) then true else bif bif decide (D.toInt (D.cell (List.getD l0 0 D.no) 0) = 11) then bif decide (D.toStr (D.cell (List.getD l0 0 D.no) 2) = ([] : List UInt8)) then false else true else false then D.toBool (List.getD ρ6 0 D.no) else false then true else bif bif decide (D.toInt (D.cell (List.getD l0 (Int.toNat (IntKind.wrap IntKind.i64 ((↑(List.length l0) : Int) - 1))) D.no) 0) = 11) then bif decide (D.toStr (D.cell (List.getD l0 (Int.toNat (IntKind.wrap IntKind.i64 ((↑(List.length l0) : Int) - 1))) D.no) 2) = ([] : List UInt8)) then false else true else false then D.toBool (List.getD ρ8 0 D.no) else false)
 (some [D.bool false])
 (opt (RUN E 68 [D.list l0, D.agg [D.bool false, D.bool false, D.bool false, D.int kind1]]) fun ρ10 =>
 some [D.bool (D.toBool (List.getD ρ10 0 D.no))]))
 (none))
 (none))
 (none))
 (none))
 (opt (RUN E 68 [D.list l0, D.agg [D.bool false, D.bool false, D.bool false, D.int kind1]]) fun ρ1 =>
 some [D.bool (D.toBool (List.getD ρ1 0 D.no))]) := (RUN_eq _ _ _).trans (by kernel_rfl)
/-! masthead/mark.printedLine -/
theorem enter39 (l0 : List D) (para1 : Bool) : RUN E 39 [D.list l0, D.bool para1] =
 opt (RUN E 70 [D.agg [D.list [], D.bool para1, D.bool para1], D.list l0]) fun ρ0 =>
 some [D.str (dBytes (D.toList (D.cell (List.getD ρ0 0 D.no) 0)))] := (RUN_eq _ _ _).trans (by kernel_rfl)
/-! strings.HasPrefix -/
theorem enter40 (s0 : List UInt8) (prefix1 : List UInt8) : RUN E 40 [D.str s0, D.str prefix1] =
 opt (RUN E 71 [D.str s0, D.str prefix1]) fun ρ0 =>
 some [D.bool (D.toBool (List.getD ρ0 0 D.no))] := (RUN_eq _ _ _).trans (by kernel_rfl)
/-! masthead/mark.prefixed -/
def h41a (first1 : List UInt8) (empty2 : List UInt8) (other3 : List UInt8) (v13 : List D) (v14 : Int) (v15 : Int) (x700577s : List D) : St := mkSt 37 [(1, SV.val KT.str (D.str first1)), (2, SV.val KT.str (D.str empty2)), (3, SV.val KT.str (D.str other3)), (9, SV.bptr 9 42 0 (KT.agg 42)), (13, SV.val (KT.slice 9) (D.list v13)), (14, SV.val (KT.int IntKind.i64) (D.int v14)), (15, SV.val (KT.int IntKind.i64) (D.int v15))] [(9, Obj.box 42 (BC.cells [SV.selfn 9, SV.own 700577])), (700577, Obj.arr 5 x700577s)]
noncomputable def L41a (first1 : List UInt8) (empty2 : List UInt8) (other3 : List UInt8) (v13 : List D) (v14 : Int) (v15 : Int) (x700577s : List D) : R := LOOP E (RUN E) 41 Tryz.f41 [1, 1, 0, 1, 0] (h41a first1 empty2 other3 v13 v14 v15 x700577s)
theorem enter41 (s0 : List UInt8) (first1 : List UInt8) (empty2 : List UInt8) (other3 : List UInt8) : RUN E 41 [D.str s0, D.str first1, D.str empty2, D.str other3] =
 opt (RUN E 63 [D.str s0]) fun ρ0 =>
 L41a first1 empty2 other3 (D.toList (List.getD ρ0 0 D.no)) ((↑(List.length (D.toList (List.getD ρ0 0 D.no))) : Int)) 0 [] := (RUN_eq _ _ _).trans (by kernel_rfl)
theorem round41a (first1 : List UInt8) (empty2 : List UInt8) (other3 : List UInt8) (v13 : List D) (v14 : Int) (v15 : Int) (x700577s : List D) : L41a first1 empty2 other3 v13 v14 v15 x700577s =
 cond (decide (v15 < v14))
 (cond (inb v15 (List.length v13))
 (cond (decide (v15 = 0))
 (opt (RUN E 21 [D.agg [D.no, D.list x700577s], D.str first1]) fun ρ3 =>
 opt (RUN E 21 [D.agg [D.no, D.list (D.toList (D.cell (List.getD ρ3 2 D.no) 1))], D.str (D.toStr (List.getD v13 (Int.toNat v15) D.no))]) fun ρ4 =>
 opt (RUN E 20 [D.agg [D.no, D.list (D.toList (D.cell (List.getD ρ4 2 D.no) 1))], D.int 10]) fun ρ5 =>
 L41a first1 empty2 other3 v13 v14 (IntKind.wrap IntKind.i64 (v15 + 1)) (D.toList (D.cell (List.getD ρ5 1 D.no) 1)))
 (cond (decide (D.toStr (List.getD v13 (Int.toNat v15) D.no) = ([] : List UInt8)))
 (opt (RUN E 21 [D.agg [D.no, D.list x700577s], D.str empty2]) fun ρ4 =>
 opt (RUN E 21 [D.agg [D.no, D.list (D.toList (D.cell (List.getD ρ4 2 D.no) 1))], D.str (D.toStr (List.getD v13 (Int.toNat v15) D.no))]) fun ρ5 =>
 opt (RUN E 20 [D.agg [D.no, D.list (D.toList (D.cell (List.getD ρ5 2 D.no) 1))], D.int 10]) fun ρ6 =>
 L41a first1 empty2 other3 v13 v14 (IntKind.wrap IntKind.i64 (v15 + 1)) (D.toList (D.cell (List.getD ρ6 1 D.no) 1)))
 (opt (RUN E 21 [D.agg [D.no, D.list x700577s], D.str other3]) fun ρ4 =>
 opt (RUN E 21 [D.agg [D.no, D.list (D.toList (D.cell (List.getD ρ4 2 D.no) 1))], D.str (D.toStr (List.getD v13 (Int.toNat v15) D.no))]) fun ρ5 =>
 opt (RUN E 20 [D.agg [D.no, D.list (D.toList (D.cell (List.getD ρ5 2 D.no) 1))], D.int 10]) fun ρ6 =>
 L41a first1 empty2 other3 v13 v14 (IntKind.wrap IntKind.i64 (v15 + 1)) (D.toList (D.cell (List.getD ρ6 1 D.no) 1)))))
 (none))
 (opt (RUN E 23 [D.agg [D.no, D.list x700577s]]) fun ρ1 =>
 some [D.str (D.toStr (List.getD ρ1 0 D.no))]) := (LOOP_eq _ _ _ _ _ _).trans (by kernel_rfl)
/-! masthead/mark.printedList -/
def h42a (v8 : List D) (v9 : Int) (v10 : Int) (n1 : D) (x700193s : List D) : St := mkSt 36 [(1, SV.bptr 1 37 0 (KT.agg 37)), (3, SV.bptr 3 42 0 (KT.agg 42)), (8, SV.val (KT.slice 37) (D.list v8)), (9, SV.val (KT.int IntKind.i64) (D.int v9)), (10, SV.val (KT.int IntKind.i64) (D.int v10))] [(1, Obj.box 37 (BC.whole n1)), (3, Obj.box 42 (BC.cells [SV.selfn 3, SV.own 700193])), (700193, Obj.arr 5 x700193s)]
noncomputable def L42a (v8 : List D) (v9 : Int) (v10 : Int) (n1 : D) (x700193s : List D) : R := LOOP E (RUN E) 42 Tryz.f42 [1, 1, 0, 1, 0] (h42a v8 v9 v10 n1 x700193s)
theorem enter42 (n0 : D) : RUN E 42 [n0] =
 L42a (D.toList (D.cell n0 5)) ((↑(List.length (D.toList (D.cell n0 5))) : Int)) 0 n0 [] := (RUN_eq _ _ _).trans (by kernel_rfl)
theorem round42a (v8 : List D) (v9 : Int) (v10 : Int) (n1 : D) (x700193s : List D) : L42a v8 v9 v10 n1 x700193s =
 cond (decide (v10 < v9))
 (cond (inb v10 (List.length v8))
 (cond (decide (0 ≤ D.toInt (D.cell n1 1)))
 (opt (RUN E 56 [D.int (mmInt false (IntKind.wrap IntKind.i64 (D.toInt (D.cell n1 1) + v10)) 9999)]) fun ρ3 =>
 cond (decide (List.length (D.toStr (List.getD ρ3 0 D.no)) + List.length (([46, 32] : List UInt8)) ≤ lim))
 (opt (RUN E 10 [D.list (D.toList (D.cell (List.getD v8 (Int.toNat v10) D.no) 5))]) fun ρ5 =>
 opt (RUN E 28 [D.str (([32] : List UInt8)), D.int (↑(List.length (D.toStr (List.getD ρ3 0 D.no) ++ ([46, 32] : List UInt8))) : Int)]) fun ρ6 =>
 opt (RUN E 41 [D.str (D.toStr (List.getD ρ5 0 D.no)), D.str (D.toStr (List.getD ρ3 0 D.no) ++ ([46, 32] : List UInt8)), D.str (([] : List UInt8)), D.str (D.toStr (List.getD ρ6 0 D.no))]) fun ρ7 =>
 opt (RUN E 21 [D.agg [D.no, D.list x700193s], D.str (D.toStr (List.getD ρ7 0 D.no))]) fun ρ8 =>
 L42a v8 v9 (IntKind.wrap IntKind.i64 (v10 + 1)) n1 (D.toList (D.cell (List.getD ρ8 2 D.no) 1)))
 (none))
 (opt (RUN E 10 [D.list (D.toList (D.cell (List.getD v8 (Int.toNat v10) D.no) 5))]) fun ρ3 =>
 opt (RUN E 28 [D.str (([32] : List UInt8)), D.int (↑(List.length (([45, 32] : List UInt8))) : Int)]) fun ρ4 =>
 opt (RUN E 41 [D.str (D.toStr (List.getD ρ3 0 D.no)), D.str (([45, 32] : List UInt8)), D.str (([] : List UInt8)), D.str (D.toStr (List.getD ρ4 0 D.no))]) fun ρ5 =>
 opt (RUN E 21 [D.agg [D.no, D.list x700193s], D.str (D.toStr (List.getD ρ5 0 D.no))]) fun ρ6 =>
 L42a v8 v9 (IntKind.wrap IntKind.i64 (v10 + 1)) n1 (D.toList (D.cell (List.getD ρ6 2 D.no) 1))))
 (none))
 (opt (RUN E 23 [D.agg [D.no, D.list x700193s]]) fun ρ1 =>
 some [D.str (D.toStr (List.getD ρ1 0 D.no))]) := (LOOP_eq _ _ _ _ _ _).trans (by kernel_rfl)
/-! masthead/mastref1.permitted -/
theorem enter43 (parent0 : Int) (kind1 : Int) : RUN E 43 [D.int parent0, D.int kind1] =
 cond (decide (parent0 = 0))
 (cond (decide (parent0 = 0))
 (opt (RUN E 72 [D.int kind1]) fun ρ2 =>
 some [D.bool (bif bif bif D.toBool (List.getD ρ2 0 D.no) then !decide (kind1 = 6) else false then !decide (kind1 = 9) else false then !decide (kind1 = 10) else false)])
 (cond (decide (parent0 = 5))
 (some [D.bool (decide (kind1 = 6))])
 (cond (decide (parent0 = 8))
 (some [D.bool (decide (kind1 = 9))])
 (cond (decide (parent0 = 9))
 (some [D.bool (decide (kind1 = 10))])
 (cond (decide (parent0 = 1))
 (cond (decide (parent0 = 1))
 (opt (RUN E 24 [D.int kind1]) fun ρ7 =>
 some [D.bool (D.toBool (List.getD ρ7 0 D.no))])
 (some [D.bool false]))
 (cond (decide (parent0 = 2))
 (cond (decide (parent0 = 2))
 (opt (RUN E 24 [D.int kind1]) fun ρ8 =>
 some [D.bool (D.toBool (List.getD ρ8 0 D.no))])
 (some [D.bool false]))
 (cond (decide (parent0 = 10))
 (cond (decide (parent0 = 10))
 (opt (RUN E 24 [D.int kind1]) fun ρ9 =>
 some [D.bool (D.toBool (List.getD ρ9 0 D.no))])
 (some [D.bool false]))
 (cond (decide (parent0 = 14))
 (cond (decide (parent0 = 14))
 (opt (RUN E 24 [D.int kind1]) fun ρ10 =>
 some [D.bool (D.toBool (List.getD ρ10 0 D.no))])
 (some [D.bool false]))
 (cond (decide (parent0 = 15))
 (cond (decide (parent0 = 15))
 (opt (RUN E 24 [D.int kind1]) fun ρ11 =>
 some [D.bool (D.toBool (List.getD ρ11 0 D.no))])
 (some [D.bool false]))
 (cond (decide (parent0 = 17))
 (opt (RUN E 24 [D.int kind1]) fun ρ11 =>
 some [D.bool (D.toBool (List.getD ρ11 0 D.no))])
 (some [D.bool false])))))))))))
 (cond (decide (parent0 = 4))
 (cond (decide (parent0 = 4))
 (opt (RUN E 72 [D.int kind1]) fun ρ3 =>
 some [D.bool (bif bif bif D.toBool (List.getD ρ3 0 D.no) then !decide (kind1 = 6) else false then !decide (kind1 = 9) else false then !decide (kind1 = 10) else false)])
 (cond (decide (parent0 = 5))
 (some [D.bool (decide (kind1 = 6))])
 (cond (decide (parent0 = 8))
 (some [D.bool (decide (kind1 = 9))])
 (cond (decide (parent0 = 9))
 (some [D.bool (decide (kind1 = 10))])
 (cond (decide (parent0 = 1))
 (cond (decide (parent0 = 1))
 (opt (RUN E 24 [D.int kind1]) fun ρ8 =>
 some [D.bool (D.toBool (List.getD ρ8 0 D.no))])
 (some [D.bool false]))
 (cond (decide (parent0 = 2))
 (cond (decide (parent0 = 2))
 (opt (RUN E 24 [D.int kind1]) fun ρ9 =>
 some [D.bool (D.toBool (List.getD ρ9 0 D.no))])
 (some [D.bool false]))
 (cond (decide (parent0 = 10))
 (cond (decide (parent0 = 10))
 (opt (RUN E 24 [D.int kind1]) fun ρ10 =>
 some [D.bool (D.toBool (List.getD ρ10 0 D.no))])
 (some [D.bool false]))
 (cond (decide (parent0 = 14))
 (cond (decide (parent0 = 14))
 (opt (RUN E 24 [D.int kind1]) fun ρ11 =>
 some [D.bool (D.toBool (List.getD ρ11 0 D.no))])
 (some [D.bool false]))
 (cond (decide (parent0 = 15))
 (cond (decide (parent0 = 15))
 (opt (RUN E 24 [D.int kind1]) fun ρ12 =>
 some [D.bool (D.toBool (List.getD ρ12 0 D.no))])
 (some [D.bool false]))
 (cond (decide (parent0 = 17))
 (opt (RUN E 24 [D.int kind1]) fun ρ12 =>
 some [D.bool (D.toBool (List.getD ρ12 0 D.no))])
 (some [D.bool false])))))))))))
 (cond (decide (parent0 = 6))
 (opt (RUN E 72 [D.int kind1]) fun ρ3 =>
 some [D.bool (bif bif bif D.toBool (List.getD ρ3 0 D.no) then !decide (kind1 = 6) else false then !decide (kind1 = 9) else false then !decide (kind1 = 10) else false)])
 (cond (decide (parent0 = 5))
 (some [D.bool (decide (kind1 = 6))])
 (cond (decide (parent0 = 8))
 (some [D.bool (decide (kind1 = 9))])
 (cond (decide (parent0 = 9))
 (some [D.bool (decide (kind1 = 10))])
 (cond (decide (parent0 = 1))
 (cond (decide (parent0 = 1))
 (opt (RUN E 24 [D.int kind1]) fun ρ8 =>
 some [D.bool (D.toBool (List.getD ρ8 0 D.no))])
 (some [D.bool false]))
 (cond (decide (parent0 = 2))
 (cond (decide (parent0 = 2))
 (opt (RUN E 24 [D.int kind1]) fun ρ9 =>
 some [D.bool (D.toBool (List.getD ρ9 0 D.no))])
 (some [D.bool false]))
 (cond (decide (parent0 = 10))
 (cond (decide (parent0 = 10))
 (opt (RUN E 24 [D.int kind1]) fun ρ10 =>
 some [D.bool (D.toBool (List.getD ρ10 0 D.no))])
 (some [D.bool false]))
 (cond (decide (parent0 = 14))
 (cond (decide (parent0 = 14))
 (opt (RUN E 24 [D.int kind1]) fun ρ11 =>
 some [D.bool (D.toBool (List.getD ρ11 0 D.no))])
 (some [D.bool false]))
 (cond (decide (parent0 = 15))
 (cond (decide (parent0 = 15))
 (opt (RUN E 24 [D.int kind1]) fun ρ12 =>
 some [D.bool (D.toBool (List.getD ρ12 0 D.no))])
 (some [D.bool false]))
 (cond (decide (parent0 = 17))
 (opt (RUN E 24 [D.int kind1]) fun ρ12 =>
 some [D.bool (D.toBool (List.getD ρ12 0 D.no))])
 (some [D.bool false])))))))))))) := (RUN_eq _ _ _).trans (by kernel_rfl)
/-! masthead/mastref1.badBytes -/
def h44a (s0 : List UInt8) (tab1 : Bool) (feed2 : Bool) (i7 : Int) : St := mkSt 38 [(0, SV.val KT.str (D.str s0)), (1, SV.val KT.bool (D.bool tab1)), (2, SV.val KT.bool (D.bool feed2)), (7, SV.val (KT.int IntKind.i64) (D.int i7))] []
noncomputable def L44a (s0 : List UInt8) (tab1 : Bool) (feed2 : Bool) (i7 : Int) : R := LOOP E (RUN E) 44 Tryz.f44 [1, 0, 1, 0] (h44a s0 tab1 feed2 i7)
theorem enter44 (s0 : List UInt8) (tab1 : Bool) (feed2 : Bool) : RUN E 44 [D.str s0, D.bool tab1, D.bool feed2] =
 L44a s0 tab1 feed2 0 := (RUN_eq _ _ _).trans (by kernel_rfl)
theorem round44a (s0 : List UInt8) (tab1 : Bool) (feed2 : Bool) (i7 : Int) : L44a s0 tab1 feed2 i7 =
 cond (decide (i7 < (↑(List.length s0) : Int)))
 (cond (inb i7 (List.length s0))
 (cond (bif inb i7 (List.length s0) then true else bif bif bif tab1 then true else false then bif decide ((↑(UInt8.toNat (List.getD s0 (Int.toNat i7) 0)) : Int) < 32) then true else false else false then false else true)
 (cond (bif inb i7 (List.length s0) then true else bif bif bif feed2 then true else false then bif bif decide ((↑(UInt8.toNat (List.getD s0 (Int.toNat i7) 0)) : Int) < 32) then bif bif tab1 then decide ((↑(UInt8.toNat (List.getD s0 (Int.toNat i7) 0)) : Int) = 9) else false then false else true else false then true else false else false then false else true)
 (cond (bif bif decide ((↑(UInt8.toNat (List.getD s0 (Int.toNat i7) 0)) : Int) < 32) then bif bif tab1 then decide ((↑(UInt8.toNat (List.getD s0 (Int.toNat i7) 0)) : Int) = 9) else false then false else true else false then bif bif feed2 then decide ((↑(UInt8.toNat (List.getD s0 (Int.toNat i7) 0)) : Int) = 10) else false then false else true else false)
 (some [D.bool true])
 (L44a s0 tab1 feed2 (IntKind.wrap IntKind.i64 (i7 + 1))))
 (none))
 (none))
 (none))
 (some [D.bool false]) := (LOOP_eq _ _ _ _ _ _).trans (by kernel_rfl)
/-! masthead/mastref1.blankEnds -/
theorem enter45 (s0 : List UInt8) : RUN E 45 [D.str s0] =
 cond (bif inb 0 (List.length s0) then true else bif bif bif decide (s0 = ([] : List UInt8)) then false else true then true else false then false else true)
 (opt (cond (bif bif decide (s0 = ([] : List UInt8)) then false else true then true else false)
 (RUN E 73 [D.int (↑(UInt8.toNat (List.getD s0 0 0)) : Int)])
 (some [])) fun ρ1 =>
 cond (bif inb (IntKind.wrap IntKind.i64 ((↑(List.length s0) : Int) - 1)) (List.length s0) then true else bif bif bif decide (s0 = ([] : List UInt8)) then false else true then true else false then false else true)
 (opt (cond (bif bif decide (s0 = ([] : List UInt8)) then false else true then true else false)
 (RUN E 73 [D.int (↑(UInt8.toNat (List.getD s0 (Int.toNat (IntKind.wrap IntKind.i64 ((↑(List.length s0) : Int) - 1))) 0)) : Int)])
 (some [])) fun ρ3 =>
 some [D.bool (bif !decide (s0 = ([] : List UInt8)) then D.toBool (List.getD ρ1 0 D.no) else false), D.bool (bif !decide (s0 = ([] : List UInt8)) then D.toBool (List.getD ρ3 0 D.no) else false)])
 (none))
 (none) := (RUN_eq _ _ _).trans (by kernel_rfl)
/-! masthead/mastref1.goodInlines -/
def h46a (l0 : List D) (parent1 : Int) (v10 : List D) (v11 : Int) (v12 : Int) (w5 : D) : St := mkSt 68 [(0, SV.val (KT.slice 37) (D.list l0)), (1, SV.val (KT.int IntKind.i64) (D.int parent1)), (5, SV.bptr 5 69 0 (KT.agg 69)), (10, SV.val (KT.slice 37) (D.list v10)), (11, SV.val (KT.int IntKind.i64) (D.int v11)), (12, SV.val (KT.int IntKind.i64) (D.int v12))] [(5, Obj.box 69 (BC.whole w5))]
noncomputable def L46a (l0 : List D) (parent1 : Int) (v10 : List D) (v11 : Int) (v12 : Int) (w5 : D) : R := LOOP E (RUN E) 46 Tryz.f46 [1, 0, 1, 0] (h46a l0 parent1 v10 v11 v12 w5)
theorem enter46 (l0 : List D) (parent1 : Int) (w2 : D) : RUN E 46 [D.list l0, D.int parent1, w2] =
 L46a l0 parent1 l0 ((↑(List.length l0) : Int)) 0 w2 := (RUN_eq _ _ _).trans (by kernel_rfl)
theorem round46a (l0 : List D) (parent1 : Int) (v10 : List D) (v11 : Int) (v12 : Int) (w5 : D) : L46a l0 parent1 v10 v11 v12 w5 =
 cond (decide (v12 < v11))
 (cond (inb v12 (List.length v10))
 (opt (cond (bif bif decide (v12 = 0) then true else decide (v12 = IntKind.wrap IntKind.i64 ((↑(List.length l0) : Int) - 1)) then true else false)
 (RUN E 74 [D.int (D.toInt (D.cell (List.getD v10 (Int.toNat v12) D.no) 0))])
 (some [])) fun ρ2 =>
 opt (cond (bif bif D.toBool (List.getD ρ2 0 D.no) then false else true then bif bif decide (v12 = 0) then true else decide (v12 = IntKind.wrap IntKind.i64 ((↑(List.length l0) : Int) - 1)) then true else false else false)
 (RUN E 75 [D.int parent1])
 (some [])) fun ρ3 =>
 opt (cond (bif bif D.toBool (List.getD ρ3 0 D.no) then true else false then bif bif D.toBool (List.getD ρ2 0 D.no) then false else true then bif bif decide (v12 = 0) then true else decide (v12 = IntKind.wrap IntKind.i64 ((↑(List.length l0) : Int) - 1)) then true else false else false else false)
 (RUN E 75 [D.int (D.toInt (D.cell (List.getD v10 (Int.toNat v12) D.no) 0))])
 (some [])) fun ρ4 =>
 opt (cond (bif bif bif decide (v12 = 0) then true else decide (v12 = IntKind.wrap IntKind.i64 ((↑(List.length l0) : Int) - 1)) then bif D.toBool (List.getD ρ2 0 D.no) then true else bif D.toBool (List.getD ρ3 0 D.no) then D.toBool (List.getD ρ4 0 D.no) else false else false then false else true)
 (RUN E 74 [D.int (D.toInt (D.cell (List.getD v10 (Int.toNat v12) D.no) 0))])
 (some [])) fun ρ5 =>
 cond (bif bif bif decide (v12 = 0) then true else decide (v12 = IntKind.wrap IntKind.i64 ((↑(List.length l0) : Int) - 1)) then bif D.toBool (List.getD ρ2 0 D.no) then true else bif D.toBool (List.getD ρ3 0 D.no) then D.toBool (List.getD ρ4 0 D.no) else false else false then true else bif D.toBool (List.getD ρ5 0 D.no) then bif D.toBool (D.cell w5 4) then false else true else false)
 (some [D.bool false])
 (cond (bif inb (IntKind.wrap IntKind.i64 (v12 - 1)) (List.length l0) then true else bif bif decide (0 < v12) then true else false then false else true)
 (opt (cond (bif decide (0 < v12) then true else false)
 (RUN E 76 [List.getD l0 (Int.toNat (IntKind.wrap IntKind.i64 (v12 - 1))) D.no, List.getD v10 (Int.toNat v12) D.no])
 (some [])) fun ρ8 =>
 cond (bif decide (0 < v12) then bif D.toBool (List.getD ρ8 0 D.no) then false else true else false)
 (some [D.bool false])
 (opt (RUN E 77 [List.getD v10 (Int.toNat v12) D.no, w5]) fun ρ10 =>
 cond (bif D.toBool (List.getD ρ10 0 D.no) then false else true)
 (some [D.bool false])
 (L46a l0 parent1 v10 v11 (IntKind.wrap IntKind.i64 (v12 + 1)) w5)))
 (none)))
 (none))
 (some [D.bool true]) := (LOOP_eq _ _ _ _ _ _).trans (by kernel_rfl)
/-! strings.HasSuffix -/
theorem enter47 (s0 : List UInt8) (suffix1 : List UInt8) : RUN E 47 [D.str s0, D.str suffix1] =
 opt (RUN E 78 [D.str s0, D.str suffix1]) fun ρ0 =>
 some [D.bool (D.toBool (List.getD ρ0 0 D.no))] := (RUN_eq _ _ _).trans (by kernel_rfl)
/-! masthead/mastref1.empty -/
theorem enter48 (s0 : List UInt8) : RUN E 48 [D.str s0] =
 opt (RUN E 79 [D.str s0]) fun ρ0 =>
 some [D.bool (decide (D.toStr (List.getD ρ0 0 D.no) = ([] : List UInt8)))] := (RUN_eq _ _ _).trans (by kernel_rfl)
/-! masthead/mastref1.fenceEnd -/
theorem enter49 (s0 : List UInt8) : RUN E 49 [D.str s0] =
 opt (RUN E 80 [D.str s0]) fun ρ0 =>
 cond (bif cutOk (List.length s0) (some 3) none then true else bif bif D.toBool (List.getD ρ0 0 D.no) then true else false then false else true)
 (opt (cond (bif D.toBool (List.getD ρ0 0 D.no) then true else false)
 (RUN E 48 [D.str (cutL s0 (some 3) none)])
 (some [])) fun ρ2 =>
 some [D.bool (bif D.toBool (List.getD ρ0 0 D.no) then D.toBool (List.getD ρ2 0 D.no) else false)])
 (none) := (RUN_eq _ _ _).trans (by kernel_rfl)
/-! masthead/mastref1.begun -/
def h53a (s0 : List UInt8) (k3 : Int) : St := mkSt 61 [(0, SV.val KT.str (D.str s0)), (3, SV.val (KT.int IntKind.i64) (D.int k3))] []
noncomputable def L53a (s0 : List UInt8) (k3 : Int) : R := LOOP E (RUN E) 53 Tryz.f53 [1, 1, 0, 0] (h53a s0 k3)
theorem enter53 (s0 : List UInt8) : RUN E 53 [D.str s0] =
 L53a s0 0 := (RUN_eq _ _ _).trans (by kernel_rfl)
theorem round53a (s0 : List UInt8) (k3 : Int) : L53a s0 k3 =
 cond (bif inb k3 (List.length s0) then true else bif bif decide (k3 < (↑(List.length s0) : Int)) then true else false then false else true)
 (opt (cond (bif decide (k3 < (↑(List.length s0) : Int)) then true else false)
 (RUN E 84 [D.int (↑(UInt8.toNat (List.getD s0 (Int.toNat k3) 0)) : Int)])
 (some [])) fun ρ1 =>
 cond (bif decide (k3 < (↑(List.length s0) : Int)) then D.toBool (List.getD ρ1 0 D.no) else false)
 (L53a s0 (IntKind.wrap IntKind.i64 (k3 + 1)))
 (cond (inb 0 (List.length s0))
 (cond (bif inb 0 (List.length s0) then true else bif bif decide ((↑(UInt8.toNat (List.getD s0 0 0)) : Int) = 35) then false else true then false else true)
 (cond (bif inb 0 (List.length s0) then true else bif bif bif decide ((↑(UInt8.toNat (List.getD s0 0 0)) : Int) = 35) then true else decide ((↑(UInt8.toNat (List.getD s0 0 0)) : Int) = 62) then false else true then false else true)
 (cond (bif bif decide ((↑(UInt8.toNat (List.getD s0 0 0)) : Int) = 35) then true else decide ((↑(UInt8.toNat (List.getD s0 0 0)) : Int) = 62) then true else decide ((↑(UInt8.toNat (List.getD s0 0 0)) : Int) = 45))
 (opt (RUN E 54 [D.str s0, D.str (([92, 96, 42, 91, 93, 33, 124] : List UInt8))]) fun ρ7 =>
 cond (decide (List.length (([92] : List UInt8)) + List.length (D.toStr (List.getD ρ7 0 D.no)) ≤ lim))
 (some [D.str (([92] : List UInt8) ++ D.toStr (List.getD ρ7 0 D.no))])
 (none))
 (cond (bif inb k3 (List.length s0) then true else bif bif bif bif decide (1 ≤ k3) then decide (k3 ≤ 4) else false then decide (k3 < (↑(List.length s0) : Int)) else false then true else false then false else true)
 (cond (bif bif bif decide (1 ≤ k3) then decide (k3 ≤ 4) else false then decide (k3 < (↑(List.length s0) : Int)) else false then decide ((↑(UInt8.toNat (List.getD s0 (Int.toNat k3) 0)) : Int) = 46) else false)
 (cond (cutOk (List.length s0) none (some k3))
 (cond (decide (List.length (cutL s0 none (some k3)) + List.length (([92] : List UInt8)) ≤ lim))
 (cond (cutOk (List.length s0) (some k3) none)
 (opt (RUN E 54 [D.str (cutL s0 (some k3) none), D.str (([92, 96, 42, 91, 93, 33, 124] : List UInt8))]) fun ρ12 =>
 cond (decide (List.length (cutL s0 none (some k3) ++ ([92] : List UInt8)) + List.length (D.toStr (List.getD ρ12 0 D.no)) ≤ lim))
 (some [D.str (cutL s0 none (some k3) ++ ([92] : List UInt8) ++ D.toStr (List.getD ρ12 0 D.no))])
 (none))
 (none))
 (none))
 (none))
 (opt (RUN E 54 [D.str s0, D.str (([92, 96, 42, 91, 93, 33, 124] : List UInt8))]) fun ρ9 =>
 some [D.str (D.toStr (List.getD ρ9 0 D.no))]))
 (none)))
 (none))
 (none))
 (none)))
 (none) := (LOOP_eq _ _ _ _ _ _).trans (by kernel_rfl)
/-! masthead/mastref1.escaped -/
def h54a (s0 : List UInt8) (bytes1 : List UInt8) (out5 : List UInt8) (i6 : Int) : St := mkSt 29 [(0, SV.val KT.str (D.str s0)), (1, SV.val KT.str (D.str bytes1)), (5, SV.val KT.str (D.str out5)), (6, SV.val (KT.int IntKind.i64) (D.int i6))] []
noncomputable def L54a (s0 : List UInt8) (bytes1 : List UInt8) (out5 : List UInt8) (i6 : Int) : R := LOOP E (RUN E) 54 Tryz.f54 [1, 1, 0, 1, 0] (h54a s0 bytes1 out5 i6)
theorem enter54 (s0 : List UInt8) (bytes1 : List UInt8) : RUN E 54 [D.str s0, D.str bytes1] =
 L54a s0 bytes1 (([] : List UInt8)) 0 := (RUN_eq _ _ _).trans (by kernel_rfl)
theorem round54a (s0 : List UInt8) (bytes1 : List UInt8) (out5 : List UInt8) (i6 : Int) : L54a s0 bytes1 out5 i6 =
 cond (decide (i6 < (↑(List.length s0) : Int)))
 (cond (inb i6 (List.length s0))
 (opt (RUN E 85 [D.str bytes1, D.int (↑(UInt8.toNat (List.getD s0 (Int.toNat i6) 0)) : Int)]) fun ρ2 =>
 cond (decide (0 ≤ D.toInt (List.getD ρ2 0 D.no)))
 (cond (decide (List.length out5 + List.length (([92] : List UInt8)) ≤ lim))
 (cond (cutOk (List.length s0) (some i6) (some (IntKind.wrap IntKind.i64 (i6 + 1))))
 (cond (decide (List.length (out5 ++ ([92] : List UInt8)) + List.length (cutL s0 (some i6) (some (IntKind.wrap IntKind.i64 (i6 + 1)))) ≤ lim))
 (L54a s0 bytes1 (out5 ++ ([92] : List UInt8) ++ cutL s0 (some i6) (some (IntKind.wrap IntKind.i64 (i6 + 1)))) (IntKind.wrap IntKind.i64 (i6 + 1)))
 (none))
 (none))
 (none))
 (cond (cutOk (List.length s0) (some i6) (some (IntKind.wrap IntKind.i64 (i6 + 1))))
 (cond (decide (List.length out5 + List.length (cutL s0 (some i6) (some (IntKind.wrap IntKind.i64 (i6 + 1)))) ≤ lim))
 (L54a s0 bytes1 (out5 ++ cutL s0 (some i6) (some (IntKind.wrap IntKind.i64 (i6 + 1)))) (IntKind.wrap IntKind.i64 (i6 + 1)))
 (none))
 (none)))
 (none))
 (some [D.str out5]) := (LOOP_eq _ _ _ _ _ _).trans (by kernel_rfl)
/-! strings.genSplit -/
def h55a (s0 : List UInt8) (sep1 : List UInt8) (sepSave2 : Int) (n3 : Int) : St := mkSt 66 [(0, SV.val KT.str (D.str s0)), (1, SV.val KT.str (D.str sep1)), (2, SV.val (KT.int IntKind.i64) (D.int sepSave2)), (3, SV.val (KT.int IntKind.i64) (D.int n3))] []
noncomputable def C55a (s0 : List UInt8) (sep1 : List UInt8) (sepSave2 : Int) (n3 : Int) : R := PART E (RUN E) 55 Tryz.f55 [1, 1, 1, 1] (h55a s0 sep1 sepSave2 n3)
def h55b (s0 : List UInt8) (sep1 : List UInt8) (sepSave2 : Int) (n3 : Int) (i10 : Int) (a9s : List D) : St := mkSt 66 [(0, SV.val KT.str (D.str s0)), (1, SV.val KT.str (D.str sep1)), (2, SV.val (KT.int IntKind.i64) (D.int sepSave2)), (3, SV.val (KT.int IntKind.i64) (D.int n3)), (9, SV.own 9), (10, SV.val (KT.int IntKind.i64) (D.int i10))] [(9, Obj.arr 9 a9s)]
noncomputable def L55b (s0 : List UInt8) (sep1 : List UInt8) (sepSave2 : Int) (n3 : Int) (i10 : Int) (a9s : List D) : R := LOOP E (RUN E) 55 Tryz.f55 [1, 1, 1, 1, 1, 1, 1, 1, 0, 0] (h55b s0 sep1 sepSave2 n3 i10 a9s)
theorem enter55 (s0 : List UInt8) (sep1 : List UInt8) (sepSave2 : Int) (n3 : Int) : RUN E 55 [D.str s0, D.str sep1, D.int sepSave2, D.int n3] =
 cond (decide (n3 = 0))
 (some [D.list []])
 (cond (decide (sep1 = ([] : List UInt8)))
 (opt (RUN E 86 [D.str s0, D.int n3]) fun ρ2 =>
 none)
 (cond (decide (n3 < 0))
 (opt (RUN E 87 [D.str s0, D.str sep1]) fun ρ3 =>
 C55a s0 sep1 sepSave2 (IntKind.wrap IntKind.i64 (D.toInt (List.getD ρ3 0 D.no) + 1)))
 (C55a s0 sep1 sepSave2 n3))) := (RUN_eq _ _ _).trans (by kernel_rfl)
theorem round55a (s0 : List UInt8) (sep1 : List UInt8) (sepSave2 : Int) (n3 : Int) : C55a s0 sep1 sepSave2 n3 =
 cond (bif decide (0 ≤ mmInt false n3 (IntKind.wrap IntKind.i64 ((↑(List.length s0) : Int) + 1))) then bif decide (mmInt false n3 (IntKind.wrap IntKind.i64 ((↑(List.length s0) : Int) + 1)) ≤ mmInt false n3 (IntKind.wrap IntKind.i64 ((↑(List.length s0) : Int) + 1))) then (fun (_ : Unit) => decide (mmInt false n3 (IntKind.wrap IntKind.i64 ((↑(List.length s0) : Int) + 1)) ≤ (↑lim : Int))) () else false else false)
 (L55b s0 sep1 sepSave2 (IntKind.wrap IntKind.i64 (mmInt false n3 (IntKind.wrap IntKind.i64 ((↑(List.length s0) : Int) + 1)) - 1)) 0 (List.replicate (Int.toNat (mmInt false n3 (IntKind.wrap IntKind.i64 ((↑(List.length s0) : Int) + 1)))) (D.str [])))
 (none) := (PART_eq _ _ _ _ _ _).trans (by kernel_rfl)
theorem round55b (s0 : List UInt8) (sep1 : List UInt8) (sepSave2 : Int) (n3 : Int) (i10 : Int) (a9s : List D) : L55b s0 sep1 sepSave2 n3 i10 a9s =
 cond (decide (i10 < n3))
 (opt (RUN E 88 [D.str s0, D.str sep1]) fun ρ1 =>
 cond (decide (D.toInt (List.getD ρ1 0 D.no) < 0))
 (cond (inb i10 (List.length a9s))
 (cond (cutOk (List.length (List.set a9s (Int.toNat i10) (D.str s0))) none (some (IntKind.wrap IntKind.i64 (i10 + 1))))
 (some [D.list (cutL (List.set a9s (Int.toNat i10) (D.str s0)) none (some (IntKind.wrap IntKind.i64 (i10 + 1))))])
 (none))
 (none))
 (cond (cutOk (List.length s0) none (some (IntKind.wrap IntKind.i64 (D.toInt (List.getD ρ1 0 D.no) + sepSave2))))
 (cond (inb i10 (List.length a9s))
 (cond (cutOk (List.length s0) (some (IntKind.wrap IntKind.i64 (D.toInt (List.getD ρ1 0 D.no) + (↑(List.length sep1) : Int)))) none)
 (L55b (cutL s0 (some (IntKind.wrap IntKind.i64 (D.toInt (List.getD ρ1 0 D.no) + (↑(List.length sep1) : Int)))) none) sep1 sepSave2 n3 (IntKind.wrap IntKind.i64 (i10 + 1)) (List.set a9s (Int.toNat i10) (D.str (cutL s0 none (some (IntKind.wrap IntKind.i64 (D.toInt (List.getD ρ1 0 D.no) + sepSave2)))))))
 (none))
 (none))
 (none)))
 (cond (inb i10 (List.length a9s))
 (cond (cutOk (List.length (List.set a9s (Int.toNat i10) (D.str s0))) none (some (IntKind.wrap IntKind.i64 (i10 + 1))))
 (some [D.list (cutL (List.set a9s (Int.toNat i10) (D.str s0)) none (some (IntKind.wrap IntKind.i64 (i10 + 1))))])
 (none))
 (none)) := (LOOP_eq _ _ _ _ _ _).trans (by kernel_rfl)
/-! masthead/mark.permitted -/
theorem enter57 (kind0 : Int) (in1 : Int) : RUN E 57 [D.int kind0, D.int in1] =
 cond (decide (in1 = 0))
 (cond (decide (in1 = 0))
 (opt (RUN E 90 [D.int kind0]) fun ρ2 =>
 some [D.bool (bif bif bif D.toBool (List.getD ρ2 0 D.no) then !decide (kind0 = 6) else false then !decide (kind0 = 9) else false then !decide (kind0 = 10) else false)])
 (cond (decide (in1 = 5))
 (some [D.bool (decide (kind0 = 6))])
 (cond (decide (in1 = 8))
 (some [D.bool (decide (kind0 = 9))])
 (cond (decide (in1 = 9))
 (some [D.bool (decide (kind0 = 10))])
 (cond (decide (in1 = 1))
 (cond (decide (in1 = 1))
 (opt (RUN E 34 [D.int kind0]) fun ρ7 =>
 some [D.bool (D.toBool (List.getD ρ7 0 D.no))])
 (some [D.bool false]))
 (cond (decide (in1 = 2))
 (cond (decide (in1 = 2))
 (opt (RUN E 34 [D.int kind0]) fun ρ8 =>
 some [D.bool (D.toBool (List.getD ρ8 0 D.no))])
 (some [D.bool false]))
 (cond (decide (in1 = 10))
 (cond (decide (in1 = 10))
 (opt (RUN E 34 [D.int kind0]) fun ρ9 =>
 some [D.bool (D.toBool (List.getD ρ9 0 D.no))])
 (some [D.bool false]))
 (cond (decide (in1 = 14))
 (cond (decide (in1 = 14))
 (opt (RUN E 34 [D.int kind0]) fun ρ10 =>
 some [D.bool (D.toBool (List.getD ρ10 0 D.no))])
 (some [D.bool false]))
 (cond (decide (in1 = 15))
 (cond (decide (in1 = 15))
 (opt (RUN E 34 [D.int kind0]) fun ρ11 =>
 some [D.bool (D.toBool (List.getD ρ11 0 D.no))])
 (some [D.bool false]))
 (cond (decide (in1 = 17))
 (opt (RUN E 34 [D.int kind0]) fun ρ11 =>
 some [D.bool (D.toBool (List.getD ρ11 0 D.no))])
 (some [D.bool false])))))))))))
 (cond (decide (in1 = 4))
 (cond (decide (in1 = 4))
 (opt (RUN E 90 [D.int kind0]) fun ρ3 =>
 some [D.bool (bif bif bif D.toBool (List.getD ρ3 0 D.no) then !decide (kind0 = 6) else false then !decide (kind0 = 9) else false then !decide (kind0 = 10) else false)])
 (cond (decide (in1 = 5))
 (some [D.bool (decide (kind0 = 6))])
 (cond (decide (in1 = 8))
 (some [D.bool (decide (kind0 = 9))])
 (cond (decide (in1 = 9))
 (some [D.bool (decide (kind0 = 10))])
 (cond (decide (in1 = 1))
 (cond (decide (in1 = 1))
 (opt (RUN E 34 [D.int kind0]) fun ρ8 =>
 some [D.bool (D.toBool (List.getD ρ8 0 D.no))])
 (some [D.bool false]))
 (cond (decide (in1 = 2))
 (cond (decide (in1 = 2))
 (opt (RUN E 34 [D.int kind0]) fun ρ9 =>
 some [D.bool (D.toBool (List.getD ρ9 0 D.no))])
 (some [D.bool false]))
 (cond (decide (in1 = 10))
 (cond (decide (in1 = 10))
 (opt (RUN E 34 [D.int kind0]) fun ρ10 =>
 some [D.bool (D.toBool (List.getD ρ10 0 D.no))])
 (some [D.bool false]))
 (cond (decide (in1 = 14))
 (cond (decide (in1 = 14))
 (opt (RUN E 34 [D.int kind0]) fun ρ11 =>
 some [D.bool (D.toBool (List.getD ρ11 0 D.no))])
 (some [D.bool false]))
 (cond (decide (in1 = 15))
 (cond (decide (in1 = 15))
 (opt (RUN E 34 [D.int kind0]) fun ρ12 =>
 some [D.bool (D.toBool (List.getD ρ12 0 D.no))])
 (some [D.bool false]))
 (cond (decide (in1 = 17))
 (opt (RUN E 34 [D.int kind0]) fun ρ12 =>
 some [D.bool (D.toBool (List.getD ρ12 0 D.no))])
 (some [D.bool false])))))))))))
 (cond (decide (in1 = 6))
 (opt (RUN E 90 [D.int kind0]) fun ρ3 =>
 some [D.bool (bif bif bif D.toBool (List.getD ρ3 0 D.no) then !decide (kind0 = 6) else false then !decide (kind0 = 9) else false then !decide (kind0 = 10) else false)])
 (cond (decide (in1 = 5))
 (some [D.bool (decide (kind0 = 6))])
 (cond (decide (in1 = 8))
 (some [D.bool (decide (kind0 = 9))])
 (cond (decide (in1 = 9))
 (some [D.bool (decide (kind0 = 10))])
 (cond (decide (in1 = 1))
 (cond (decide (in1 = 1))
 (opt (RUN E 34 [D.int kind0]) fun ρ8 =>
 some [D.bool (D.toBool (List.getD ρ8 0 D.no))])
 (some [D.bool false]))
 (cond (decide (in1 = 2))
 (cond (decide (in1 = 2))
 (opt (RUN E 34 [D.int kind0]) fun ρ9 =>
 some [D.bool (D.toBool (List.getD ρ9 0 D.no))])
 (some [D.bool false]))
 (cond (decide (in1 = 10))
 (cond (decide (in1 = 10))
 (opt (RUN E 34 [D.int kind0]) fun ρ10 =>
 some [D.bool (D.toBool (List.getD ρ10 0 D.no))])
 (some [D.bool false]))
 (cond (decide (in1 = 14))
 (cond (decide (in1 = 14))
 (opt (RUN E 34 [D.int kind0]) fun ρ11 =>
 some [D.bool (D.toBool (List.getD ρ11 0 D.no))])
 (some [D.bool false]))
 (cond (decide (in1 = 15))
 (cond (decide (in1 = 15))
 (opt (RUN E 34 [D.int kind0]) fun ρ12 =>
 some [D.bool (D.toBool (List.getD ρ12 0 D.no))])
 (some [D.bool false]))
 (cond (decide (in1 = 17))
 (opt (RUN E 34 [D.int kind0]) fun ρ12 =>
 some [D.bool (D.toBool (List.getD ρ12 0 D.no))])
 (some [D.bool false])))))))))))) := (RUN_eq _ _ _).trans (by kernel_rfl)
/-! masthead/mark.uses -/
theorem enter58 (kind0 : Int) : RUN E 58 [D.int kind0] =
 cond (decide (kind0 = 1))
 (cond (decide (kind0 = 1))
 (some [D.str (([76, 75] : List UInt8))])
 (cond (decide (kind0 = 2))
 (cond (decide (kind0 = 2))
 (some [D.str (([75] : List UInt8))])
 (cond (decide (kind0 = 3))
 (some [D.str (([84, 68] : List UInt8))])
 (cond (decide (kind0 = 11))
 (cond (decide (kind0 = 11))
 (some [D.str (([84] : List UInt8))])
 (cond (decide (kind0 = 17))
 (some [D.str (([68, 78, 75] : List UInt8))])
 (cond (decide (kind0 = 18))
 (some [D.str (([68, 78, 84] : List UInt8))])
 (some [D.str (([] : List UInt8))]))))
 (cond (decide (kind0 = 16))
 (some [D.str (([84] : List UInt8))])
 (cond (decide (kind0 = 17))
 (some [D.str (([68, 78, 75] : List UInt8))])
 (cond (decide (kind0 = 18))
 (some [D.str (([68, 78, 84] : List UInt8))])
 (some [D.str (([] : List UInt8))])))))))
 (cond (decide (kind0 = 4))
 (cond (decide (kind0 = 4))
 (some [D.str (([75] : List UInt8))])
 (cond (decide (kind0 = 3))
 (some [D.str (([84, 68] : List UInt8))])
 (cond (decide (kind0 = 11))
 (cond (decide (kind0 = 11))
 (some [D.str (([84] : List UInt8))])
 (cond (decide (kind0 = 17))
 (some [D.str (([68, 78, 75] : List UInt8))])
 (cond (decide (kind0 = 18))
 (some [D.str (([68, 78, 84] : List UInt8))])
 (some [D.str (([] : List UInt8))]))))
 (cond (decide (kind0 = 16))
 (some [D.str (([84] : List UInt8))])
 (cond (decide (kind0 = 17))
 (some [D.str (([68, 78, 75] : List UInt8))])
 (cond (decide (kind0 = 18))
 (some [D.str (([68, 78, 84] : List UInt8))])
 (some [D.str (([] : List UInt8))])))))))
 (cond (decide (kind0 = 6))
 (cond (decide (kind0 = 6))
 (some [D.str (([75] : List UInt8))])
 (cond (decide (kind0 = 3))
 (some [D.str (([84, 68] : List UInt8))])
 (cond (decide (kind0 = 11))
 (cond (decide (kind0 = 11))
 (some [D.str (([84] : List UInt8))])
 (cond (decide (kind0 = 17))
 (some [D.str (([68, 78, 75] : List UInt8))])
 (cond (decide (kind0 = 18))
 (some [D.str (([68, 78, 84] : List UInt8))])
 (some [D.str (([] : List UInt8))]))))
 (cond (decide (kind0 = 16))
 (some [D.str (([84] : List UInt8))])
 (cond (decide (kind0 = 17))
 (some [D.str (([68, 78, 75] : List UInt8))])
 (cond (decide (kind0 = 18))
 (some [D.str (([68, 78, 84] : List UInt8))])
 (some [D.str (([] : List UInt8))])))))))
 (cond (decide (kind0 = 8))
 (cond (decide (kind0 = 8))
 (some [D.str (([75] : List UInt8))])
 (cond (decide (kind0 = 3))
 (some [D.str (([84, 68] : List UInt8))])
 (cond (decide (kind0 = 11))
 (cond (decide (kind0 = 11))
 (some [D.str (([84] : List UInt8))])
 (cond (decide (kind0 = 17))
 (some [D.str (([68, 78, 75] : List UInt8))])
 (cond (decide (kind0 = 18))
 (some [D.str (([68, 78, 84] : List UInt8))])
 (some [D.str (([] : List UInt8))]))))
 (cond (decide (kind0 = 16))
 (some [D.str (([84] : List UInt8))])
 (cond (decide (kind0 = 17))
 (some [D.str (([68, 78, 75] : List UInt8))])
 (cond (decide (kind0 = 18))
 (some [D.str (([68, 78, 84] : List UInt8))])
 (some [D.str (([] : List UInt8))])))))))
 (cond (decide (kind0 = 9))
 (cond (decide (kind0 = 9))
 (some [D.str (([75] : List UInt8))])
 (cond (decide (kind0 = 3))
 (some [D.str (([84, 68] : List UInt8))])
 (cond (decide (kind0 = 11))
 (cond (decide (kind0 = 11))
 (some [D.str (([84] : List UInt8))])
 (cond (decide (kind0 = 17))
 (some [D.str (([68, 78, 75] : List UInt8))])
 (cond (decide (kind0 = 18))
 (some [D.str (([68, 78, 84] : List UInt8))])
 (some [D.str (([] : List UInt8))]))))
 (cond (decide (kind0 = 16))
 (some [D.str (([84] : List UInt8))])
 (cond (decide (kind0 = 17))
 (some [D.str (([68, 78, 75] : List UInt8))])
 (cond (decide (kind0 = 18))
 (some [D.str (([68, 78, 84] : List UInt8))])
 (some [D.str (([] : List UInt8))])))))))
 (cond (decide (kind0 = 10))
 (cond (decide (kind0 = 10))
 (some [D.str (([75] : List UInt8))])
 (cond (decide (kind0 = 3))
 (some [D.str (([84, 68] : List UInt8))])
 (cond (decide (kind0 = 11))
 (cond (decide (kind0 = 11))
 (some [D.str (([84] : List UInt8))])
 (cond (decide (kind0 = 17))
 (some [D.str (([68, 78, 75] : List UInt8))])
 (cond (decide (kind0 = 18))
 (some [D.str (([68, 78, 84] : List UInt8))])
 (some [D.str (([] : List UInt8))]))))
 (cond (decide (kind0 = 16))
 (some [D.str (([84] : List UInt8))])
 (cond (decide (kind0 = 17))
 (some [D.str (([68, 78, 75] : List UInt8))])
 (cond (decide (kind0 = 18))
 (some [D.str (([68, 78, 84] : List UInt8))])
 (some [D.str (([] : List UInt8))])))))))
 (cond (decide (kind0 = 14))
 (cond (decide (kind0 = 14))
 (some [D.str (([75] : List UInt8))])
 (cond (decide (kind0 = 3))
 (some [D.str (([84, 68] : List UInt8))])
 (cond (decide (kind0 = 11))
 (cond (decide (kind0 = 11))
 (some [D.str (([84] : List UInt8))])
 (cond (decide (kind0 = 17))
 (some [D.str (([68, 78, 75] : List UInt8))])
 (cond (decide (kind0 = 18))
 (some [D.str (([68, 78, 84] : List UInt8))])
 (some [D.str (([] : List UInt8))]))))
 (cond (decide (kind0 = 16))
 (some [D.str (([84] : List UInt8))])
 (cond (decide (kind0 = 17))
 (some [D.str (([68, 78, 75] : List UInt8))])
 (cond (decide (kind0 = 18))
 (some [D.str (([68, 78, 84] : List UInt8))])
 (some [D.str (([] : List UInt8))])))))))
 (cond (decide (kind0 = 15))
 (some [D.str (([75] : List UInt8))])
 (cond (decide (kind0 = 3))
 (some [D.str (([84, 68] : List UInt8))])
 (cond (decide (kind0 = 11))
 (cond (decide (kind0 = 11))
 (some [D.str (([84] : List UInt8))])
 (cond (decide (kind0 = 17))
 (some [D.str (([68, 78, 75] : List UInt8))])
 (cond (decide (kind0 = 18))
 (some [D.str (([68, 78, 84] : List UInt8))])
 (some [D.str (([] : List UInt8))]))))
 (cond (decide (kind0 = 16))
 (some [D.str (([84] : List UInt8))])
 (cond (decide (kind0 = 17))
 (some [D.str (([68, 78, 75] : List UInt8))])
 (cond (decide (kind0 = 18))
 (some [D.str (([68, 78, 84] : List UInt8))])
 (some [D.str (([] : List UInt8))])))))))))))))))
 (cond (decide (kind0 = 5))
 (some [D.str (([76, 75] : List UInt8))])
 (cond (decide (kind0 = 2))
 (cond (decide (kind0 = 2))
 (some [D.str (([75] : List UInt8))])
 (cond (decide (kind0 = 3))
 (some [D.str (([84, 68] : List UInt8))])
 (cond (decide (kind0 = 11))
 (cond (decide (kind0 = 11))
 (some [D.str (([84] : List UInt8))])
 (cond (decide (kind0 = 17))
 (some [D.str (([68, 78, 75] : List UInt8))])
 (cond (decide (kind0 = 18))
 (some [D.str (([68, 78, 84] : List UInt8))])
 (some [D.str (([] : List UInt8))]))))
 (cond (decide (kind0 = 16))
 (some [D.str (([84] : List UInt8))])
 (cond (decide (kind0 = 17))
 (some [D.str (([68, 78, 75] : List UInt8))])
 (cond (decide (kind0 = 18))
 (some [D.str (([68, 78, 84] : List UInt8))])
 (some [D.str (([] : List UInt8))])))))))
 (cond (decide (kind0 = 4))
 (cond (decide (kind0 = 4))
 (some [D.str (([75] : List UInt8))])
 (cond (decide (kind0 = 3))
 (some [D.str (([84, 68] : List UInt8))])
 (cond (decide (kind0 = 11))
 (cond (decide (kind0 = 11))
 (some [D.str (([84] : List UInt8))])
 (cond (decide (kind0 = 17))
 (some [D.str (([68, 78, 75] : List UInt8))])
 (cond (decide (kind0 = 18))
 (some [D.str (([68, 78, 84] : List UInt8))])
 (some [D.str (([] : List UInt8))]))))
 (cond (decide (kind0 = 16))
 (some [D.str (([84] : List UInt8))])
 (cond (decide (kind0 = 17))
 (some [D.str (([68, 78, 75] : List UInt8))])
 (cond (decide (kind0 = 18))
 (some [D.str (([68, 78, 84] : List UInt8))])
 (some [D.str (([] : List UInt8))])))))))
 (cond (decide (kind0 = 6))
 (cond (decide (kind0 = 6))
 (some [D.str (([75] : List UInt8))])
 (cond (decide (kind0 = 3))
 (some [D.str (([84, 68] : List UInt8))])
 (cond (decide (kind0 = 11))
 (cond (decide (kind0 = 11))
 (some [D.str (([84] : List UInt8))])
 (cond (decide (kind0 = 17))
 (some [D.str (([68, 78, 75] : List UInt8))])
 (cond (decide (kind0 = 18))
 (some [D.str (([68, 78, 84] : List UInt8))])
 (some [D.str (([] : List UInt8))]))))
 (cond (decide (kind0 = 16))
 (some [D.str (([84] : List UInt8))])
 (cond (decide (kind0 = 17))
 (some [D.str (([68, 78, 75] : List UInt8))])
 (cond (decide (kind0 = 18))
 (some [D.str (([68, 78, 84] : List UInt8))])
 (some [D.str (([] : List UInt8))])))))))
 (cond (decide (kind0 = 8))
 (cond (decide (kind0 = 8))
 (some [D.str (([75] : List UInt8))])
 (cond (decide (kind0 = 3))
 (some [D.str (([84, 68] : List UInt8))])
 (cond (decide (kind0 = 11))
 (cond (decide (kind0 = 11))
 (some [D.str (([84] : List UInt8))])
 (cond (decide (kind0 = 17))
 (some [D.str (([68, 78, 75] : List UInt8))])
 (cond (decide (kind0 = 18))
 (some [D.str (([68, 78, 84] : List UInt8))])
 (some [D.str (([] : List UInt8))]))))
 (cond (decide (kind0 = 16))
 (some [D.str (([84] : List UInt8))])
 (cond (decide (kind0 = 17))
 (some [D.str (([68, 78, 75] : List UInt8))])
 (cond (decide (kind0 = 18))
 (some [D.str (([68, 78, 84] : List UInt8))])
 (some [D.str (([] : List UInt8))])))))))
 (cond (decide (kind0 = 9))
 (cond (decide (kind0 = 9))
 (some [D.str (([75] : List UInt8))])
 (cond (decide (kind0 = 3))
 (some [D.str (([84, 68] : List UInt8))])
 (cond (decide (kind0 = 11))
 (cond (decide (kind0 = 11))
 (some [D.str (([84] : List UInt8))])
 (cond (decide (kind0 = 17))
 (some [D.str (([68, 78, 75] : List UInt8))])
 (cond (decide (kind0 = 18))
 (some [D.str (([68, 78, 84] : List UInt8))])
 (some [D.str (([] : List UInt8))]))))
 (cond (decide (kind0 = 16))
 (some [D.str (([84] : List UInt8))])
 (cond (decide (kind0 = 17))
 (some [D.str (([68, 78, 75] : List UInt8))])
 (cond (decide (kind0 = 18))
 (some [D.str (([68, 78, 84] : List UInt8))])
 (some [D.str (([] : List UInt8))])))))))
 (cond (decide (kind0 = 10))
 (cond (decide (kind0 = 10))
 (some [D.str (([75] : List UInt8))])
 (cond (decide (kind0 = 3))
 (some [D.str (([84, 68] : List UInt8))])
 (cond (decide (kind0 = 11))
 (cond (decide (kind0 = 11))
 (some [D.str (([84] : List UInt8))])
 (cond (decide (kind0 = 17))
 (some [D.str (([68, 78, 75] : List UInt8))])
 (cond (decide (kind0 = 18))
 (some [D.str (([68, 78, 84] : List UInt8))])
 (some [D.str (([] : List UInt8))]))))
 (cond (decide (kind0 = 16))
 (some [D.str (([84] : List UInt8))])
 (cond (decide (kind0 = 17))
 (some [D.str (([68, 78, 75] : List UInt8))])
 (cond (decide (kind0 = 18))
 (some [D.str (([68, 78, 84] : List UInt8))])
 (some [D.str (([] : List UInt8))])))))))
 (cond (decide (kind0 = 14))
 (cond (decide (kind0 = 14))
 (some [D.str (([75] : List UInt8))])
 (cond (decide (kind0 = 3))
 (some [D.str (([84, 68] : List UInt8))])
 (cond (decide (kind0 = 11))
 (cond (decide (kind0 = 11))
 (some [D.str (([84] : List UInt8))])
 (cond (decide (kind0 = 17))
 (some [D.str (([68, 78, 75] : List UInt8))])
 (cond (decide (kind0 = 18))
 (some [D.str (([68, 78, 84] : List UInt8))])
 (some [D.str (([] : List UInt8))]))))
 (cond (decide (kind0 = 16))
 (some [D.str (([84] : List UInt8))])
 (cond (decide (kind0 = 17))
 (some [D.str (([68, 78, 75] : List UInt8))])
 (cond (decide (kind0 = 18))
 (some [D.str (([68, 78, 84] : List UInt8))])
 (some [D.str (([] : List UInt8))])))))))
 (cond (decide (kind0 = 15))
 (some [D.str (([75] : List UInt8))])
 (cond (decide (kind0 = 3))
 (some [D.str (([84, 68] : List UInt8))])
 (cond (decide (kind0 = 11))
 (cond (decide (kind0 = 11))
 (some [D.str (([84] : List UInt8))])
 (cond (decide (kind0 = 17))
 (some [D.str (([68, 78, 75] : List UInt8))])
 (cond (decide (kind0 = 18))
 (some [D.str (([68, 78, 84] : List UInt8))])
 (some [D.str (([] : List UInt8))]))))
 (cond (decide (kind0 = 16))
 (some [D.str (([84] : List UInt8))])
 (cond (decide (kind0 = 17))
 (some [D.str (([68, 78, 75] : List UInt8))])
 (cond (decide (kind0 = 18))
 (some [D.str (([68, 78, 84] : List UInt8))])
 (some [D.str (([] : List UInt8))]))))))))))))))) := (RUN_eq _ _ _).trans (by kernel_rfl)
/-! masthead/mark.nodeFault$1 -/
theorem enter59 (c0 : List UInt8) (zero1 : Bool) (a2 : List UInt8) : RUN E 59 [D.str c0, D.bool zero1, D.str a2] =
 opt (cond (bif bif zero1 then false else true then true else false)
 (RUN E 60 [D.str a2, D.str c0])
 (some [])) fun ρ0 =>
 some [D.bool (bif !zero1 then !D.toBool (List.getD ρ0 0 D.no) else false)] := (RUN_eq _ _ _).trans (by kernel_rfl)
/-! masthead/mark.byteFault -/
theorem enter61 (n0 : D) : RUN E 61 [n0] =
 cond (decide (D.toInt (D.cell n0 0) = 11))
 (cond (decide (D.toInt (D.cell n0 0) = 11))
 (opt (RUN E 91 [D.str (D.toStr (D.cell n0 2)), D.str (([9] : List UInt8))]) fun ρ2 =>
 opt (cond (bif D.toBool (List.getD ρ2 0 D.no) then false else true)
 (RUN E 91 [D.str (D.toStr (D.cell n0 3)), D.str (([] : List UInt8))])
 (some [])) fun ρ3 =>
 opt (cond (bif bif D.toBool (List.getD ρ2 0 D.no) then true else D.toBool (List.getD ρ3 0 D.no) then false else true)
 (RUN E 91 [D.str (D.toStr (D.cell n0 4)), D.str (([9] : List UInt8))])
 (some [])) fun ρ4 =>
 some [D.bool (bif bif D.toBool (List.getD ρ2 0 D.no) then true else D.toBool (List.getD ρ3 0 D.no) then true else D.toBool (List.getD ρ4 0 D.no))])
 (cond (decide (D.toInt (D.cell n0 0) = 3))
 (opt (RUN E 91 [D.str (D.toStr (D.cell n0 2)), D.str (([9, 10] : List UInt8))]) fun ρ3 =>
 opt (cond (bif D.toBool (List.getD ρ3 0 D.no) then false else true)
 (RUN E 91 [D.str (D.toStr (D.cell n0 3)), D.str (([9] : List UInt8))])
 (some [])) fun ρ4 =>
 opt (cond (bif bif D.toBool (List.getD ρ3 0 D.no) then true else D.toBool (List.getD ρ4 0 D.no) then false else true)
 (RUN E 91 [D.str (D.toStr (D.cell n0 4)), D.str (([9] : List UInt8))])
 (some [])) fun ρ5 =>
 some [D.bool (bif bif D.toBool (List.getD ρ3 0 D.no) then true else D.toBool (List.getD ρ4 0 D.no) then true else D.toBool (List.getD ρ5 0 D.no))])
 (opt (RUN E 91 [D.str (D.toStr (D.cell n0 2)), D.str (([] : List UInt8))]) fun ρ3 =>
 opt (cond (bif D.toBool (List.getD ρ3 0 D.no) then false else true)
 (RUN E 91 [D.str (D.toStr (D.cell n0 3)), D.str (([] : List UInt8))])
 (some [])) fun ρ4 =>
 opt (cond (bif bif D.toBool (List.getD ρ3 0 D.no) then true else D.toBool (List.getD ρ4 0 D.no) then false else true)
 (RUN E 91 [D.str (D.toStr (D.cell n0 4)), D.str (([9] : List UInt8))])
 (some [])) fun ρ5 =>
 some [D.bool (bif bif D.toBool (List.getD ρ3 0 D.no) then true else D.toBool (List.getD ρ4 0 D.no) then true else D.toBool (List.getD ρ5 0 D.no))])))
 (cond (decide (D.toInt (D.cell n0 0) = 16))
 (cond (decide (D.toInt (D.cell n0 0) = 16))
 (opt (RUN E 91 [D.str (D.toStr (D.cell n0 2)), D.str (([9] : List UInt8))]) fun ρ3 =>
 opt (cond (bif D.toBool (List.getD ρ3 0 D.no) then false else true)
 (RUN E 91 [D.str (D.toStr (D.cell n0 3)), D.str (([] : List UInt8))])
 (some [])) fun ρ4 =>
 opt (cond (bif bif D.toBool (List.getD ρ3 0 D.no) then true else D.toBool (List.getD ρ4 0 D.no) then false else true)
 (RUN E 91 [D.str (D.toStr (D.cell n0 4)), D.str (([9] : List UInt8))])
 (some [])) fun ρ5 =>
 some [D.bool (bif bif D.toBool (List.getD ρ3 0 D.no) then true else D.toBool (List.getD ρ4 0 D.no) then true else D.toBool (List.getD ρ5 0 D.no))])
 (cond (decide (D.toInt (D.cell n0 0) = 3))
 (opt (RUN E 91 [D.str (D.toStr (D.cell n0 2)), D.str (([9, 10] : List UInt8))]) fun ρ4 =>
 opt (cond (bif D.toBool (List.getD ρ4 0 D.no) then false else true)
 (RUN E 91 [D.str (D.toStr (D.cell n0 3)), D.str (([9] : List UInt8))])
 (some [])) fun ρ5 =>
 opt (cond (bif bif D.toBool (List.getD ρ4 0 D.no) then true else D.toBool (List.getD ρ5 0 D.no) then false else true)
 (RUN E 91 [D.str (D.toStr (D.cell n0 4)), D.str (([9] : List UInt8))])
 (some [])) fun ρ6 =>
 some [D.bool (bif bif D.toBool (List.getD ρ4 0 D.no) then true else D.toBool (List.getD ρ5 0 D.no) then true else D.toBool (List.getD ρ6 0 D.no))])
 (opt (RUN E 91 [D.str (D.toStr (D.cell n0 2)), D.str (([] : List UInt8))]) fun ρ4 =>
 opt (cond (bif D.toBool (List.getD ρ4 0 D.no) then false else true)
 (RUN E 91 [D.str (D.toStr (D.cell n0 3)), D.str (([] : List UInt8))])
 (some [])) fun ρ5 =>
 opt (cond (bif bif D.toBool (List.getD ρ4 0 D.no) then true else D.toBool (List.getD ρ5 0 D.no) then false else true)
 (RUN E 91 [D.str (D.toStr (D.cell n0 4)), D.str (([9] : List UInt8))])
 (some [])) fun ρ6 =>
 some [D.bool (bif bif D.toBool (List.getD ρ4 0 D.no) then true else D.toBool (List.getD ρ5 0 D.no) then true else D.toBool (List.getD ρ6 0 D.no))])))
 (cond (decide (D.toInt (D.cell n0 0) = 18))
 (opt (RUN E 91 [D.str (D.toStr (D.cell n0 2)), D.str (([9] : List UInt8))]) fun ρ3 =>
 opt (cond (bif D.toBool (List.getD ρ3 0 D.no) then false else true)
 (RUN E 91 [D.str (D.toStr (D.cell n0 3)), D.str (([] : List UInt8))])
 (some [])) fun ρ4 =>
 opt (cond (bif bif D.toBool (List.getD ρ3 0 D.no) then true else D.toBool (List.getD ρ4 0 D.no) then false else true)
 (RUN E 91 [D.str (D.toStr (D.cell n0 4)), D.str (([9] : List UInt8))])
 (some [])) fun ρ5 =>
 some [D.bool (bif bif D.toBool (List.getD ρ3 0 D.no) then true else D.toBool (List.getD ρ4 0 D.no) then true else D.toBool (List.getD ρ5 0 D.no))])
 (cond (decide (D.toInt (D.cell n0 0) = 3))
 (opt (RUN E 91 [D.str (D.toStr (D.cell n0 2)), D.str (([9, 10] : List UInt8))]) fun ρ4 =>
 opt (cond (bif D.toBool (List.getD ρ4 0 D.no) then false else true)
 (RUN E 91 [D.str (D.toStr (D.cell n0 3)), D.str (([9] : List UInt8))])
 (some [])) fun ρ5 =>
 opt (cond (bif bif D.toBool (List.getD ρ4 0 D.no) then true else D.toBool (List.getD ρ5 0 D.no) then false else true)
 (RUN E 91 [D.str (D.toStr (D.cell n0 4)), D.str (([9] : List UInt8))])
 (some [])) fun ρ6 =>
 some [D.bool (bif bif D.toBool (List.getD ρ4 0 D.no) then true else D.toBool (List.getD ρ5 0 D.no) then true else D.toBool (List.getD ρ6 0 D.no))])
 (opt (RUN E 91 [D.str (D.toStr (D.cell n0 2)), D.str (([] : List UInt8))]) fun ρ4 =>
 opt (cond (bif D.toBool (List.getD ρ4 0 D.no) then false else true)
 (RUN E 91 [D.str (D.toStr (D.cell n0 3)), D.str (([] : List UInt8))])
 (some [])) fun ρ5 =>
 opt (cond (bif bif D.toBool (List.getD ρ4 0 D.no) then true else D.toBool (List.getD ρ5 0 D.no) then false else true)
 (RUN E 91 [D.str (D.toStr (D.cell n0 4)), D.str (([9] : List UInt8))])
 (some [])) fun ρ6 =>
 some [D.bool (bif bif D.toBool (List.getD ρ4 0 D.no) then true else D.toBool (List.getD ρ5 0 D.no) then true else D.toBool (List.getD ρ6 0 D.no))])))) := (RUN_eq _ _ _).trans (by kernel_rfl)
/-! masthead/mark.trim -/
def h62a (s0 : List UInt8) : St := mkSt 28 [(0, SV.val KT.str (D.str s0))] []
noncomputable def L62a (s0 : List UInt8) : R := LOOP E (RUN E) 62 Tryz.f62 [1, 0, 0] (h62a s0)
def h62b (s0 : List UInt8) : St := mkSt 28 [(0, SV.val KT.str (D.str s0))] []
noncomputable def L62b (s0 : List UInt8) : R := LOOP E (RUN E) 62 Tryz.f62 [1, 1, 0, 0] (h62b s0)
theorem enter62 (s0 : List UInt8) : RUN E 62 [D.str s0] =
 L62a s0 := (RUN_eq _ _ _).trans (by kernel_rfl)
theorem round62a (s0 : List UInt8) : L62a s0 =
 cond (bif inb 0 (List.length s0) then true else bif bif bif decide (s0 = ([] : List UInt8)) then false else true then true else false then false else true)
 (opt (cond (bif bif decide (s0 = ([] : List UInt8)) then false else true then true else false)
 (RUN E 67 [D.int (↑(UInt8.toNat (List.getD s0 0 0)) : Int)])
 (some [])) fun ρ1 =>
 cond (bif bif decide (s0 = ([] : List UInt8)) then false else true then D.toBool (List.getD ρ1 0 D.no) else false)
 (cond (cutOk (List.length s0) (some 1) none)
 (L62a (cutL s0 (some 1) none))
 (none))
 (L62b s0))
 (none) := (LOOP_eq _ _ _ _ _ _).trans (by kernel_rfl)
theorem round62b (s0 : List UInt8) : L62b s0 =
 cond (bif inb (IntKind.wrap IntKind.i64 ((↑(List.length s0) : Int) - 1)) (List.length s0) then true else bif bif bif decide (s0 = ([] : List UInt8)) then false else true then true else false then false else true)
 (opt (cond (bif bif decide (s0 = ([] : List UInt8)) then false else true then true else false)
 (RUN E 67 [D.int (↑(UInt8.toNat (List.getD s0 (Int.toNat (IntKind.wrap IntKind.i64 ((↑(List.length s0) : Int) - 1))) 0)) : Int)])
 (some [])) fun ρ1 =>
 cond (bif bif decide (s0 = ([] : List UInt8)) then false else true then D.toBool (List.getD ρ1 0 D.no) else false)
 (cond (cutOk (List.length s0) none (some (IntKind.wrap IntKind.i64 ((↑(List.length s0) : Int) - 1))))
 (L62b (cutL s0 none (some (IntKind.wrap IntKind.i64 ((↑(List.length s0) : Int) - 1)))))
 (none))
 (some [D.str s0]))
 (none) := (LOOP_eq _ _ _ _ _ _).trans (by kernel_rfl)
/-! masthead/mark.lines -/
theorem enter63 (s0 : List UInt8) : RUN E 63 [D.str s0] =
 cond (decide (s0 = ([] : List UInt8)))
 (some [D.list []])
 (opt (RUN E 92 [D.str s0, D.str (([10] : List UInt8))]) fun ρ1 =>
 opt (RUN E 31 [D.str (D.toStr (List.getD ρ1 0 D.no)), D.str (([10] : List UInt8))]) fun ρ2 =>
 some [D.list (D.toList (List.getD ρ2 0 D.no))]) := (RUN_eq _ _ _).trans (by kernel_rfl)
/-! masthead/mark.allBlank -/
theorem enter64 (s0 : List UInt8) : RUN E 64 [D.str s0] =
 opt (RUN E 62 [D.str s0]) fun ρ0 =>
 some [D.bool (decide (D.toStr (List.getD ρ0 0 D.no) = ([] : List UInt8)))] := (RUN_eq _ _ _).trans (by kernel_rfl)
/-! masthead/mark.endsFence -/
theorem enter65 (s0 : List UInt8) : RUN E 65 [D.str s0] =
 opt (RUN E 93 [D.str s0]) fun ρ0 =>
 cond (bif cutOk (List.length s0) (some 3) none then true else bif bif D.toBool (List.getD ρ0 0 D.no) then true else false then false else true)
 (opt (cond (bif D.toBool (List.getD ρ0 0 D.no) then true else false)
 (RUN E 64 [D.str (cutL s0 (some 3) none)])
 (some [])) fun ρ2 =>
 some [D.bool (bif D.toBool (List.getD ρ0 0 D.no) then D.toBool (List.getD ρ2 0 D.no) else false)])
 (none) := (RUN_eq _ _ _).trans (by kernel_rfl)
/-! masthead/mark.isBreak -/
theorem enter66 (n0 : D) : RUN E 66 [n0] =
 some [D.bool (bif decide (D.toInt (D.cell n0 0) = 12) then true else decide (D.toInt (D.cell n0 0) = 13))] := (RUN_eq _ _ _).trans (by kernel_rfl)
/-! masthead/mark.isBlank -/
theorem enter67 (c0 : Int) : RUN E 67 [D.int c0] =
 some [D.bool (bif decide (c0 = 32) then true else decide (c0 = 9))] := (RUN_eq _ _ _).trans (by kernel_rfl)
/-! masthead/mark.inlinesFit -/
def h68a (l0 : List D) (v7 : List D) (v8 : Int) (v9 : Int) (w3 : D) : St := mkSt 31 [(0, SV.val (KT.slice 37) (D.list l0)), (3, SV.bptr 3 84 0 (KT.agg 84)), (7, SV.val (KT.slice 37) (D.list v7)), (8, SV.val (KT.int IntKind.i64) (D.int v8)), (9, SV.val (KT.int IntKind.i64) (D.int v9))] [(3, Obj.box 84 (BC.whole w3))]
noncomputable def L68a (l0 : List D) (v7 : List D) (v8 : Int) (v9 : Int) (w3 : D) : R := LOOP E (RUN E) 68 Tryz.f68 [1, 0, 1, 0] (h68a l0 v7 v8 v9 w3)
theorem enter68 (l0 : List D) (w1 : D) : RUN E 68 [D.list l0, w1] =
 L68a l0 l0 ((↑(List.length l0) : Int)) 0 w1 := (RUN_eq _ _ _).trans (by kernel_rfl)
theorem round68a (l0 : List D) (v7 : List D) (v8 : Int) (v9 : Int) (w3 : D) : L68a l0 v7 v8 v9 w3 =
 cond (decide (v9 < v8))
 (cond (inb v9 (List.length v7))
 (cond (bif inb (IntKind.wrap IntKind.i64 (v9 - 1)) (List.length l0) then true else bif bif decide (0 < v9) then true else false then false else true)
 (opt (cond (bif decide (0 < v9) then true else false)
 (RUN E 94 [List.getD l0 (Int.toNat (IntKind.wrap IntKind.i64 (v9 - 1))) D.no, List.getD v7 (Int.toNat v9) D.no])
 (some [])) fun ρ3 =>
 cond (bif decide (0 < v9) then bif D.toBool (List.getD ρ3 0 D.no) then false else true else false)
 (some [D.bool false])
 (opt (RUN E 95 [List.getD v7 (Int.toNat v9) D.no, w3]) fun ρ5 =>
 cond (bif D.toBool (List.getD ρ5 0 D.no) then false else true)
 (some [D.bool false])
 (L68a l0 v7 v8 (IntKind.wrap IntKind.i64 (v9 + 1)) w3)))
 (none))
 (none))
 (some [D.bool true]) := (LOOP_eq _ _ _ _ _ _).trans (by kernel_rfl)
/-! (*masthead/mark.printer).inlines -/
def h70a (v6 : List D) (v7 : Int) (v8 : Int) (p0c1 : Bool) (p0c2 : Bool) (x700000s : List D) : St := mkSt 83 [(0, SV.bptr 0 89 0 (KT.agg 89)), (6, SV.val (KT.slice 37) (D.list v6)), (7, SV.val (KT.int IntKind.i64) (D.int v7)), (8, SV.val (KT.int IntKind.i64) (D.int v8))] [(0, Obj.box 89 (BC.cells [SV.own 700000, SV.val KT.bool (D.bool p0c1), SV.val KT.bool (D.bool p0c2)])), (700000, Obj.arr 5 x700000s)]
noncomputable def L70a (v6 : List D) (v7 : Int) (v8 : Int) (p0c1 : Bool) (p0c2 : Bool) (x700000s : List D) : R := LOOP E (RUN E) 70 Tryz.f70 [1, 0] (h70a v6 v7 v8 p0c1 p0c2 x700000s)
theorem enter70 (p0c0 : List D) (p0c1 : Bool) (p0c2 : Bool) (l1 : List D) : RUN E 70 [D.agg [D.list p0c0, D.bool p0c1, D.bool p0c2], D.list l1] =
 L70a l1 ((↑(List.length l1) : Int)) 0 p0c1 p0c2 p0c0 := (RUN_eq _ _ _).trans (by kernel_rfl)
theorem round70a (v6 : List D) (v7 : Int) (v8 : Int) (p0c1 : Bool) (p0c2 : Bool) (x700000s : List D) : L70a v6 v7 v8 p0c1 p0c2 x700000s =
 cond (decide (v8 < v7))
 (cond (inb v8 (List.length v6))
 (cond (decide (D.toInt (D.cell (List.getD v6 (Int.toNat v8) D.no) 0) = 11))
 (opt (RUN E 96 [D.agg [D.list x700000s, D.bool p0c1, D.bool p0c2], D.str (D.toStr (D.cell (List.getD v6 (Int.toNat v8) D.no) 2))]) fun ρ3 =>
 L70a v6 v7 (IntKind.wrap IntKind.i64 (v8 + 1)) (D.toBool (D.cell (List.getD ρ3 0 D.no) 1)) (D.toBool (D.cell (List.getD ρ3 0 D.no) 2)) (D.toList (D.cell (List.getD ρ3 0 D.no) 0)))
 (cond (decide (D.toInt (D.cell (List.getD v6 (Int.toNat v8) D.no) 0) = 12))
 (opt (RUN E 97 [D.agg [D.list x700000s, D.bool p0c1, D.bool p0c2], D.str (([10] : List UInt8))]) fun ρ4 =>
 L70a v6 v7 (IntKind.wrap IntKind.i64 (v8 + 1)) (D.toBool (D.cell (List.getD ρ4 0 D.no) 1)) (D.toBool (D.cell (List.getD ρ4 0 D.no) 1)) (D.toList (D.cell (List.getD ρ4 0 D.no) 0)))
 (cond (decide (D.toInt (D.cell (List.getD v6 (Int.toNat v8) D.no) 0) = 13))
 (opt (RUN E 97 [D.agg [D.list x700000s, D.bool p0c1, D.bool p0c2], D.str (([92, 10] : List UInt8))]) fun ρ5 =>
 L70a v6 v7 (IntKind.wrap IntKind.i64 (v8 + 1)) (D.toBool (D.cell (List.getD ρ5 0 D.no) 1)) (D.toBool (D.cell (List.getD ρ5 0 D.no) 1)) (D.toList (D.cell (List.getD ρ5 0 D.no) 0)))
 (cond (decide (D.toInt (D.cell (List.getD v6 (Int.toNat v8) D.no) 0) = 14))
 (opt (RUN E 98 [D.agg [D.list x700000s, D.bool p0c1, D.bool p0c2], D.str (([42] : List UInt8)), List.getD v6 (Int.toNat v8) D.no]) fun ρ6 =>
 L70a v6 v7 (IntKind.wrap IntKind.i64 (v8 + 1)) (D.toBool (D.cell (List.getD ρ6 0 D.no) 1)) (D.toBool (D.cell (List.getD ρ6 0 D.no) 2)) (D.toList (D.cell (List.getD ρ6 0 D.no) 0)))
 (cond (decide (D.toInt (D.cell (List.getD v6 (Int.toNat v8) D.no) 0) = 15))
 (opt (RUN E 98 [D.agg [D.list x700000s, D.bool p0c1, D.bool p0c2], D.str (([42, 42] : List UInt8)), List.getD v6 (Int.toNat v8) D.no]) fun ρ7 =>
 L70a v6 v7 (IntKind.wrap IntKind.i64 (v8 + 1)) (D.toBool (D.cell (List.getD ρ7 0 D.no) 1)) (D.toBool (D.cell (List.getD ρ7 0 D.no) 2)) (D.toList (D.cell (List.getD ρ7 0 D.no) 0)))
 (cond (decide (D.toInt (D.cell (List.getD v6 (Int.toNat v8) D.no) 0) = 16))
 (cond (decide (List.length (([96] : List UInt8)) + List.length (D.toStr (D.cell (List.getD v6 (Int.toNat v8) D.no) 2)) ≤ lim))
 (cond (decide (List.length (([96] : List UInt8) ++ D.toStr (D.cell (List.getD v6 (Int.toNat v8) D.no) 2)) + List.length (([96] : List UInt8)) ≤ lim))
 (opt (RUN E 97 [D.agg [D.list x700000s, D.bool p0c1, D.bool p0c2], D.str (([96] : List UInt8) ++ D.toStr (D.cell (List.getD v6 (Int.toNat v8) D.no) 2) ++ ([96] : List UInt8))]) fun ρ10 =>
 L70a v6 v7 (IntKind.wrap IntKind.i64 (v8 + 1)) (D.toBool (D.cell (List.getD ρ10 0 D.no) 1)) (D.toBool (D.cell (List.getD ρ10 0 D.no) 2)) (D.toList (D.cell (List.getD ρ10 0 D.no) 0)))
 (none))
 (none))
 (cond (decide (D.toInt (D.cell (List.getD v6 (Int.toNat v8) D.no) 0) = 17))
 (opt (RUN E 97 [D.agg [D.list x700000s, D.bool p0c1, D.bool p0c2], D.str (([91] : List UInt8))]) fun ρ9 =>
 opt (RUN E 70 [D.agg [D.list (D.toList (D.cell (List.getD ρ9 0 D.no) 0)), D.bool (D.toBool (D.cell (List.getD ρ9 0 D.no) 1)), D.bool (D.toBool (D.cell (List.getD ρ9 0 D.no) 2))], D.list (D.toList (D.cell (List.getD v6 (Int.toNat v8) D.no) 5))]) fun ρ10 =>
 opt (RUN E 99 [D.agg [D.list (D.toList (D.cell (List.getD ρ10 0 D.no) 0)), D.bool (D.toBool (D.cell (List.getD ρ10 0 D.no) 1)), D.bool (D.toBool (D.cell (List.getD ρ10 0 D.no) 2))], List.getD v6 (Int.toNat v8) D.no]) fun ρ11 =>
 L70a v6 v7 (IntKind.wrap IntKind.i64 (v8 + 1)) (D.toBool (D.cell (List.getD ρ11 0 D.no) 1)) (D.toBool (D.cell (List.getD ρ11 0 D.no) 2)) (D.toList (D.cell (List.getD ρ11 0 D.no) 0)))
 (cond (decide (D.toInt (D.cell (List.getD v6 (Int.toNat v8) D.no) 0) = 18))
 (opt (RUN E 100 [D.str (D.toStr (D.cell (List.getD v6 (Int.toNat v8) D.no) 2)), D.str (([92, 96, 91, 93] : List UInt8))]) fun ρ10 =>
 cond (decide (List.length (([33, 91] : List UInt8)) + List.length (D.toStr (List.getD ρ10 0 D.no)) ≤ lim))
 (opt (RUN E 97 [D.agg [D.list x700000s, D.bool p0c1, D.bool p0c2], D.str (([33, 91] : List UInt8) ++ D.toStr (List.getD ρ10 0 D.no))]) fun ρ12 =>
 opt (RUN E 99 [D.agg [D.list (D.toList (D.cell (List.getD ρ12 0 D.no) 0)), D.bool (D.toBool (D.cell (List.getD ρ12 0 D.no) 1)), D.bool (D.toBool (D.cell (List.getD ρ12 0 D.no) 2))], List.getD v6 (Int.toNat v8) D.no]) fun ρ13 =>
 L70a v6 v7 (IntKind.wrap IntKind.i64 (v8 + 1)) (D.toBool (D.cell (List.getD ρ13 0 D.no) 1)) (D.toBool (D.cell (List.getD ρ13 0 D.no) 2)) (D.toList (D.cell (List.getD ρ13 0 D.no) 0)))
 (none))
 (L70a v6 v7 (IntKind.wrap IntKind.i64 (v8 + 1)) p0c1 p0c2 x700000s)))))))))
 (none))
 (some [D.agg [D.list x700000s, D.bool p0c1, D.bool p0c2]]) := (LOOP_eq _ _ _ _ _ _).trans (by kernel_rfl)
/-! internal/stringslite.HasPrefix -/
theorem enter71 (s0 : List UInt8) (prefix1 : List UInt8) : RUN E 71 [D.str s0, D.str prefix1] =
 cond (bif cutOk (List.length s0) none (some (↑(List.length prefix1) : Int)) then true else bif bif decide ((↑(List.length prefix1) : Int) ≤ (↑(List.length s0) : Int)) then true else false then false else true)
 (some [D.bool (bif decide ((↑(List.length prefix1) : Int) ≤ (↑(List.length s0) : Int)) then decide (cutL s0 none (some (↑(List.length prefix1) : Int)) = prefix1) else false)])
 (none) := (RUN_eq _ _ _).trans (by kernel_rfl)
/-! masthead/mastref1.isBlock -/
theorem enter72 (k0 : Int) : RUN E 72 [D.int k0] =
 some [D.bool (bif decide (1 ≤ k0) then decide (k0 ≤ 10) else false)] := (RUN_eq _ _ _).trans (by kernel_rfl)
/-! masthead/mastref1.isBlank -/
theorem enter73 (c0 : Int) : RUN E 73 [D.int c0] =
 some [D.bool (bif decide (c0 = 32) then true else decide (c0 = 9))] := (RUN_eq _ _ _).trans (by kernel_rfl)
/-! masthead/mastref1.ended -/
theorem enter74 (k0 : Int) : RUN E 74 [D.int k0] =
 some [D.bool (bif decide (k0 = 12) then true else decide (k0 = 13))] := (RUN_eq _ _ _).trans (by kernel_rfl)
/-! masthead/mastref1.starred -/
theorem enter75 (k0 : Int) : RUN E 75 [D.int k0] =
 some [D.bool (bif decide (k0 = 14) then true else decide (k0 = 15))] := (RUN_eq _ _ _).trans (by kernel_rfl)
/-! masthead/mastref1.goodPair -/
theorem enter76 (a0 : D) (b1 : D) : RUN E 76 [a0, b1] =
 opt (RUN E 45 [D.str (D.toStr (D.cell a0 2))]) fun ρ0 =>
 opt (RUN E 45 [D.str (D.toStr (D.cell b1 2))]) fun ρ1 =>
 cond (bif decide (D.toInt (D.cell a0 0) = 11) then decide (D.toInt (D.cell b1 0) = 11) else false)
 (cond (bif decide (D.toInt (D.cell a0 0) = 11) then decide (D.toInt (D.cell b1 0) = 11) else false)
 (some [D.bool false])
 (opt (cond (bif decide (D.toInt (D.cell a0 0) = 11) then true else false)
 (RUN E 74 [D.int (D.toInt (D.cell b1 0))])
 (some [])) fun ρ4 =>
 cond (bif bif decide (D.toInt (D.cell a0 0) = 11) then D.toBool (List.getD ρ4 0 D.no) else false then D.toBool (List.getD ρ0 1 D.no) else false)
 (cond (bif bif decide (D.toInt (D.cell a0 0) = 11) then D.toBool (List.getD ρ4 0 D.no) else false then D.toBool (List.getD ρ0 1 D.no) else false)
 (some [D.bool false])
 (some [D.bool true]))
 (opt (RUN E 74 [D.int (D.toInt (D.cell a0 0))]) fun ρ6 =>
 cond (bif bif D.toBool (List.getD ρ6 0 D.no) then decide (D.toInt (D.cell b1 0) = 11) else false then D.toBool (List.getD ρ1 0 D.no) else false)
 (some [D.bool false])
 (some [D.bool true]))))
 (opt (RUN E 74 [D.int (D.toInt (D.cell a0 0))]) fun ρ3 =>
 opt (cond (bif D.toBool (List.getD ρ3 0 D.no) then true else false)
 (RUN E 74 [D.int (D.toInt (D.cell b1 0))])
 (some [])) fun ρ4 =>
 cond (bif D.toBool (List.getD ρ3 0 D.no) then D.toBool (List.getD ρ4 0 D.no) else false)
 (cond (bif D.toBool (List.getD ρ3 0 D.no) then D.toBool (List.getD ρ4 0 D.no) else false)
 (some [D.bool false])
 (opt (cond (bif decide (D.toInt (D.cell a0 0) = 11) then true else false)
 (RUN E 74 [D.int (D.toInt (D.cell b1 0))])
 (some [])) fun ρ7 =>
 cond (bif bif decide (D.toInt (D.cell a0 0) = 11) then D.toBool (List.getD ρ7 0 D.no) else false then D.toBool (List.getD ρ0 1 D.no) else false)
 (cond (bif bif decide (D.toInt (D.cell a0 0) = 11) then D.toBool (List.getD ρ7 0 D.no) else false then D.toBool (List.getD ρ0 1 D.no) else false)
 (some [D.bool false])
 (some [D.bool true]))
 (opt (RUN E 74 [D.int (D.toInt (D.cell a0 0))]) fun ρ9 =>
 cond (bif bif D.toBool (List.getD ρ9 0 D.no) then decide (D.toInt (D.cell b1 0) = 11) else false then D.toBool (List.getD ρ1 0 D.no) else false)
 (some [D.bool false])
 (some [D.bool true]))))
 (opt (RUN E 75 [D.int (D.toInt (D.cell a0 0))]) fun ρ6 =>
 opt (cond (bif D.toBool (List.getD ρ6 0 D.no) then true else false)
 (RUN E 75 [D.int (D.toInt (D.cell b1 0))])
 (some [])) fun ρ7 =>
 cond (bif D.toBool (List.getD ρ6 0 D.no) then D.toBool (List.getD ρ7 0 D.no) else false)
 (some [D.bool false])
 (opt (cond (bif decide (D.toInt (D.cell a0 0) = 11) then true else false)
 (RUN E 74 [D.int (D.toInt (D.cell b1 0))])
 (some [])) fun ρ9 =>
 cond (bif bif decide (D.toInt (D.cell a0 0) = 11) then D.toBool (List.getD ρ9 0 D.no) else false then D.toBool (List.getD ρ0 1 D.no) else false)
 (cond (bif bif decide (D.toInt (D.cell a0 0) = 11) then D.toBool (List.getD ρ9 0 D.no) else false then D.toBool (List.getD ρ0 1 D.no) else false)
 (some [D.bool false])
 (some [D.bool true]))
 (opt (RUN E 74 [D.int (D.toInt (D.cell a0 0))]) fun ρ11 =>
 cond (bif bif D.toBool (List.getD ρ11 0 D.no) then decide (D.toInt (D.cell b1 0) = 11) else false then D.toBool (List.getD ρ1 0 D.no) else false)
 (some [D.bool false])
 (some [D.bool true]))))) := (RUN_eq _ _ _).trans (by kernel_rfl)
/-! masthead/mastref1.goodInline -/
theorem enter77 (x0 : D) (w1 : D) : RUN E 77 [x0, w1] =
 cond (decide (List.length (D.toStr (D.cell x0 2)) + List.length (D.toStr (D.cell x0 3)) ≤ lim))
 (cond (decide (List.length (D.toStr (D.cell x0 2) ++ D.toStr (D.cell x0 3)) + List.length (D.toStr (D.cell x0 4)) ≤ lim))
 (opt (RUN E 60 [D.str (D.toStr (D.cell x0 2) ++ D.toStr (D.cell x0 3) ++ D.toStr (D.cell x0 4)), D.str (([124] : List UInt8))]) fun ρ2 =>
 cond (decide (D.toInt (D.cell x0 0) = 11))
 (some [D.bool !decide (D.toStr (D.cell x0 2) = ([] : List UInt8))])
 (cond (decide (D.toInt (D.cell x0 0) = 16))
 (opt (cond (bif bif decide (D.toStr (D.cell x0 2) = ([] : List UInt8)) then false else true then true else false)
 (RUN E 60 [D.str (D.toStr (D.cell x0 2)), D.str (([96] : List UInt8))])
 (some [])) fun ρ5 =>
 some [D.bool (bif bif !decide (D.toStr (D.cell x0 2) = ([] : List UInt8)) then !D.toBool (List.getD ρ5 0 D.no) else false then !bif D.toBool (List.getD ρ2 0 D.no) then D.toBool (D.cell w1 3) else false else false)])
 (cond (decide (D.toInt (D.cell x0 0) = 18))
 (opt (RUN E 101 [x0]) fun ρ6 =>
 cond (bif decide (List.length (D.toStr (D.cell x0 3)) + List.length (D.toStr (D.cell x0 4)) ≤ lim) then true else bif bif bif D.toBool (D.cell w1 2) then true else false then bif bif D.toBool (List.getD ρ6 0 D.no) then bif bif D.toBool (List.getD ρ2 0 D.no) then D.toBool (D.cell w1 3) else false then false else true else false then true else false else false then false else true)
 (opt (cond (bif bif D.toBool (D.cell w1 2) then true else false then bif bif D.toBool (List.getD ρ6 0 D.no) then bif bif D.toBool (List.getD ρ2 0 D.no) then D.toBool (D.cell w1 3) else false then false else true else false then true else false else false)
 (RUN E 102 [D.str (D.toStr (D.cell x0 3) ++ D.toStr (D.cell x0 4)), D.str (([91, 93, 96] : List UInt8))])
 (some [])) fun ρ8 =>
 some [D.bool (bif bif D.toBool (List.getD ρ6 0 D.no) then !bif D.toBool (List.getD ρ2 0 D.no) then D.toBool (D.cell w1 3) else false else false then !bif D.toBool (D.cell w1 2) then D.toBool (List.getD ρ8 0 D.no) else false else false)])
 (none))
 (cond (decide (D.toInt (D.cell x0 0) = 14))
 (opt (cond (bif bif bif D.toBool (D.cell w1 0) then false else true then decide (0 < (↑(List.length (D.toList (D.cell x0 5))) : Int)) else false then true else false)
 (RUN E 46 [D.list (D.toList (D.cell x0 5)), D.int (D.toInt (D.cell x0 0)), D.agg [D.bool true, D.bool (D.toBool (D.cell w1 1)), D.bool (D.toBool (D.cell w1 2)), D.bool (D.toBool (D.cell w1 3)), D.bool (D.toBool (D.cell w1 4))]])
 (some [])) fun ρ7 =>
 some [D.bool (bif bif !D.toBool (D.cell w1 0) then decide (0 < (↑(List.length (D.toList (D.cell x0 5))) : Int)) else false then D.toBool (List.getD ρ7 0 D.no) else false)])
 (cond (decide (D.toInt (D.cell x0 0) = 15))
 (opt (cond (bif bif bif D.toBool (D.cell w1 1) then false else true then decide (0 < (↑(List.length (D.toList (D.cell x0 5))) : Int)) else false then true else false)
 (RUN E 46 [D.list (D.toList (D.cell x0 5)), D.int (D.toInt (D.cell x0 0)), D.agg [D.bool (D.toBool (D.cell w1 0)), D.bool true, D.bool (D.toBool (D.cell w1 2)), D.bool (D.toBool (D.cell w1 3)), D.bool (D.toBool (D.cell w1 4))]])
 (some [])) fun ρ8 =>
 some [D.bool (bif bif !D.toBool (D.cell w1 1) then decide (0 < (↑(List.length (D.toList (D.cell x0 5))) : Int)) else false then D.toBool (List.getD ρ8 0 D.no) else false)])
 (cond (decide (D.toInt (D.cell x0 0) = 17))
 (opt (cond (bif bif D.toBool (D.cell w1 2) then false else true then true else false)
 (RUN E 101 [x0])
 (some [])) fun ρ9 =>
 opt (cond (bif bif bif bif bif D.toBool (D.cell w1 2) then false else true then D.toBool (List.getD ρ9 0 D.no) else false then bif bif D.toBool (List.getD ρ2 0 D.no) then D.toBool (D.cell w1 3) else false then false else true else false then decide (0 < (↑(List.length (D.toList (D.cell x0 5))) : Int)) else false then true else false)
 (RUN E 46 [D.list (D.toList (D.cell x0 5)), D.int (D.toInt (D.cell x0 0)), D.agg [D.bool (D.toBool (D.cell w1 0)), D.bool (D.toBool (D.cell w1 1)), D.bool true, D.bool (D.toBool (D.cell w1 3)), D.bool (D.toBool (D.cell w1 4))]])
 (some [])) fun ρ10 =>
 some [D.bool (bif bif bif bif !D.toBool (D.cell w1 2) then D.toBool (List.getD ρ9 0 D.no) else false then !bif D.toBool (List.getD ρ2 0 D.no) then D.toBool (D.cell w1 3) else false else false then decide (0 < (↑(List.length (D.toList (D.cell x0 5))) : Int)) else false then D.toBool (List.getD ρ10 0 D.no) else false)])
 (some [D.bool true])))))))
 (none))
 (none) := (RUN_eq _ _ _).trans (by kernel_rfl)
/-! internal/stringslite.HasSuffix -/
theorem enter78 (s0 : List UInt8) (suffix1 : List UInt8) : RUN E 78 [D.str s0, D.str suffix1] =
 cond (bif cutOk (List.length s0) (some (IntKind.wrap IntKind.i64 ((↑(List.length s0) : Int) - (↑(List.length suffix1) : Int)))) none then true else bif bif decide ((↑(List.length suffix1) : Int) ≤ (↑(List.length s0) : Int)) then true else false then false else true)
 (some [D.bool (bif decide ((↑(List.length suffix1) : Int) ≤ (↑(List.length s0) : Int)) then decide (cutL s0 (some (IntKind.wrap IntKind.i64 ((↑(List.length s0) : Int) - (↑(List.length suffix1) : Int)))) none = suffix1) else false)])
 (none) := (RUN_eq _ _ _).trans (by kernel_rfl)
/-! masthead/mastref1.trim -/
theorem enter79 (s0 : List UInt8) : RUN E 79 [D.str s0] =
 opt (RUN E 103 [D.str s0, D.str (([32, 9] : List UInt8))]) fun ρ0 =>
 some [D.str (D.toStr (List.getD ρ0 0 D.no))] := (RUN_eq _ _ _).trans (by kernel_rfl)
/-! masthead/mastref1.fenced -/
theorem enter80 (s0 : List UInt8) : RUN E 80 [D.str s0] =
 opt (RUN E 40 [D.str s0, D.str (([96, 96, 96] : List UInt8))]) fun ρ0 =>
 some [D.bool (D.toBool (List.getD ρ0 0 D.no))] := (RUN_eq _ _ _).trans (by kernel_rfl)
/-! masthead/mastref1.isDigit -/
theorem enter84 (c0 : Int) : RUN E 84 [D.int c0] =
 some [D.bool (bif decide (48 ≤ c0) then decide (c0 ≤ 57) else false)] := (RUN_eq _ _ _).trans (by kernel_rfl)
/-! masthead/mark.isBlock -/
theorem enter90 (kind0 : Int) : RUN E 90 [D.int kind0] =
 some [D.bool (bif decide (1 ≤ kind0) then decide (kind0 ≤ 10) else false)] := (RUN_eq _ _ _).trans (by kernel_rfl)
/-! masthead/mark.control -/
def h91a (s0 : List UInt8) (permitted1 : List UInt8) (i5 : Int) : St := mkSt 24 [(0, SV.val KT.str (D.str s0)), (1, SV.val KT.str (D.str permitted1)), (5, SV.val (KT.int IntKind.i64) (D.int i5))] []
noncomputable def L91a (s0 : List UInt8) (permitted1 : List UInt8) (i5 : Int) : R := LOOP E (RUN E) 91 Tryz.f91 [1, 0, 1, 0] (h91a s0 permitted1 i5)
theorem enter91 (s0 : List UInt8) (permitted1 : List UInt8) : RUN E 91 [D.str s0, D.str permitted1] =
 L91a s0 permitted1 0 := (RUN_eq _ _ _).trans (by kernel_rfl)
theorem round91a (s0 : List UInt8) (permitted1 : List UInt8) (i5 : Int) : L91a s0 permitted1 i5 =
 cond (decide (i5 < (↑(List.length s0) : Int)))
 (cond (inb i5 (List.length s0))
 (cond (bif inb i5 (List.length s0) then true else bif bif decide ((↑(UInt8.toNat (List.getD s0 (Int.toNat i5) 0)) : Int) < 32) then true else false then false else true)
 (opt (cond (bif decide ((↑(UInt8.toNat (List.getD s0 (Int.toNat i5) 0)) : Int) < 32) then true else false)
 (RUN E 85 [D.str permitted1, D.int (↑(UInt8.toNat (List.getD s0 (Int.toNat i5) 0)) : Int)])
 (some [])) fun ρ3 =>
 cond (bif decide ((↑(UInt8.toNat (List.getD s0 (Int.toNat i5) 0)) : Int) < 32) then decide (D.toInt (List.getD ρ3 0 D.no) < 0) else false)
 (some [D.bool true])
 (L91a s0 permitted1 (IntKind.wrap IntKind.i64 (i5 + 1))))
 (none))
 (none))
 (some [D.bool false]) := (LOOP_eq _ _ _ _ _ _).trans (by kernel_rfl)
/-! strings.TrimSuffix -/
theorem enter92 (s0 : List UInt8) (suffix1 : List UInt8) : RUN E 92 [D.str s0, D.str suffix1] =
 opt (RUN E 111 [D.str s0, D.str suffix1]) fun ρ0 =>
 some [D.str (D.toStr (List.getD ρ0 0 D.no))] := (RUN_eq _ _ _).trans (by kernel_rfl)
/-! masthead/mark.isFence -/
theorem enter93 (s0 : List UInt8) : RUN E 93 [D.str s0] =
 opt (RUN E 40 [D.str s0, D.str (([96, 96, 96] : List UInt8))]) fun ρ0 =>
 some [D.bool (D.toBool (List.getD ρ0 0 D.no))] := (RUN_eq _ _ _).trans (by kernel_rfl)
/-! masthead/mark.neighbors -/
theorem enter94 (a0 : D) (b1 : D) : RUN E 94 [a0, b1] =
 cond (bif decide (D.toInt (D.cell a0 0) = 11) then decide (D.toInt (D.cell b1 0) = 11) else false)
 (cond (bif decide (D.toInt (D.cell a0 0) = 11) then decide (D.toInt (D.cell b1 0) = 11) else false)
 (some [D.bool false])
 (opt (cond (bif decide (D.toInt (D.cell a0 0) = 11) then true else false)
 (RUN E 66 [b1])
 (some [])) fun ρ2 =>
 cond (bif decide (D.toInt (D.cell a0 0) = 11) then D.toBool (List.getD ρ2 0 D.no) else false)
 (cond (bif inb (IntKind.wrap IntKind.i64 ((↑(List.length (D.toStr (D.cell a0 2))) : Int) - 1)) (List.length (D.toStr (D.cell a0 2))) then true else bif bif decide (D.toStr (D.cell a0 2) = ([] : List UInt8)) then false else true then false else true)
 (opt (cond (bif decide (D.toStr (D.cell a0 2) = ([] : List UInt8)) then false else true)
 (RUN E 67 [D.int (↑(UInt8.toNat (List.getD (D.toStr (D.cell a0 2)) (Int.toNat (IntKind.wrap IntKind.i64 ((↑(List.length (D.toStr (D.cell a0 2))) : Int) - 1))) 0)) : Int)])
 (some [])) fun ρ5 =>
 some [D.bool (bif decide (D.toStr (D.cell a0 2) = ([] : List UInt8)) then true else !D.toBool (List.getD ρ5 0 D.no))])
 (none))
 (opt (RUN E 66 [a0]) fun ρ4 =>
 cond (bif D.toBool (List.getD ρ4 0 D.no) then decide (D.toInt (D.cell b1 0) = 11) else false)
 (cond (bif inb 0 (List.length (D.toStr (D.cell b1 2))) then true else bif bif decide (D.toStr (D.cell b1 2) = ([] : List UInt8)) then false else true then false else true)
 (opt (cond (bif decide (D.toStr (D.cell b1 2) = ([] : List UInt8)) then false else true)
 (RUN E 67 [D.int (↑(UInt8.toNat (List.getD (D.toStr (D.cell b1 2)) 0 0)) : Int)])
 (some [])) fun ρ7 =>
 some [D.bool (bif decide (D.toStr (D.cell b1 2) = ([] : List UInt8)) then true else !D.toBool (List.getD ρ7 0 D.no))])
 (none))
 (some [D.bool true]))))
 (opt (RUN E 66 [a0]) fun ρ1 =>
 opt (cond (bif D.toBool (List.getD ρ1 0 D.no) then true else false)
 (RUN E 66 [b1])
 (some [])) fun ρ2 =>
 cond (bif D.toBool (List.getD ρ1 0 D.no) then D.toBool (List.getD ρ2 0 D.no) else false)
 (cond (bif D.toBool (List.getD ρ1 0 D.no) then D.toBool (List.getD ρ2 0 D.no) else false)
 (some [D.bool false])
 (opt (cond (bif decide (D.toInt (D.cell a0 0) = 11) then true else false)
 (RUN E 66 [b1])
 (some [])) fun ρ5 =>
 cond (bif decide (D.toInt (D.cell a0 0) = 11) then D.toBool (List.getD ρ5 0 D.no) else false)
 (cond (bif inb (IntKind.wrap IntKind.i64 ((↑(List.length (D.toStr (D.cell a0 2))) : Int) - 1)) (List.length (D.toStr (D.cell a0 2))) then true else bif bif decide (D.toStr (D.cell a0 2) = ([] : List UInt8)) then false else true then false else true)
 (opt (cond (bif decide (D.toStr (D.cell a0 2) = ([] : List UInt8)) then false else true)
 (RUN E 67 [D.int (↑(UInt8.toNat (List.getD (D.toStr (D.cell a0 2)) (Int.toNat (IntKind.wrap IntKind.i64 ((↑(List.length (D.toStr (D.cell a0 2))) : Int) - 1))) 0)) : Int)])
 (some [])) fun ρ8 =>
 some [D.bool (bif decide (D.toStr (D.cell a0 2) = ([] : List UInt8)) then true else !D.toBool (List.getD ρ8 0 D.no))])
 (none))
 (opt (RUN E 66 [a0]) fun ρ7 =>
 cond (bif D.toBool (List.getD ρ7 0 D.no) then decide (D.toInt (D.cell b1 0) = 11) else false)
 (cond (bif inb 0 (List.length (D.toStr (D.cell b1 2))) then true else bif bif decide (D.toStr (D.cell b1 2) = ([] : List UInt8)) then false else true then false else true)
 (opt (cond (bif decide (D.toStr (D.cell b1 2) = ([] : List UInt8)) then false else true)
 (RUN E 67 [D.int (↑(UInt8.toNat (List.getD (D.toStr (D.cell b1 2)) 0 0)) : Int)])
 (some [])) fun ρ10 =>
 some [D.bool (bif decide (D.toStr (D.cell b1 2) = ([] : List UInt8)) then true else !D.toBool (List.getD ρ10 0 D.no))])
 (none))
 (some [D.bool true]))))
 (opt (RUN E 112 [a0]) fun ρ4 =>
 opt (cond (bif D.toBool (List.getD ρ4 0 D.no) then true else false)
 (RUN E 112 [b1])
 (some [])) fun ρ5 =>
 cond (bif D.toBool (List.getD ρ4 0 D.no) then D.toBool (List.getD ρ5 0 D.no) else false)
 (some [D.bool false])
 (opt (cond (bif decide (D.toInt (D.cell a0 0) = 11) then true else false)
 (RUN E 66 [b1])
 (some [])) fun ρ7 =>
 cond (bif decide (D.toInt (D.cell a0 0) = 11) then D.toBool (List.getD ρ7 0 D.no) else false)
 (cond (bif inb (IntKind.wrap IntKind.i64 ((↑(List.length (D.toStr (D.cell a0 2))) : Int) - 1)) (List.length (D.toStr (D.cell a0 2))) then true else bif bif decide (D.toStr (D.cell a0 2) = ([] : List UInt8)) then false else true then false else true)
 (opt (cond (bif decide (D.toStr (D.cell a0 2) = ([] : List UInt8)) then false else true)
 (RUN E 67 [D.int (↑(UInt8.toNat (List.getD (D.toStr (D.cell a0 2)) (Int.toNat (IntKind.wrap IntKind.i64 ((↑(List.length (D.toStr (D.cell a0 2))) : Int) - 1))) 0)) : Int)])
 (some [])) fun ρ10 =>
 some [D.bool (bif decide (D.toStr (D.cell a0 2) = ([] : List UInt8)) then true else !D.toBool (List.getD ρ10 0 D.no))])
 (none))
 (opt (RUN E 66 [a0]) fun ρ9 =>
 cond (bif D.toBool (List.getD ρ9 0 D.no) then decide (D.toInt (D.cell b1 0) = 11) else false)
 (cond (bif inb 0 (List.length (D.toStr (D.cell b1 2))) then true else bif bif decide (D.toStr (D.cell b1 2) = ([] : List UInt8)) then false else true then false else true)
 (opt (cond (bif decide (D.toStr (D.cell b1 2) = ([] : List UInt8)) then false else true)
 (RUN E 67 [D.int (↑(UInt8.toNat (List.getD (D.toStr (D.cell b1 2)) 0 0)) : Int)])
 (some [])) fun ρ12 =>
 some [D.bool (bif decide (D.toStr (D.cell b1 2) = ([] : List UInt8)) then true else !D.toBool (List.getD ρ12 0 D.no))])
 (none))
 (some [D.bool true]))))) := (RUN_eq _ _ _).trans (by kernel_rfl)
/-! masthead/mark.inlineFits -/
def h95a (n2 : D) (w3c0 : Bool) (w3c1 : Bool) (w3c2 : Bool) (w3c3 : Int) : St := mkSt 117 [(2, SV.bptr 2 37 0 (KT.agg 37)), (3, SV.bptr 3 84 0 (KT.agg 84))] [(2, Obj.box 37 (BC.whole n2)), (3, Obj.box 84 (BC.cells [SV.val KT.bool (D.bool w3c0), SV.val KT.bool (D.bool w3c1), SV.val KT.bool (D.bool w3c2), SV.val (KT.int IntKind.i64) (D.int w3c3)]))]
noncomputable def C95a (n2 : D) (w3c0 : Bool) (w3c1 : Bool) (w3c2 : Bool) (w3c3 : Int) : R := PART E (RUN E) 95 Tryz.f95 [1, 1] (h95a n2 w3c0 w3c1 w3c2 w3c3)
def h95ax (n2 : D) (w3 : D) : St := mkSt 117 [(2, SV.bptr 2 37 0 (KT.agg 37)), (3, SV.bptr 3 84 0 (KT.agg 84))] [(2, Obj.box 37 (BC.whole n2)), (3, Obj.box 84 (BC.whole w3))]
noncomputable def C95ax (n2 : D) (w3 : D) : R := PART E (RUN E) 95 Tryz.f95 [1, 1] (h95ax n2 w3)
theorem enter95 (n0 : D) (w1 : D) : RUN E 95 [n0, w1] =
 cond (decide (D.toInt (D.cell n0 0) = 11))
 (some [D.bool !decide (D.toStr (D.cell n0 2) = ([] : List UInt8))])
 (cond (decide (D.toInt (D.cell n0 0) = 16))
 (opt (cond (bif bif decide (D.toStr (D.cell n0 2) = ([] : List UInt8)) then false else true then true else false)
 (RUN E 85 [D.str (D.toStr (D.cell n0 2)), D.int 96])
 (some [])) fun ρ2 =>
 opt (cond (bif bif bif decide (D.toStr (D.cell n0 2) = ([] : List UInt8)) then false else true then decide (D.toInt (List.getD ρ2 0 D.no) < 0) else false then true else false)
 (RUN E 113 [w1, D.str (D.toStr (D.cell n0 2))])
 (some [])) fun ρ3 =>
 some [D.bool (bif bif !decide (D.toStr (D.cell n0 2) = ([] : List UInt8)) then decide (D.toInt (List.getD ρ2 0 D.no) < 0) else false then D.toBool (List.getD ρ3 0 D.no) else false)])
 (cond (decide (D.toInt (D.cell n0 0) = 12))
 (cond (decide (D.toInt (D.cell n0 0) = 12))
 (some [D.bool (decide (D.toInt (D.cell w1 3) = 2))])
 (cond (decide (D.toInt (D.cell n0 0) = 18))
 (cond (bif decide (List.length (D.toStr (D.cell n0 3)) + List.length (D.toStr (D.cell n0 4)) ≤ lim) then true else bif bif D.toBool (D.cell w1 2) then true else false then false else true)
 (opt (cond (bif D.toBool (D.cell w1 2) then true else false)
 (RUN E 102 [D.str (D.toStr (D.cell n0 3) ++ D.toStr (D.cell n0 4)), D.str (([91, 93, 96] : List UInt8))])
 (some [])) fun ρ6 =>
 cond (bif D.toBool (D.cell w1 2) then D.toBool (List.getD ρ6 0 D.no) else false)
 (some [D.bool false])
 (opt (RUN E 114 [w1, n0]) fun ρ8 =>
 opt (cond (bif D.toBool (List.getD ρ8 0 D.no) then true else false)
 (RUN E 113 [w1, D.str (D.toStr (D.cell n0 2))])
 (some [])) fun ρ9 =>
 some [D.bool (bif D.toBool (List.getD ρ8 0 D.no) then D.toBool (List.getD ρ9 0 D.no) else false)]))
 (none))
 (cond (decide (D.toInt (D.cell n0 0) = 17))
 (opt (cond (bif D.toBool (D.cell w1 2) then false else true)
 (RUN E 114 [w1, n0])
 (some [])) fun ρ6 =>
 cond (bif D.toBool (D.cell w1 2) then true else bif D.toBool (List.getD ρ6 0 D.no) then false else true)
 (some [D.bool false])
 (C95a n0 (D.toBool (D.cell w1 0)) (D.toBool (D.cell w1 1)) true (D.toInt (D.cell w1 3))))
 (cond (decide (D.toInt (D.cell n0 0) = 14))
 (cond (D.toBool (D.cell w1 0))
 (some [D.bool false])
 (C95a n0 true (D.toBool (D.cell w1 1)) (D.toBool (D.cell w1 2)) (D.toInt (D.cell w1 3))))
 (cond (decide (D.toInt (D.cell n0 0) = 15))
 (cond (D.toBool (D.cell w1 1))
 (some [D.bool false])
 (C95a n0 (D.toBool (D.cell w1 0)) true (D.toBool (D.cell w1 2)) (D.toInt (D.cell w1 3))))
 (C95ax n0 w1))))))
 (cond (decide (D.toInt (D.cell n0 0) = 13))
 (some [D.bool (decide (D.toInt (D.cell w1 3) = 2))])
 (cond (decide (D.toInt (D.cell n0 0) = 18))
 (cond (bif decide (List.length (D.toStr (D.cell n0 3)) + List.length (D.toStr (D.cell n0 4)) ≤ lim) then true else bif bif D.toBool (D.cell w1 2) then true else false then false else true)
 (opt (cond (bif D.toBool (D.cell w1 2) then true else false)
 (RUN E 102 [D.str (D.toStr (D.cell n0 3) ++ D.toStr (D.cell n0 4)), D.str (([91, 93, 96] : List UInt8))])
 (some [])) fun ρ6 =>
 cond (bif D.toBool (D.cell w1 2) then D.toBool (List.getD ρ6 0 D.no) else false)
 (some [D.bool false])
 (opt (RUN E 114 [w1, n0]) fun ρ8 =>
 opt (cond (bif D.toBool (List.getD ρ8 0 D.no) then true else false)
 (RUN E 113 [w1, D.str (D.toStr (D.cell n0 2))])
 (some [])) fun ρ9 =>
 some [D.bool (bif D.toBool (List.getD ρ8 0 D.no) then D.toBool (List.getD ρ9 0 D.no) else false)]))
 (none))
 (cond (decide (D.toInt (D.cell n0 0) = 17))
 (opt (cond (bif D.toBool (D.cell w1 2) then false else true)
 (RUN E 114 [w1, n0])
 (some [])) fun ρ6 =>
 cond (bif D.toBool (D.cell w1 2) then true else bif D.toBool (List.getD ρ6 0 D.no) then false else true)
 (some [D.bool false])
 (C95a n0 (D.toBool (D.cell w1 0)) (D.toBool (D.cell w1 1)) true (D.toInt (D.cell w1 3))))
 (cond (decide (D.toInt (D.cell n0 0) = 14))
 (cond (D.toBool (D.cell w1 0))
 (some [D.bool false])
 (C95a n0 true (D.toBool (D.cell w1 1)) (D.toBool (D.cell w1 2)) (D.toInt (D.cell w1 3))))
 (cond (decide (D.toInt (D.cell n0 0) = 15))
 (cond (D.toBool (D.cell w1 1))
 (some [D.bool false])
 (C95a n0 (D.toBool (D.cell w1 0)) true (D.toBool (D.cell w1 2)) (D.toInt (D.cell w1 3))))
 (C95ax n0 w1)))))))) := (RUN_eq _ _ _).trans (by kernel_rfl)
theorem round95a (n2 : D) (w3c0 : Bool) (w3c1 : Bool) (w3c2 : Bool) (w3c3 : Int) : C95a n2 w3c0 w3c1 w3c2 w3c3 =
 cond (decide ((↑(List.length (D.toList (D.cell n2 5))) : Int) = 0))
 (some [D.bool false])
 (cond (inb 0 (List.length (D.toList (D.cell n2 5))))
 (cond (inb (IntKind.wrap IntKind.i64 ((↑(List.length (D.toList (D.cell n2 5))) : Int) - 1)) (List.length (D.toList (D.cell n2 5))))
 (opt (RUN E 66 [List.getD (D.toList (D.cell n2 5)) 0 D.no]) fun ρ3 =>
 opt (cond (bif D.toBool (List.getD ρ3 0 D.no) then false else true)
 (RUN E 66 [List.getD (D.toList (D.cell n2 5)) (Int.toNat (IntKind.wrap IntKind.i64 ((↑(List.length (D.toList (D.cell n2 5))) : Int) - 1))) D.no])
 (some [])) fun ρ4 =>
 opt (cond (bif bif D.toBool (List.getD ρ3 0 D.no) then true else D.toBool (List.getD ρ4 0 D.no) then false else true)
 (RUN E 112 [n2])
 (some [])) fun ρ5 =>
 opt (cond (bif bif D.toBool (List.getD ρ5 0 D.no) then true else false then bif bif D.toBool (List.getD ρ3 0 D.no) then true else D.toBool (List.getD ρ4 0 D.no) then false else true else false)
 (RUN E 112 [List.getD (D.toList (D.cell n2 5)) 0 D.no])
 (some [])) fun ρ6 =>
 opt (cond (bif bif D.toBool (List.getD ρ6 0 D.no) then false else true then bif bif D.toBool (List.getD ρ5 0 D.no) then true else false then bif bif D.toBool (List.getD ρ3 0 D.no) then true else D.toBool (List.getD ρ4 0 D.no) then false else true else false else false)
 (RUN E 112 [List.getD (D.toList (D.cell n2 5)) (Int.toNat (IntKind.wrap IntKind.i64 ((↑(List.length (D.toList (D.cell n2 5))) : Int) - 1))) D.no])
 (some [])) fun ρ7 =>
 cond (bif bif D.toBool (List.getD ρ3 0 D.no) then true else D.toBool (List.getD ρ4 0 D.no) then true else bif D.toBool (List.getD ρ5 0 D.no) then bif D.toBool (List.getD ρ6 0 D.no) then true else D.toBool (List.getD ρ7 0 D.no) else false)
 (some [D.bool false])
 (opt (RUN E 68 [D.list (D.toList (D.cell n2 5)), D.agg [D.bool w3c0, D.bool w3c1, D.bool w3c2, D.int w3c3]]) fun ρ9 =>
 some [D.bool (D.toBool (List.getD ρ9 0 D.no))]))
 (none))
 (none)) := (PART_eq _ _ _ _ _ _).trans (by kernel_rfl)
/-! (*masthead/mark.printer).str -/
def h96a (s1 : List UInt8) (t4 : List UInt8) (digits5 : Int) (p0c1 : Bool) (p0c2 : Bool) (x700000s : List D) : St := mkSt 65 [(0, SV.bptr 0 89 0 (KT.agg 89)), (1, SV.val KT.str (D.str s1)), (4, SV.val KT.str (D.str t4)), (5, SV.val (KT.int IntKind.i64) (D.int digits5))] [(0, Obj.box 89 (BC.cells [SV.own 700000, SV.val KT.bool (D.bool p0c1), SV.val KT.bool (D.bool p0c2)])), (700000, Obj.arr 5 x700000s)]
noncomputable def L96a (s1 : List UInt8) (t4 : List UInt8) (digits5 : Int) (p0c1 : Bool) (p0c2 : Bool) (x700000s : List D) : R := LOOP E (RUN E) 96 Tryz.f96 [1, 0, 1, 0, 1, 0, 0] (h96a s1 t4 digits5 p0c1 p0c2 x700000s)
theorem enter96 (p0c0 : List D) (p0c1 : Bool) (p0c2 : Bool) (s1 : List UInt8) : RUN E 96 [D.agg [D.list p0c0, D.bool p0c1, D.bool p0c2], D.str s1] =
 cond (p0c2)
 (L96a s1 (([] : List UInt8)) 0 p0c1 p0c2 p0c0)
 (opt (RUN E 100 [D.str s1, D.str (([92, 96, 42, 91, 93, 33, 124] : List UInt8))]) fun ρ1 =>
 cond (decide (List.length (([] : List UInt8)) + List.length (D.toStr (List.getD ρ1 0 D.no)) ≤ lim))
 (opt (RUN E 97 [D.agg [D.list p0c0, D.bool p0c1, D.bool p0c2], D.str (([] : List UInt8) ++ D.toStr (List.getD ρ1 0 D.no))]) fun ρ3 =>
 some [D.agg [D.list (D.toList (D.cell (List.getD ρ3 0 D.no) 0)), D.bool (D.toBool (D.cell (List.getD ρ3 0 D.no) 1)), D.bool (D.toBool (D.cell (List.getD ρ3 0 D.no) 2))]])
 (none)) := (RUN_eq _ _ _).trans (by kernel_rfl)
theorem round96a (s1 : List UInt8) (t4 : List UInt8) (digits5 : Int) (p0c1 : Bool) (p0c2 : Bool) (x700000s : List D) : L96a s1 t4 digits5 p0c1 p0c2 x700000s =
 cond (bif inb digits5 (List.length s1) then true else bif bif bif decide (digits5 < (↑(List.length s1) : Int)) then decide (digits5 < 4) else false then true else false then false else true)
 (opt (cond (bif bif decide (digits5 < (↑(List.length s1) : Int)) then decide (digits5 < 4) else false then true else false)
 (RUN E 115 [D.int (↑(UInt8.toNat (List.getD s1 (Int.toNat digits5) 0)) : Int)])
 (some [])) fun ρ1 =>
 cond (bif bif decide (digits5 < (↑(List.length s1) : Int)) then decide (digits5 < 4) else false then D.toBool (List.getD ρ1 0 D.no) else false)
 (L96a s1 t4 (IntKind.wrap IntKind.i64 (digits5 + 1)) p0c1 p0c2 x700000s)
 (cond (inb 0 (List.length s1))
 (opt (RUN E 85 [D.str (([35, 62, 45] : List UInt8)), D.int (↑(UInt8.toNat (List.getD s1 0 0)) : Int)]) fun ρ4 =>
 cond (decide (0 ≤ D.toInt (List.getD ρ4 0 D.no)))
 (cond (cutOk (List.length s1) none (some 1))
 (cond (decide (List.length (([92] : List UInt8)) + List.length (cutL s1 none (some 1)) ≤ lim))
 (cond (cutOk (List.length s1) (some 1) none)
 (opt (RUN E 100 [D.str (cutL s1 (some 1) none), D.str (([92, 96, 42, 91, 93, 33, 124] : List UInt8))]) fun ρ9 =>
 cond (decide (List.length (([92] : List UInt8) ++ cutL s1 none (some 1)) + List.length (D.toStr (List.getD ρ9 0 D.no)) ≤ lim))
 (opt (RUN E 97 [D.agg [D.list x700000s, D.bool p0c1, D.bool p0c2], D.str (([92] : List UInt8) ++ cutL s1 none (some 1) ++ D.toStr (List.getD ρ9 0 D.no))]) fun ρ11 =>
 some [D.agg [D.list (D.toList (D.cell (List.getD ρ11 0 D.no) 0)), D.bool (D.toBool (D.cell (List.getD ρ11 0 D.no) 1)), D.bool (D.toBool (D.cell (List.getD ρ11 0 D.no) 2))]])
 (none))
 (none))
 (none))
 (none))
 (cond (bif inb digits5 (List.length s1) then true else bif bif bif decide (0 < digits5) then decide (digits5 < (↑(List.length s1) : Int)) else false then true else false then false else true)
 (cond (bif bif decide (0 < digits5) then decide (digits5 < (↑(List.length s1) : Int)) else false then decide ((↑(UInt8.toNat (List.getD s1 (Int.toNat digits5) 0)) : Int) = 46) else false)
 (cond (cutOk (List.length s1) none (some digits5))
 (cond (decide (List.length (cutL s1 none (some digits5)) + List.length (([92, 46] : List UInt8)) ≤ lim))
 (cond (cutOk (List.length s1) (some (IntKind.wrap IntKind.i64 (digits5 + 1))) none)
 (opt (RUN E 100 [D.str (cutL s1 (some (IntKind.wrap IntKind.i64 (digits5 + 1))) none), D.str (([92, 96, 42, 91, 93, 33, 124] : List UInt8))]) fun ρ11 =>
 cond (decide (List.length (cutL s1 none (some digits5) ++ ([92, 46] : List UInt8)) + List.length (D.toStr (List.getD ρ11 0 D.no)) ≤ lim))
 (opt (RUN E 97 [D.agg [D.list x700000s, D.bool p0c1, D.bool p0c2], D.str (cutL s1 none (some digits5) ++ ([92, 46] : List UInt8) ++ D.toStr (List.getD ρ11 0 D.no))]) fun ρ13 =>
 some [D.agg [D.list (D.toList (D.cell (List.getD ρ13 0 D.no) 0)), D.bool (D.toBool (D.cell (List.getD ρ13 0 D.no) 1)), D.bool (D.toBool (D.cell (List.getD ρ13 0 D.no) 2))]])
 (none))
 (none))
 (none))
 (none))
 (opt (RUN E 100 [D.str s1, D.str (([92, 96, 42, 91, 93, 33, 124] : List UInt8))]) fun ρ8 =>
 cond (decide (List.length t4 + List.length (D.toStr (List.getD ρ8 0 D.no)) ≤ lim))
 (opt (RUN E 97 [D.agg [D.list x700000s, D.bool p0c1, D.bool p0c2], D.str (t4 ++ D.toStr (List.getD ρ8 0 D.no))]) fun ρ10 =>
 some [D.agg [D.list (D.toList (D.cell (List.getD ρ10 0 D.no) 0)), D.bool (D.toBool (D.cell (List.getD ρ10 0 D.no) 1)), D.bool (D.toBool (D.cell (List.getD ρ10 0 D.no) 2))]])
 (none)))
 (none)))
 (none)))
 (none) := (LOOP_eq _ _ _ _ _ _).trans (by kernel_rfl)
/-! (*masthead/mark.printer).put -/
theorem enter97 (p0c0 : List D) (p0c1 : Bool) (p0c2 : Bool) (s1 : List UInt8) : RUN E 97 [D.agg [D.list p0c0, D.bool p0c1, D.bool p0c2], D.str s1] =
 cond (fitL (List.length p0c0) (List.length (bytesD s1)))
 (some [D.agg [D.list (p0c0 ++ bytesD s1), D.bool p0c1, D.bool false]])
 (none) := (RUN_eq _ _ _).trans (by kernel_rfl)
/-! (*masthead/mark.printer).around -/
theorem enter98 (p0c0 : List D) (p0c1 : Bool) (p0c2 : Bool) (sign1 : List UInt8) (n2 : D) : RUN E 98 [D.agg [D.list p0c0, D.bool p0c1, D.bool p0c2], D.str sign1, n2] =
 opt (RUN E 97 [D.agg [D.list p0c0, D.bool p0c1, D.bool p0c2], D.str sign1]) fun ρ0 =>
 opt (RUN E 70 [D.agg [D.list (D.toList (D.cell (List.getD ρ0 0 D.no) 0)), D.bool (D.toBool (D.cell (List.getD ρ0 0 D.no) 1)), D.bool (D.toBool (D.cell (List.getD ρ0 0 D.no) 2))], D.list (D.toList (D.cell n2 5))]) fun ρ1 =>
 opt (RUN E 97 [D.agg [D.list (D.toList (D.cell (List.getD ρ1 0 D.no) 0)), D.bool (D.toBool (D.cell (List.getD ρ1 0 D.no) 1)), D.bool (D.toBool (D.cell (List.getD ρ1 0 D.no) 2))], D.str sign1]) fun ρ2 =>
 some [D.agg [D.list (D.toList (D.cell (List.getD ρ2 0 D.no) 0)), D.bool (D.toBool (D.cell (List.getD ρ2 0 D.no) 1)), D.bool (D.toBool (D.cell (List.getD ρ2 0 D.no) 2))]] := (RUN_eq _ _ _).trans (by kernel_rfl)
/-! (*masthead/mark.printer).target -/
theorem enter99 (p0c0 : List D) (p0c1 : Bool) (p0c2 : Bool) (n1 : D) : RUN E 99 [D.agg [D.list p0c0, D.bool p0c1, D.bool p0c2], n1] =
 cond (decide (List.length (([93, 40] : List UInt8)) + List.length (D.toStr (D.cell n1 3)) ≤ lim))
 (opt (RUN E 97 [D.agg [D.list p0c0, D.bool p0c1, D.bool p0c2], D.str (([93, 40] : List UInt8) ++ D.toStr (D.cell n1 3))]) fun ρ1 =>
 cond (bif decide (D.toStr (D.cell n1 4) = ([] : List UInt8)) then false else true)
 (cond (decide (List.length (([32, 34] : List UInt8)) + List.length (D.toStr (D.cell n1 4)) ≤ lim))
 (cond (decide (List.length (([32, 34] : List UInt8) ++ D.toStr (D.cell n1 4)) + List.length (([34] : List UInt8)) ≤ lim))
 (opt (RUN E 97 [D.agg [D.list (D.toList (D.cell (List.getD ρ1 0 D.no) 0)), D.bool (D.toBool (D.cell (List.getD ρ1 0 D.no) 1)), D.bool (D.toBool (D.cell (List.getD ρ1 0 D.no) 2))], D.str (([32, 34] : List UInt8) ++ D.toStr (D.cell n1 4) ++ ([34] : List UInt8))]) fun ρ5 =>
 opt (RUN E 97 [D.agg [D.list (D.toList (D.cell (List.getD ρ5 0 D.no) 0)), D.bool (D.toBool (D.cell (List.getD ρ5 0 D.no) 1)), D.bool (D.toBool (D.cell (List.getD ρ5 0 D.no) 2))], D.str (([41] : List UInt8))]) fun ρ6 =>
 some [D.agg [D.list (D.toList (D.cell (List.getD ρ6 0 D.no) 0)), D.bool (D.toBool (D.cell (List.getD ρ6 0 D.no) 1)), D.bool (D.toBool (D.cell (List.getD ρ6 0 D.no) 2))]])
 (none))
 (none))
 (opt (RUN E 97 [D.agg [D.list (D.toList (D.cell (List.getD ρ1 0 D.no) 0)), D.bool (D.toBool (D.cell (List.getD ρ1 0 D.no) 1)), D.bool (D.toBool (D.cell (List.getD ρ1 0 D.no) 2))], D.str (([41] : List UInt8))]) fun ρ3 =>
 some [D.agg [D.list (D.toList (D.cell (List.getD ρ3 0 D.no) 0)), D.bool (D.toBool (D.cell (List.getD ρ3 0 D.no) 1)), D.bool (D.toBool (D.cell (List.getD ρ3 0 D.no) 2))]]))
 (none) := (RUN_eq _ _ _).trans (by kernel_rfl)
/-! masthead/mark.slashed -/
def h100a (s0 : List UInt8) (bytes1 : List UInt8) (i6 : Int) (out5s : List D) : St := mkSt 30 [(0, SV.val KT.str (D.str s0)), (1, SV.val KT.str (D.str bytes1)), (5, SV.own 5), (6, SV.val (KT.int IntKind.i64) (D.int i6))] [(5, Obj.arr 5 out5s)]
noncomputable def L100a (s0 : List UInt8) (bytes1 : List UInt8) (i6 : Int) (out5s : List D) : R := LOOP E (RUN E) 100 Tryz.f100 [1, 1, 0, 1, 0] (h100a s0 bytes1 i6 out5s)
theorem enter100 (s0 : List UInt8) (bytes1 : List UInt8) : RUN E 100 [D.str s0, D.str bytes1] =
 L100a s0 bytes1 0 [] := (RUN_eq _ _ _).trans (by kernel_rfl)
theorem round100a (s0 : List UInt8) (bytes1 : List UInt8) (i6 : Int) (out5s : List D) : L100a s0 bytes1 i6 out5s =
 cond (decide (i6 < (↑(List.length s0) : Int)))
 (cond (inb i6 (List.length s0))
 (opt (RUN E 85 [D.str bytes1, D.int (↑(UInt8.toNat (List.getD s0 (Int.toNat i6) 0)) : Int)]) fun ρ2 =>
 cond (decide (0 ≤ D.toInt (List.getD ρ2 0 D.no)))
 (cond (fitL (List.length out5s) (List.length [D.int 92]))
 (cond (inb i6 (List.length s0))
 (cond (fitL (List.length (out5s ++ [D.int 92])) (List.length [D.int (↑(UInt8.toNat (List.getD s0 (Int.toNat i6) 0)) : Int)]))
 (L100a s0 bytes1 (IntKind.wrap IntKind.i64 (i6 + 1)) (out5s ++ [D.int 92] ++ [D.int (↑(UInt8.toNat (List.getD s0 (Int.toNat i6) 0)) : Int)]))
 (none))
 (none))
 (none))
 (cond (inb i6 (List.length s0))
 (cond (fitL (List.length out5s) (List.length [D.int (↑(UInt8.toNat (List.getD s0 (Int.toNat i6) 0)) : Int)]))
 (L100a s0 bytes1 (IntKind.wrap IntKind.i64 (i6 + 1)) (out5s ++ [D.int (↑(UInt8.toNat (List.getD s0 (Int.toNat i6) 0)) : Int)]))
 (none))
 (none)))
 (none))
 (some [D.str (dBytes out5s)]) := (LOOP_eq _ _ _ _ _ _).trans (by kernel_rfl)
/-! masthead/mastref1.goodTarget -/
def h101a (i3 : Int) (x1 : D) : St := mkSt 31 [(1, SV.bptr 1 37 0 (KT.agg 37)), (3, SV.val (KT.int IntKind.i64) (D.int i3))] [(1, Obj.box 37 (BC.whole x1))]
noncomputable def L101a (i3 : Int) (x1 : D) : R := LOOP E (RUN E) 101 Tryz.f101 [1, 1, 0, 1, 0] (h101a i3 x1)
theorem enter101 (x0 : D) : RUN E 101 [x0] =
 cond (decide (D.toStr (D.cell x0 3) = ([] : List UInt8)))
 (some [D.bool false])
 (L101a 0 x0) := (RUN_eq _ _ _).trans (by kernel_rfl)
theorem round101a (i3 : Int) (x1 : D) : L101a i3 x1 =
 cond (decide (i3 < (↑(List.length (D.toStr (D.cell x1 3))) : Int)))
 (cond (inb i3 (List.length (D.toStr (D.cell x1 3))))
 (cond (bif inb i3 (List.length (D.toStr (D.cell x1 3))) then true else bif bif decide ((↑(UInt8.toNat (List.getD (D.toStr (D.cell x1 3)) (Int.toNat i3) 0)) : Int) ≤ 32) then false else true then false else true)
 (opt (cond (bif decide ((↑(UInt8.toNat (List.getD (D.toStr (D.cell x1 3)) (Int.toNat i3) 0)) : Int) ≤ 32) then false else true)
 (RUN E 85 [D.str (([40, 41, 34, 92] : List UInt8)), D.int (↑(UInt8.toNat (List.getD (D.toStr (D.cell x1 3)) (Int.toNat i3) 0)) : Int)])
 (some [])) fun ρ3 =>
 cond (bif decide ((↑(UInt8.toNat (List.getD (D.toStr (D.cell x1 3)) (Int.toNat i3) 0)) : Int) ≤ 32) then true else decide (0 ≤ D.toInt (List.getD ρ3 0 D.no)))
 (some [D.bool false])
 (L101a (IntKind.wrap IntKind.i64 (i3 + 1)) x1))
 (none))
 (none))
 (opt (RUN E 102 [D.str (D.toStr (D.cell x1 4)), D.str (([34, 92, 10] : List UInt8))]) fun ρ1 =>
 some [D.bool !D.toBool (List.getD ρ1 0 D.no)]) := (LOOP_eq _ _ _ _ _ _).trans (by kernel_rfl)
/-! internal/stringslite.TrimSuffix -/
theorem enter111 (s0 : List UInt8) (suffix1 : List UInt8) : RUN E 111 [D.str s0, D.str suffix1] =
 opt (RUN E 78 [D.str s0, D.str suffix1]) fun ρ0 =>
 cond (D.toBool (List.getD ρ0 0 D.no))
 (cond (cutOk (List.length s0) none (some (IntKind.wrap IntKind.i64 ((↑(List.length s0) : Int) - (↑(List.length suffix1) : Int)))))
 (some [D.str (cutL s0 none (some (IntKind.wrap IntKind.i64 ((↑(List.length s0) : Int) - (↑(List.length suffix1) : Int)))))])
 (none))
 (some [D.str s0]) := (RUN_eq _ _ _).trans (by kernel_rfl)
/-! masthead/mark.isStar -/
theorem enter112 (n0 : D) : RUN E 112 [n0] =
 some [D.bool (bif decide (D.toInt (D.cell n0 0) = 14) then true else decide (D.toInt (D.cell n0 0) = 15))] := (RUN_eq _ _ _).trans (by kernel_rfl)
/-! (masthead/mark.within).barless -/
theorem enter113 (w0 : D) (s1 : List UInt8) : RUN E 113 [w0, D.str s1] =
 opt (cond (bif bif decide (D.toInt (D.cell w0 3) = 10) then false else true then false else true)
 (RUN E 85 [D.str s1, D.int 124])
 (some [])) fun ρ0 =>
 some [D.bool (bif !decide (D.toInt (D.cell w0 3) = 10) then true else decide (D.toInt (List.getD ρ0 0 D.no) < 0))] := (RUN_eq _ _ _).trans (by kernel_rfl)
/-! (masthead/mark.within).target -/
def h114a (i5 : Int) (w2 : D) (n3 : D) : St := mkSt 48 [(2, SV.bptr 2 84 0 (KT.agg 84)), (3, SV.bptr 3 37 0 (KT.agg 37)), (5, SV.val (KT.int IntKind.i64) (D.int i5))] [(2, Obj.box 84 (BC.whole w2)), (3, Obj.box 37 (BC.whole n3))]
noncomputable def L114a (i5 : Int) (w2 : D) (n3 : D) : R := LOOP E (RUN E) 114 Tryz.f114 [1, 0, 1, 0] (h114a i5 w2 n3)
def h114b (i6 : Int) (w2 : D) (n3 : D) : St := mkSt 48 [(2, SV.bptr 2 84 0 (KT.agg 84)), (3, SV.bptr 3 37 0 (KT.agg 37)), (6, SV.val (KT.int IntKind.i64) (D.int i6))] [(2, Obj.box 84 (BC.whole w2)), (3, Obj.box 37 (BC.whole n3))]
noncomputable def L114b (i6 : Int) (w2 : D) (n3 : D) : R := LOOP E (RUN E) 114 Tryz.f114 [1, 1, 0, 1, 0] (h114b i6 w2 n3)
theorem enter114 (w0 : D) (n1 : D) : RUN E 114 [w0, n1] =
 L114a 0 w0 n1 := (RUN_eq _ _ _).trans (by kernel_rfl)
theorem round114a (i5 : Int) (w2 : D) (n3 : D) : L114a i5 w2 n3 =
 cond (decide (i5 < (↑(List.length (D.toStr (D.cell n3 3))) : Int)))
 (cond (inb i5 (List.length (D.toStr (D.cell n3 3))))
 (opt (RUN E 133 [D.int (↑(UInt8.toNat (List.getD (D.toStr (D.cell n3 3)) (Int.toNat i5) 0)) : Int)]) fun ρ2 =>
 cond (bif D.toBool (List.getD ρ2 0 D.no) then false else true)
 (some [D.bool false])
 (L114a (IntKind.wrap IntKind.i64 (i5 + 1)) w2 n3))
 (none))
 (L114b 0 w2 n3) := (LOOP_eq _ _ _ _ _ _).trans (by kernel_rfl)
theorem round114b (i6 : Int) (w2 : D) (n3 : D) : L114b i6 w2 n3 =
 cond (decide (i6 < (↑(List.length (D.toStr (D.cell n3 4))) : Int)))
 (cond (inb i6 (List.length (D.toStr (D.cell n3 4))))
 (opt (RUN E 134 [D.int (↑(UInt8.toNat (List.getD (D.toStr (D.cell n3 4)) (Int.toNat i6) 0)) : Int)]) fun ρ2 =>
 cond (bif D.toBool (List.getD ρ2 0 D.no) then false else true)
 (some [D.bool false])
 (L114b (IntKind.wrap IntKind.i64 (i6 + 1)) w2 n3))
 (none))
 (opt (cond (bif bif decide (D.toStr (D.cell n3 3) = ([] : List UInt8)) then false else true then true else false)
 (RUN E 113 [w2, D.str (D.toStr (D.cell n3 3))])
 (some [])) fun ρ1 =>
 opt (cond (bif bif bif decide (D.toStr (D.cell n3 3) = ([] : List UInt8)) then false else true then D.toBool (List.getD ρ1 0 D.no) else false then true else false)
 (RUN E 113 [w2, D.str (D.toStr (D.cell n3 4))])
 (some [])) fun ρ2 =>
 some [D.bool (bif bif !decide (D.toStr (D.cell n3 3) = ([] : List UInt8)) then D.toBool (List.getD ρ1 0 D.no) else false then D.toBool (List.getD ρ2 0 D.no) else false)]) := (LOOP_eq _ _ _ _ _ _).trans (by kernel_rfl)
/-! masthead/mark.isDigit -/
theorem enter115 (c0 : Int) : RUN E 115 [D.int c0] =
 some [D.bool (bif decide (48 ≤ c0) then decide (c0 ≤ 57) else false)] := (RUN_eq _ _ _).trans (by kernel_rfl)
/-! masthead/mark.inDest -/
theorem enter133 (c0 : Int) : RUN E 133 [D.int c0] =
 some [D.bool (bif bif bif bif decide (32 < c0) then !decide (c0 = 40) else false then !decide (c0 = 41) else false then !decide (c0 = 34) else false then !decide (c0 = 92) else false)] := (RUN_eq _ _ _).trans (by kernel_rfl)
/-! masthead/mark.inTitle -/
theorem enter134 (c0 : Int) : RUN E 134 [D.int c0] =
 some [D.bool (bif bif !decide (c0 = 34) then !decide (c0 = 92) else false then !decide (c0 = 10) else false)] := (RUN_eq _ _ _).trans (by kernel_rfl)
end Go.Proofs.YtlmfiknfkgdbpaaGreatDoor.pr
