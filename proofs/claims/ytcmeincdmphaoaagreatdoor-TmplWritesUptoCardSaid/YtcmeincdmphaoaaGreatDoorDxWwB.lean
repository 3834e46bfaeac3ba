/- A part of the proof. -/
import Derived.Test.YtcmeincdmphaoaaGreatDoorDxWwA
set_option linter.unusedVariables false
set_option linter.unusedSimpArgs false
namespace Go.Proofs.YtcmeincdmphaoaaGreatDoor.ww
open Go.Proofs.YtcmeincdmphaoaaGreatDoor.DS

/-! masthead/mastlaw1.TmplWrites -/
theorem enter3 (x0 : D) : RUN E 3 [x0] =
 opt (RUN E 5 [x0]) fun ρ0 =>
 opt (RUN E 6 [x0]) fun ρ1 =>
 cond (bif decide (D.toInt (List.getD ρ1 0 D.no) = 0) then false else true)
 (some [D.bool (bif decide (D.toStr (List.getD ρ0 0 D.no) = ([] : List UInt8)) then decide (D.toInt (List.getD ρ0 1 D.no) = D.toInt (List.getD ρ1 0 D.no)) else false)])
 (opt (RUN E 7 [x0]) fun ρ3 =>
 some [D.bool (bif decide (D.toStr (List.getD ρ0 0 D.no) = D.toStr (List.getD ρ3 0 D.no)) then decide (D.toInt (List.getD ρ0 1 D.no) = 0) else false)]) := (RUN_eq _ _ _).trans (by kernel_rfl)
/-! masthead/tmpl.PrintExpr -/
theorem enter5 (x0 : D) : RUN E 5 [x0] =
 opt (RUN E 11 [x0]) fun ρ0 =>
 cond (bif decide (D.toInt (List.getD ρ0 0 D.no) = 0) then false else true)
 (some [D.str (([] : List UInt8)), D.int (D.toInt (List.getD ρ0 0 D.no))])
 (opt (RUN E 12 [x0]) fun ρ2 =>
 cond (decide (12 < D.toInt (List.getD ρ2 0 D.no)))
 (some [D.str (([] : List UInt8)), D.int 13])
 (opt (RUN E 13 [x0, D.int 1]) fun ρ4 =>
 some [D.str (D.toStr (List.getD ρ4 0 D.no)), D.int 0])) := (RUN_eq _ _ _).trans (by kernel_rfl)
/-! masthead/mastref1.ExprError -/
theorem enter6 (x0 : D) : RUN E 6 [x0] =
 opt (RUN E 14 [x0]) fun ρ0 =>
 cond (bif decide (D.toInt (List.getD ρ0 0 D.no) = 0) then false else true)
 (some [D.int (D.toInt (List.getD ρ0 0 D.no))])
 (opt (RUN E 15 [x0]) fun ρ2 =>
 cond (decide (12 < D.toInt (List.getD ρ2 0 D.no)))
 (some [D.int 13])
 (some [D.int 0])) := (RUN_eq _ _ _).trans (by kernel_rfl)
/-! masthead/mastref1.ExprText -/
def h7a (v79 : List D) (v80 : Int) (v81 : Int) (l3s : List D) (x1 : D) : St := mkSt 150 [(1, SV.bptr 1 28 0 (KT.agg 28)), (3, SV.own 3), (79, SV.val (KT.slice 28) (D.list v79)), (80, SV.val (KT.int IntKind.i64) (D.int v80)), (81, SV.val (KT.int IntKind.i64) (D.int v81))] [(3, Obj.arr 9 l3s), (1, Obj.box 28 (BC.whole x1))]
noncomputable def L7a (v79 : List D) (v80 : Int) (v81 : Int) (l3s : List D) (x1 : D) : R := LOOP E (RUN E) 7 Tryz.f7 [1, 0, 1, 0, 1, 1, 1, 1, 1, 1, 1, 1, 1, 1, 1, 0, 1, 0, 1, 0] (h7a v79 v80 v81 l3s x1)
theorem enter7 (x0 : D) : RUN E 7 [x0] =
 cond (decide (D.toInt (D.cell x0 0) = 1))
 (cond (decide (D.toInt (D.cell x0 2) = 1))
 (opt (RUN E 16 [D.bool (D.toBool (D.cell x0 3))]) fun ρ2 =>
 some [D.str (D.toStr (List.getD ρ2 0 D.no))])
 (cond (decide (D.toInt (D.cell x0 2) = 2))
 (opt (RUN E 17 [D.int (D.toInt (D.cell x0 4))]) fun ρ3 =>
 some [D.str (D.toStr (List.getD ρ3 0 D.no))])
 (cond (decide (D.toInt (D.cell x0 2) = 3))
 (opt (RUN E 19 [D.str (D.toStr (D.cell x0 5)), D.str (([92, 34] : List UInt8))]) fun ρ4 =>
 opt (RUN E 18 [D.str (D.toStr (List.getD ρ4 0 D.no)), D.str (([10] : List UInt8)), D.str (([92, 110] : List UInt8))]) fun ρ5 =>
 cond (decide (List.length (([34] : List UInt8)) + List.length (D.toStr (List.getD ρ5 0 D.no)) ≤ lim))
 (cond (decide (List.length (([34] : List UInt8) ++ D.toStr (List.getD ρ5 0 D.no)) + List.length (([34] : List UInt8)) ≤ lim))
 (some [D.str (([34] : List UInt8) ++ D.toStr (List.getD ρ5 0 D.no) ++ ([34] : List UInt8))])
 (none))
 (none))
 (some [D.str (([110, 105, 108] : List UInt8))]))))
 (cond (decide (D.toInt (D.cell x0 0) = 2))
 (some [D.str (([46] : List UInt8))])
 (cond (decide (D.toInt (D.cell x0 0) = 3))
 (cond (decide (List.length (([36] : List UInt8)) + List.length (D.toStr (D.cell x0 1)) ≤ lim))
 (some [D.str (([36] : List UInt8) ++ D.toStr (D.cell x0 1))])
 (none))
 (cond (decide (D.toInt (D.cell x0 0) = 4))
 (cond (inb 0 (List.length (D.toList (D.cell x0 8))))
 (cond (decide (D.toInt (D.cell (List.getD (D.toList (D.cell x0 8)) 0 D.no) 0) = 2))
 (cond (decide (List.length (([46] : List UInt8)) + List.length (D.toStr (D.cell x0 1)) ≤ lim))
 (some [D.str (([46] : List UInt8) ++ D.toStr (D.cell x0 1))])
 (none))
 (cond (inb 0 (List.length (D.toList (D.cell x0 8))))
 (opt (RUN E 20 [List.getD (D.toList (D.cell x0 8)) 0 D.no, D.int 5]) fun ρ7 =>
 cond (decide (List.length (D.toStr (List.getD ρ7 0 D.no)) + List.length (([46] : List UInt8)) ≤ lim))
 (cond (decide (List.length (D.toStr (List.getD ρ7 0 D.no) ++ ([46] : List UInt8)) + List.length (D.toStr (D.cell x0 1)) ≤ lim))
 (some [D.str (D.toStr (List.getD ρ7 0 D.no) ++ ([46] : List UInt8) ++ D.toStr (D.cell x0 1))])
 (none))
 (none))
 (none)))
 (none))
 (cond (decide (D.toInt (D.cell x0 0) = 5))
 (cond (inb 0 (List.length (D.toList (D.cell x0 8))))
 (opt (RUN E 20 [List.getD (D.toList (D.cell x0 8)) 0 D.no, D.int 5]) fun ρ6 =>
 cond (decide (List.length (D.toStr (List.getD ρ6 0 D.no)) + List.length (([91] : List UInt8)) ≤ lim))
 (cond (inb 1 (List.length (D.toList (D.cell x0 8))))
 (opt (RUN E 7 [List.getD (D.toList (D.cell x0 8)) 1 D.no]) fun ρ9 =>
 cond (decide (List.length (D.toStr (List.getD ρ6 0 D.no) ++ ([91] : List UInt8)) + List.length (D.toStr (List.getD ρ9 0 D.no)) ≤ lim))
 (cond (decide (List.length (D.toStr (List.getD ρ6 0 D.no) ++ ([91] : List UInt8) ++ D.toStr (List.getD ρ9 0 D.no)) + List.length (([93] : List UInt8)) ≤ lim))
 (some [D.str (D.toStr (List.getD ρ6 0 D.no) ++ ([91] : List UInt8) ++ D.toStr (List.getD ρ9 0 D.no) ++ ([93] : List UInt8))])
 (none))
 (none))
 (none))
 (none))
 (none))
 (cond (decide (D.toInt (D.cell x0 0) = 6))
 (L7a (D.toList (D.cell x0 8)) ((↑(List.length (D.toList (D.cell x0 8))) : Int)) 0 [] x0)
 (cond (decide (D.toInt (D.cell x0 0) = 7))
 (cond (inb 0 (List.length (D.toList (D.cell x0 8))))
 (opt (RUN E 20 [List.getD (D.toList (D.cell x0 8)) 0 D.no, D.int 3]) fun ρ8 =>
 cond (decide (List.length (([110, 111, 116, 32] : List UInt8)) + List.length (D.toStr (List.getD ρ8 0 D.no)) ≤ lim))
 (some [D.str (([110, 111, 116, 32] : List UInt8) ++ D.toStr (List.getD ρ8 0 D.no))])
 (none))
 (none))
 (cond (decide (D.toInt (D.cell x0 0) = 8))
 (cond (inb 0 (List.length (D.toList (D.cell x0 8))))
 (opt (RUN E 20 [List.getD (D.toList (D.cell x0 8)) 0 D.no, D.int 2]) fun ρ9 =>
 cond (decide (List.length (D.toStr (List.getD ρ9 0 D.no)) + List.length (([32, 97, 110, 100, 32] : List UInt8)) ≤ lim))
 (cond (inb 1 (List.length (D.toList (D.cell x0 8))))
 (opt (RUN E 20 [List.getD (D.toList (D.cell x0 8)) 1 D.no, D.int 3]) fun ρ12 =>
 cond (decide (List.length (D.toStr (List.getD ρ9 0 D.no) ++ ([32, 97, 110, 100, 32] : List UInt8)) + List.length (D.toStr (List.getD ρ12 0 D.no)) ≤ lim))
 (some [D.str (D.toStr (List.getD ρ9 0 D.no) ++ ([32, 97, 110, 100, 32] : List UInt8) ++ D.toStr (List.getD ρ12 0 D.no))])
 (none))
 (none))
 (none))
 (none))
 (cond (decide (D.toInt (D.cell x0 0) = 9))
 (cond (inb 0 (List.length (D.toList (D.cell x0 8))))
 (opt (RUN E 20 [List.getD (D.toList (D.cell x0 8)) 0 D.no, D.int 1]) fun ρ10 =>
 cond (decide (List.length (D.toStr (List.getD ρ10 0 D.no)) + List.length (([32, 111, 114, 32] : List UInt8)) ≤ lim))
 (cond (inb 1 (List.length (D.toList (D.cell x0 8))))
 (opt (RUN E 20 [List.getD (D.toList (D.cell x0 8)) 1 D.no, D.int 2]) fun ρ13 =>
 cond (decide (List.length (D.toStr (List.getD ρ10 0 D.no) ++ ([32, 111, 114, 32] : List UInt8)) + List.length (D.toStr (List.getD ρ13 0 D.no)) ≤ lim))
 (some [D.str (D.toStr (List.getD ρ10 0 D.no) ++ ([32, 111, 114, 32] : List UInt8) ++ D.toStr (List.getD ρ13 0 D.no))])
 (none))
 (none))
 (none))
 (none))
 (cond (inb 0 (List.length (D.toList (D.cell x0 8))))
 (opt (RUN E 20 [List.getD (D.toList (D.cell x0 8)) 0 D.no, D.int 5]) fun ρ10 =>
 cond (decide (List.length (D.toStr (List.getD ρ10 0 D.no)) + List.length (([32] : List UInt8)) ≤ lim))
 (cond (decide (List.length (D.toStr (List.getD ρ10 0 D.no) ++ ([32] : List UInt8)) + List.length (D.toStr (D.cell x0 1)) ≤ lim))
 (cond (decide (List.length (D.toStr (List.getD ρ10 0 D.no) ++ ([32] : List UInt8) ++ D.toStr (D.cell x0 1)) + List.length (([32] : List UInt8)) ≤ lim))
 (cond (inb 1 (List.length (D.toList (D.cell x0 8))))
 (opt (RUN E 20 [List.getD (D.toList (D.cell x0 8)) 1 D.no, D.int 5]) fun ρ15 =>
 cond (decide (List.length (D.toStr (List.getD ρ10 0 D.no) ++ ([32] : List UInt8) ++ D.toStr (D.cell x0 1) ++ ([32] : List UInt8)) + List.length (D.toStr (List.getD ρ15 0 D.no)) ≤ lim))
 (some [D.str (D.toStr (List.getD ρ10 0 D.no) ++ ([32] : List UInt8) ++ D.toStr (D.cell x0 1) ++ ([32] : List UInt8) ++ D.toStr (List.getD ρ15 0 D.no))])
 (none))
 (none))
 (none))
 (none))
 (none))
 (none)))))))))) := (RUN_eq _ _ _).trans (by kernel_rfl)
theorem round7a (v79 : List D) (v80 : Int) (v81 : Int) (l3s : List D) (x1 : D) : L7a v79 v80 v81 l3s x1 =
 cond (decide (v81 < v80))
 (cond (inb v81 (List.length v79))
 (opt (RUN E 7 [List.getD v79 (Int.toNat v81) D.no]) fun ρ2 =>
 cond (fitL (List.length l3s) (List.length [D.str (D.toStr (List.getD ρ2 0 D.no))]))
 (L7a v79 v80 (IntKind.wrap IntKind.i64 (v81 + 1)) (l3s ++ [D.str (D.toStr (List.getD ρ2 0 D.no))]) x1)
 (none))
 (none))
 (cond (decide (List.length (D.toStr (D.cell x1 1)) + List.length (([40] : List UInt8)) ≤ lim))
 (opt (RUN E 21 [D.list l3s, D.str (([44, 32] : List UInt8))]) fun ρ2 =>
 cond (decide (List.length (D.toStr (D.cell x1 1) ++ ([40] : List UInt8)) + List.length (D.toStr (List.getD ρ2 0 D.no)) ≤ lim))
 (cond (decide (List.length (D.toStr (D.cell x1 1) ++ ([40] : List UInt8) ++ D.toStr (List.getD ρ2 0 D.no)) + List.length (([41] : List UInt8)) ≤ lim))
 (some [D.str (D.toStr (D.cell x1 1) ++ ([40] : List UInt8) ++ D.toStr (List.getD ρ2 0 D.no) ++ ([41] : List UInt8))])
 (none))
 (none))
 (none)) := (LOOP_eq _ _ _ _ _ _).trans (by kernel_rfl)
/-! masthead/tmpl.exprsFault -/
def h11a (v13 : List D) (v14 : Int) (v15 : Int) : St := mkSt 25 [(13, SV.val (KT.slice 28) (D.list v13)), (14, SV.val (KT.int IntKind.i64) (D.int v14)), (15, SV.val (KT.int IntKind.i64) (D.int v15))] []
noncomputable def L11a (v13 : List D) (v14 : Int) (v15 : Int) : R := LOOP E (RUN E) 11 Tryz.f11 [1, 1, 0, 1, 0] (h11a v13 v14 v15)
theorem enter11 (x0 : D) : RUN E 11 [x0] =
 opt (RUN E 31 [x0]) fun ρ0 =>
 cond (bif decide (D.toInt (List.getD ρ0 0 D.no) = 0) then false else true)
 (some [D.int (D.toInt (List.getD ρ0 0 D.no))])
 (L11a (D.toList (D.cell x0 8)) ((↑(List.length (D.toList (D.cell x0 8))) : Int)) 0) := (RUN_eq _ _ _).trans (by kernel_rfl)
theorem round11a (v13 : List D) (v14 : Int) (v15 : Int) : L11a v13 v14 v15 =
 cond (decide (v15 < v14))
 (cond (inb v15 (List.length v13))
 (opt (RUN E 11 [List.getD v13 (Int.toNat v15) D.no]) fun ρ2 =>
 cond (bif decide (D.toInt (List.getD ρ2 0 D.no) = 0) then false else true)
 (some [D.int (D.toInt (List.getD ρ2 0 D.no))])
 (L11a v13 v14 (IntKind.wrap IntKind.i64 (v15 + 1))))
 (none))
 (some [D.int 0]) := (LOOP_eq _ _ _ _ _ _).trans (by kernel_rfl)
/-! masthead/tmpl.depth -/
def h12a (n3 : Int) (v7 : List D) (v8 : Int) (v9 : Int) : St := mkSt 20 [(3, SV.val (KT.int IntKind.i64) (D.int n3)), (7, SV.val (KT.slice 28) (D.list v7)), (8, SV.val (KT.int IntKind.i64) (D.int v8)), (9, SV.val (KT.int IntKind.i64) (D.int v9))] []
noncomputable def L12a (n3 : Int) (v7 : List D) (v8 : Int) (v9 : Int) : R := LOOP E (RUN E) 12 Tryz.f12 [1, 1, 0, 1, 0] (h12a n3 v7 v8 v9)
theorem enter12 (x0 : D) : RUN E 12 [x0] =
 L12a 0 (D.toList (D.cell x0 8)) ((↑(List.length (D.toList (D.cell x0 8))) : Int)) 0 := (RUN_eq _ _ _).trans (by kernel_rfl)
theorem round12a (n3 : Int) (v7 : List D) (v8 : Int) (v9 : Int) : L12a n3 v7 v8 v9 =
 cond (decide (v9 < v8))
 (cond (inb v9 (List.length v7))
 (opt (RUN E 12 [List.getD v7 (Int.toNat v9) D.no]) fun ρ2 =>
 L12a (mmInt true n3 (D.toInt (List.getD ρ2 0 D.no))) v7 v8 (IntKind.wrap IntKind.i64 (v9 + 1)))
 (none))
 (some [D.int (IntKind.wrap IntKind.i64 (n3 + 1))]) := (LOOP_eq _ _ _ _ _ _).trans (by kernel_rfl)
/-! masthead/tmpl.printed -/
def h13a (out5 : List UInt8) (v71 : List D) (v72 : Int) (v73 : Int) : St := mkSt 143 [(5, SV.val KT.str (D.str out5)), (71, SV.val (KT.slice 28) (D.list v71)), (72, SV.val (KT.int IntKind.i64) (D.int v72)), (73, SV.val (KT.int IntKind.i64) (D.int v73))] []
noncomputable def L13a (out5 : List UInt8) (v71 : List D) (v72 : Int) (v73 : Int) : R := LOOP E (RUN E) 13 Tryz.f13 [1, 1, 0, 1, 0, 1, 1, 1, 1, 1, 1, 1, 1, 1, 1, 1, 0, 1, 0, 1, 0] (h13a out5 v71 v72 v73)
theorem enter13 (x0 : D) (least1 : Int) : RUN E 13 [x0, D.int least1] =
 opt (RUN E 32 [D.int (D.toInt (D.cell x0 0))]) fun ρ0 =>
 cond (decide (D.toInt (List.getD ρ0 0 D.no) < least1))
 (opt (RUN E 13 [x0, D.int 1]) fun ρ2 =>
 cond (decide (List.length (([40] : List UInt8)) + List.length (D.toStr (List.getD ρ2 0 D.no)) ≤ lim))
 (cond (decide (List.length (([40] : List UInt8) ++ D.toStr (List.getD ρ2 0 D.no)) + List.length (([41] : List UInt8)) ≤ lim))
 (some [D.str (([40] : List UInt8) ++ D.toStr (List.getD ρ2 0 D.no) ++ ([41] : List UInt8))])
 (none))
 (none))
 (cond (decide (D.toInt (D.cell x0 0) = 1))
 (opt (RUN E 33 [D.agg (List.take (List.length (TI.cells { kt := KT.agg 25, cells := [KT.int IntKind.i64, KT.bool, KT.int IntKind.i64, KT.str, KT.slice 25, KT.slice 9], fields := [(0, 3), (1, 4), (2, 3), (3, 9), (4, 22), (5, 23)], bytes := 88 })) (List.drop (0 + Prod.fst (2, 25)) (D.cells x0)))]) fun ρ3 =>
 some [D.str (D.toStr (List.getD ρ3 0 D.no))])
 (cond (decide (D.toInt (D.cell x0 0) = 2))
 (some [D.str (([46] : List UInt8))])
 (cond (decide (D.toInt (D.cell x0 0) = 3))
 (cond (decide (List.length (([36] : List UInt8)) + List.length (D.toStr (D.cell x0 1)) ≤ lim))
 (some [D.str (([36] : List UInt8) ++ D.toStr (D.cell x0 1))])
 (none))
 (cond (decide (D.toInt (D.cell x0 0) = 4))
 (cond (inb 0 (List.length (D.toList (D.cell x0 8))))
 (cond (decide (D.toInt (D.cell (List.getD (D.toList (D.cell x0 8)) 0 D.no) 0) = 2))
 (cond (decide (List.length (([46] : List UInt8)) + List.length (D.toStr (D.cell x0 1)) ≤ lim))
 (some [D.str (([46] : List UInt8) ++ D.toStr (D.cell x0 1))])
 (none))
 (cond (inb 0 (List.length (D.toList (D.cell x0 8))))
 (opt (RUN E 13 [List.getD (D.toList (D.cell x0 8)) 0 D.no, D.int 5]) fun ρ9 =>
 cond (decide (List.length (D.toStr (List.getD ρ9 0 D.no)) + List.length (([46] : List UInt8)) ≤ lim))
 (cond (decide (List.length (D.toStr (List.getD ρ9 0 D.no) ++ ([46] : List UInt8)) + List.length (D.toStr (D.cell x0 1)) ≤ lim))
 (some [D.str (D.toStr (List.getD ρ9 0 D.no) ++ ([46] : List UInt8) ++ D.toStr (D.cell x0 1))])
 (none))
 (none))
 (none)))
 (none))
 (cond (decide (D.toInt (D.cell x0 0) = 5))
 (cond (inb 0 (List.length (D.toList (D.cell x0 8))))
 (opt (RUN E 13 [List.getD (D.toList (D.cell x0 8)) 0 D.no, D.int 5]) fun ρ8 =>
 cond (decide (List.length (D.toStr (List.getD ρ8 0 D.no)) + List.length (([91] : List UInt8)) ≤ lim))
 (cond (inb 1 (List.length (D.toList (D.cell x0 8))))
 (opt (RUN E 13 [List.getD (D.toList (D.cell x0 8)) 1 D.no, D.int 1]) fun ρ11 =>
 cond (decide (List.length (D.toStr (List.getD ρ8 0 D.no) ++ ([91] : List UInt8)) + List.length (D.toStr (List.getD ρ11 0 D.no)) ≤ lim))
 (cond (decide (List.length (D.toStr (List.getD ρ8 0 D.no) ++ ([91] : List UInt8) ++ D.toStr (List.getD ρ11 0 D.no)) + List.length (([93] : List UInt8)) ≤ lim))
 (some [D.str (D.toStr (List.getD ρ8 0 D.no) ++ ([91] : List UInt8) ++ D.toStr (List.getD ρ11 0 D.no) ++ ([93] : List UInt8))])
 (none))
 (none))
 (none))
 (none))
 (none))
 (cond (decide (D.toInt (D.cell x0 0) = 6))
 (L13a (D.toStr (D.cell x0 1)) (D.toList (D.cell x0 8)) ((↑(List.length (D.toList (D.cell x0 8))) : Int)) 0)
 (cond (decide (D.toInt (D.cell x0 0) = 7))
 (cond (inb 0 (List.length (D.toList (D.cell x0 8))))
 (opt (RUN E 13 [List.getD (D.toList (D.cell x0 8)) 0 D.no, D.int 3]) fun ρ10 =>
 cond (decide (List.length (([110, 111, 116, 32] : List UInt8)) + List.length (D.toStr (List.getD ρ10 0 D.no)) ≤ lim))
 (some [D.str (([110, 111, 116, 32] : List UInt8) ++ D.toStr (List.getD ρ10 0 D.no))])
 (none))
 (none))
 (cond (decide (D.toInt (D.cell x0 0) = 8))
 (cond (inb 0 (List.length (D.toList (D.cell x0 8))))
 (opt (RUN E 13 [List.getD (D.toList (D.cell x0 8)) 0 D.no, D.int 2]) fun ρ11 =>
 cond (decide (List.length (D.toStr (List.getD ρ11 0 D.no)) + List.length (([32, 97, 110, 100, 32] : List UInt8)) ≤ lim))
 (cond (inb 1 (List.length (D.toList (D.cell x0 8))))
 (opt (RUN E 13 [List.getD (D.toList (D.cell x0 8)) 1 D.no, D.int 3]) fun ρ14 =>
 cond (decide (List.length (D.toStr (List.getD ρ11 0 D.no) ++ ([32, 97, 110, 100, 32] : List UInt8)) + List.length (D.toStr (List.getD ρ14 0 D.no)) ≤ lim))
 (some [D.str (D.toStr (List.getD ρ11 0 D.no) ++ ([32, 97, 110, 100, 32] : List UInt8) ++ D.toStr (List.getD ρ14 0 D.no))])
 (none))
 (none))
 (none))
 (none))
 (cond (decide (D.toInt (D.cell x0 0) = 9))
 (cond (inb 0 (List.length (D.toList (D.cell x0 8))))
 (opt (RUN E 13 [List.getD (D.toList (D.cell x0 8)) 0 D.no, D.int 1]) fun ρ12 =>
 cond (decide (List.length (D.toStr (List.getD ρ12 0 D.no)) + List.length (([32, 111, 114, 32] : List UInt8)) ≤ lim))
 (cond (inb 1 (List.length (D.toList (D.cell x0 8))))
 (opt (RUN E 13 [List.getD (D.toList (D.cell x0 8)) 1 D.no, D.int 2]) fun ρ15 =>
 cond (decide (List.length (D.toStr (List.getD ρ12 0 D.no) ++ ([32, 111, 114, 32] : List UInt8)) + List.length (D.toStr (List.getD ρ15 0 D.no)) ≤ lim))
 (some [D.str (D.toStr (List.getD ρ12 0 D.no) ++ ([32, 111, 114, 32] : List UInt8) ++ D.toStr (List.getD ρ15 0 D.no))])
 (none))
 (none))
 (none))
 (none))
 (cond (inb 0 (List.length (D.toList (D.cell x0 8))))
 (opt (RUN E 13 [List.getD (D.toList (D.cell x0 8)) 0 D.no, D.int 5]) fun ρ12 =>
 cond (decide (List.length (D.toStr (List.getD ρ12 0 D.no)) + List.length (([32] : List UInt8)) ≤ lim))
 (cond (decide (List.length (D.toStr (List.getD ρ12 0 D.no) ++ ([32] : List UInt8)) + List.length (D.toStr (D.cell x0 1)) ≤ lim))
 (cond (decide (List.length (D.toStr (List.getD ρ12 0 D.no) ++ ([32] : List UInt8) ++ D.toStr (D.cell x0 1)) + List.length (([32] : List UInt8)) ≤ lim))
 (cond (inb 1 (List.length (D.toList (D.cell x0 8))))
 (opt (RUN E 13 [List.getD (D.toList (D.cell x0 8)) 1 D.no, D.int 5]) fun ρ17 =>
 cond (decide (List.length (D.toStr (List.getD ρ12 0 D.no) ++ ([32] : List UInt8) ++ D.toStr (D.cell x0 1) ++ ([32] : List UInt8)) + List.length (D.toStr (List.getD ρ17 0 D.no)) ≤ lim))
 (some [D.str (D.toStr (List.getD ρ12 0 D.no) ++ ([32] : List UInt8) ++ D.toStr (D.cell x0 1) ++ ([32] : List UInt8) ++ D.toStr (List.getD ρ17 0 D.no))])
 (none))
 (none))
 (none))
 (none))
 (none))
 (none))))))))))) := (RUN_eq _ _ _).trans (by kernel_rfl)
theorem round13a (out5 : List UInt8) (v71 : List D) (v72 : Int) (v73 : Int) : L13a out5 v71 v72 v73 =
 cond (decide (v73 < v72))
 (cond (inb v73 (List.length v71))
 (cond (decide (v73 = 0))
 (cond (decide (List.length out5 + List.length (([40] : List UInt8)) ≤ lim))
 (opt (RUN E 13 [List.getD v71 (Int.toNat v73) D.no, D.int 1]) fun ρ4 =>
 cond (decide (List.length (out5 ++ ([40] : List UInt8)) + List.length (D.toStr (List.getD ρ4 0 D.no)) ≤ lim))
 (L13a (out5 ++ ([40] : List UInt8) ++ D.toStr (List.getD ρ4 0 D.no)) v71 v72 (IntKind.wrap IntKind.i64 (v73 + 1)))
 (none))
 (none))
 (cond (decide (List.length out5 + List.length (([44, 32] : List UInt8)) ≤ lim))
 (opt (RUN E 13 [List.getD v71 (Int.toNat v73) D.no, D.int 1]) fun ρ4 =>
 cond (decide (List.length (out5 ++ ([44, 32] : List UInt8)) + List.length (D.toStr (List.getD ρ4 0 D.no)) ≤ lim))
 (L13a (out5 ++ ([44, 32] : List UInt8) ++ D.toStr (List.getD ρ4 0 D.no)) v71 v72 (IntKind.wrap IntKind.i64 (v73 + 1)))
 (none))
 (none)))
 (none))
 (cond (decide (List.length out5 + List.length (([41] : List UInt8)) ≤ lim))
 (some [D.str (out5 ++ ([41] : List UInt8))])
 (none)) := (LOOP_eq _ _ _ _ _ _).trans (by kernel_rfl)
/-! masthead/mastref1.exprNodes -/
def h14a (v13 : List D) (v14 : Int) (v15 : Int) : St := mkSt 25 [(13, SV.val (KT.slice 28) (D.list v13)), (14, SV.val (KT.int IntKind.i64) (D.int v14)), (15, SV.val (KT.int IntKind.i64) (D.int v15))] []
noncomputable def L14a (v13 : List D) (v14 : Int) (v15 : Int) : R := LOOP E (RUN E) 14 Tryz.f14 [1, 1, 0, 1, 0] (h14a v13 v14 v15)
theorem enter14 (x0 : D) : RUN E 14 [x0] =
 opt (RUN E 34 [x0]) fun ρ0 =>
 cond (bif decide (D.toInt (List.getD ρ0 0 D.no) = 0) then false else true)
 (some [D.int (D.toInt (List.getD ρ0 0 D.no))])
 (L14a (D.toList (D.cell x0 8)) ((↑(List.length (D.toList (D.cell x0 8))) : Int)) 0) := (RUN_eq _ _ _).trans (by kernel_rfl)
theorem round14a (v13 : List D) (v14 : Int) (v15 : Int) : L14a v13 v14 v15 =
 cond (decide (v15 < v14))
 (cond (inb v15 (List.length v13))
 (opt (RUN E 14 [List.getD v13 (Int.toNat v15) D.no]) fun ρ2 =>
 cond (bif decide (D.toInt (List.getD ρ2 0 D.no) = 0) then false else true)
 (some [D.int (D.toInt (List.getD ρ2 0 D.no))])
 (L14a v13 v14 (IntKind.wrap IntKind.i64 (v15 + 1))))
 (none))
 (some [D.int 0]) := (LOOP_eq _ _ _ _ _ _).trans (by kernel_rfl)
/-! masthead/mastref1.Depth -/
def h15a (d3 : Int) (v7 : List D) (v8 : Int) (v9 : Int) : St := mkSt 20 [(3, SV.val (KT.int IntKind.i64) (D.int d3)), (7, SV.val (KT.slice 28) (D.list v7)), (8, SV.val (KT.int IntKind.i64) (D.int v8)), (9, SV.val (KT.int IntKind.i64) (D.int v9))] []
noncomputable def L15a (d3 : Int) (v7 : List D) (v8 : Int) (v9 : Int) : R := LOOP E (RUN E) 15 Tryz.f15 [1, 1, 0, 1, 0] (h15a d3 v7 v8 v9)
theorem enter15 (x0 : D) : RUN E 15 [x0] =
 L15a 0 (D.toList (D.cell x0 8)) ((↑(List.length (D.toList (D.cell x0 8))) : Int)) 0 := (RUN_eq _ _ _).trans (by kernel_rfl)
theorem round15a (d3 : Int) (v7 : List D) (v8 : Int) (v9 : Int) : L15a d3 v7 v8 v9 =
 cond (decide (v9 < v8))
 (cond (inb v9 (List.length v7))
 (opt (RUN E 15 [List.getD v7 (Int.toNat v9) D.no]) fun ρ2 =>
 L15a (mmInt true d3 (D.toInt (List.getD ρ2 0 D.no))) v7 v8 (IntKind.wrap IntKind.i64 (v9 + 1)))
 (none))
 (some [D.int (IntKind.wrap IntKind.i64 (d3 + 1))]) := (LOOP_eq _ _ _ _ _ _).trans (by kernel_rfl)
/-! strconv.FormatBool -/
theorem enter16 (b0 : Bool) : RUN E 16 [D.bool b0] =
 opt (RUN E 35 [D.bool b0]) fun ρ0 =>
 some [D.str (D.toStr (List.getD ρ0 0 D.no))] := (RUN_eq _ _ _).trans (by kernel_rfl)
/-! masthead/mastref1.escaped -/
def h19a (s0 : List UInt8) (bytes1 : List UInt8) (out5 : List UInt8) (i6 : Int) : St := mkSt 29 [(0, SV.val KT.str (D.str s0)), (1, SV.val KT.str (D.str bytes1)), (5, SV.val KT.str (D.str out5)), (6, SV.val (KT.int IntKind.i64) (D.int i6))] []
noncomputable def L19a (s0 : List UInt8) (bytes1 : List UInt8) (out5 : List UInt8) (i6 : Int) : R := LOOP E (RUN E) 19 Tryz.f19 [1, 1, 0, 1, 0] (h19a s0 bytes1 out5 i6)
theorem enter19 (s0 : List UInt8) (bytes1 : List UInt8) : RUN E 19 [D.str s0, D.str bytes1] =
 L19a s0 bytes1 (([] : List UInt8)) 0 := (RUN_eq _ _ _).trans (by kernel_rfl)
theorem round19a (s0 : List UInt8) (bytes1 : List UInt8) (out5 : List UInt8) (i6 : Int) : L19a s0 bytes1 out5 i6 =
 cond (decide (i6 < (↑(List.length s0) : Int)))
 (cond (inb i6 (List.length s0))
 (opt (RUN E 38 [D.str bytes1, D.int (↑(UInt8.toNat (List.getD s0 (Int.toNat i6) 0)) : Int)]) fun ρ2 =>
 cond (decide (0 ≤ D.toInt (List.getD ρ2 0 D.no)))
 (cond (decide (List.length out5 + List.length (([92] : List UInt8)) ≤ lim))
 (cond (cutOk (List.length s0) (some i6) (some (IntKind.wrap IntKind.i64 (i6 + 1))))
 (cond (decide (List.length (out5 ++ ([92] : List UInt8)) + List.length (cutL s0 (some i6) (some (IntKind.wrap IntKind.i64 (i6 + 1)))) ≤ lim))
 (L19a s0 bytes1 (out5 ++ ([92] : List UInt8) ++ cutL s0 (some i6) (some (IntKind.wrap IntKind.i64 (i6 + 1)))) (IntKind.wrap IntKind.i64 (i6 + 1)))
 (none))
 (none))
 (none))
 (cond (cutOk (List.length s0) (some i6) (some (IntKind.wrap IntKind.i64 (i6 + 1))))
 (cond (decide (List.length out5 + List.length (cutL s0 (some i6) (some (IntKind.wrap IntKind.i64 (i6 + 1)))) ≤ lim))
 (L19a s0 bytes1 (out5 ++ cutL s0 (some i6) (some (IntKind.wrap IntKind.i64 (i6 + 1)))) (IntKind.wrap IntKind.i64 (i6 + 1)))
 (none))
 (none)))
 (none))
 (some [D.str out5]) := (LOOP_eq _ _ _ _ _ _).trans (by kernel_rfl)
/-! masthead/mastref1.bracketed -/
theorem enter20 (x0 : D) (least1 : Int) : RUN E 20 [x0, D.int least1] =
 opt (RUN E 39 [D.int (D.toInt (D.cell x0 0))]) fun ρ0 =>
 cond (decide (D.toInt (List.getD ρ0 0 D.no) < least1))
 (opt (RUN E 7 [x0]) fun ρ2 =>
 cond (decide (List.length (([40] : List UInt8)) + List.length (D.toStr (List.getD ρ2 0 D.no)) ≤ lim))
 (cond (decide (List.length (([40] : List UInt8) ++ D.toStr (List.getD ρ2 0 D.no)) + List.length (([41] : List UInt8)) ≤ lim))
 (some [D.str (([40] : List UInt8) ++ D.toStr (List.getD ρ2 0 D.no) ++ ([41] : List UInt8))])
 (none))
 (none))
 (opt (RUN E 7 [x0]) fun ρ2 =>
 some [D.str (D.toStr (List.getD ρ2 0 D.no))]) := (RUN_eq _ _ _).trans (by kernel_rfl)
/-! masthead/tmpl.exprFault -/
theorem enter31 (x0 : D) : RUN E 31 [x0] =
 cond (bif decide (D.toInt (D.cell x0 0) < 1) then true else decide (10 < D.toInt (D.cell x0 0)))
 (some [D.int 10])
 (opt (RUN E 51 [D.int (D.toInt (D.cell x0 0))]) fun ρ1 =>
 opt (RUN E 52 [x0]) fun ρ2 =>
 cond (bif bif D.toBool (List.getD ρ2 0 D.no) then true else bif decide (0 ≤ D.toInt (List.getD ρ1 0 D.no)) then bif decide ((↑(List.length (D.toList (D.cell x0 8))) : Int) = D.toInt (List.getD ρ1 0 D.no)) then false else true else false then true else bif decide (D.toInt (List.getD ρ1 0 D.no) < 0) then decide ((↑(List.length (D.toList (D.cell x0 8))) : Int) = 0) else false)
 (some [D.int 1])
 (opt (cond (bif decide (D.toInt (D.cell x0 0) = 1) then true else false)
 (RUN E 53 [D.agg (List.take (List.length (TI.cells { kt := KT.agg 25, cells := [KT.int IntKind.i64, KT.bool, KT.int IntKind.i64, KT.str, KT.slice 25, KT.slice 9], fields := [(0, 3), (1, 4), (2, 3), (3, 9), (4, 22), (5, 23)], bytes := 88 })) (List.drop (0 + Prod.fst (2, 25)) (D.cells x0)))])
 (some [])) fun ρ4 =>
 opt (cond (bif bif bif decide (D.toInt (D.cell x0 0) = 1) then false else true then true else false then bif bif decide (D.toInt (D.cell x0 0) = 1) then D.toBool (List.getD ρ4 0 D.no) else false then false else true else false)
 (RUN E 54 [D.agg (List.take (List.length (TI.cells { kt := KT.agg 25, cells := [KT.int IntKind.i64, KT.bool, KT.int IntKind.i64, KT.str, KT.slice 25, KT.slice 9], fields := [(0, 3), (1, 4), (2, 3), (3, 9), (4, 22), (5, 23)], bytes := 88 })) (List.drop (0 + Prod.fst (2, 25)) (D.cells x0)))])
 (some [])) fun ρ5 =>
 cond (bif bif decide (D.toInt (D.cell x0 0) = 1) then D.toBool (List.getD ρ4 0 D.no) else false then true else bif bif decide (D.toInt (D.cell x0 0) = 1) then false else true then bif D.toBool (List.getD ρ5 0 D.no) then false else true else false)
 (some [D.int 1])
 (opt (RUN E 22 [D.str (D.toStr (D.cell x0 5))]) fun ρ7 =>
 cond (D.toBool (List.getD ρ7 0 D.no))
 (some [D.int 9])
 (opt (cond (bif decide (D.toInt (D.cell x0 0) = 6) then true else false)
 (RUN E 46 [D.str (D.toStr (D.cell x0 1))])
 (some [])) fun ρ9 =>
 cond (bif decide (D.toInt (D.cell x0 0) = 6) then bif decide (D.toInt (List.getD ρ9 0 D.no) = (↑(List.length (D.toList (D.cell x0 8))) : Int)) then false else true else false)
 (some [D.int 12])
 (some [D.int 0]))))) := (RUN_eq _ _ _).trans (by kernel_rfl)
/-! masthead/tmpl.level -/
theorem enter32 (kind0 : Int) : RUN E 32 [D.int kind0] =
 cond (decide (kind0 = 9))
 (some [D.int 1])
 (cond (decide (kind0 = 8))
 (some [D.int 2])
 (cond (decide (kind0 = 7))
 (some [D.int 3])
 (cond (decide (kind0 = 10))
 (some [D.int 4])
 (some [D.int 5])))) := (RUN_eq _ _ _).trans (by kernel_rfl)
/-! masthead/tmpl.printedConst -/
def h33a (i4 : Int) (out3s : List D) (v1 : D) : St := mkSt 52 [(1, SV.bptr 1 25 0 (KT.agg 25)), (3, SV.own 3), (4, SV.val (KT.int IntKind.i64) (D.int i4))] [(3, Obj.arr 5 out3s), (1, Obj.box 25 (BC.whole v1))]
noncomputable def L33a (i4 : Int) (out3s : List D) (v1 : D) : R := LOOP E (RUN E) 33 Tryz.f33 [1, 1, 1, 0, 1, 0] (h33a i4 out3s v1)
theorem enter33 (v0 : D) : RUN E 33 [v0] =
 cond (decide (D.toInt (D.cell v0 0) = 0))
 (some [D.str (([110, 105, 108] : List UInt8))])
 (cond (decide (D.toInt (D.cell v0 0) = 1))
 (cond (D.toBool (D.cell v0 1))
 (some [D.str (([116, 114, 117, 101] : List UInt8))])
 (some [D.str (([102, 97, 108, 115, 101] : List UInt8))]))
 (cond (decide (D.toInt (D.cell v0 0) = 2))
 (opt (RUN E 17 [D.int (D.toInt (D.cell v0 2))]) fun ρ3 =>
 some [D.str (D.toStr (List.getD ρ3 0 D.no))])
 (L33a 0 [D.int 34] v0))) := (RUN_eq _ _ _).trans (by kernel_rfl)
theorem round33a (i4 : Int) (out3s : List D) (v1 : D) : L33a i4 out3s v1 =
 cond (decide (i4 < (↑(List.length (D.toStr (D.cell v1 3))) : Int)))
 (cond (inb i4 (List.length (D.toStr (D.cell v1 3))))
 (cond (decide ((↑(UInt8.toNat (List.getD (D.toStr (D.cell v1 3)) (Int.toNat i4) 0)) : Int) = 34))
 (cond (decide ((↑(UInt8.toNat (List.getD (D.toStr (D.cell v1 3)) (Int.toNat i4) 0)) : Int) = 34))
 (cond (fitL (List.length out3s) (List.length [D.int 92, D.int (↑(UInt8.toNat (List.getD (D.toStr (D.cell v1 3)) (Int.toNat i4) 0)) : Int)]))
 (L33a (IntKind.wrap IntKind.i64 (i4 + 1)) (out3s ++ [D.int 92, D.int (↑(UInt8.toNat (List.getD (D.toStr (D.cell v1 3)) (Int.toNat i4) 0)) : Int)]) v1)
 (none))
 (cond (decide ((↑(UInt8.toNat (List.getD (D.toStr (D.cell v1 3)) (Int.toNat i4) 0)) : Int) = 10))
 (cond (fitL (List.length out3s) (List.length [D.int 92, D.int 110]))
 (L33a (IntKind.wrap IntKind.i64 (i4 + 1)) (out3s ++ [D.int 92, D.int 110]) v1)
 (none))
 (cond (fitL (List.length out3s) (List.length [D.int (↑(UInt8.toNat (List.getD (D.toStr (D.cell v1 3)) (Int.toNat i4) 0)) : Int)]))
 (L33a (IntKind.wrap IntKind.i64 (i4 + 1)) (out3s ++ [D.int (↑(UInt8.toNat (List.getD (D.toStr (D.cell v1 3)) (Int.toNat i4) 0)) : Int)]) v1)
 (none))))
 (cond (decide ((↑(UInt8.toNat (List.getD (D.toStr (D.cell v1 3)) (Int.toNat i4) 0)) : Int) = 92))
 (cond (fitL (List.length out3s) (List.length [D.int 92, D.int (↑(UInt8.toNat (List.getD (D.toStr (D.cell v1 3)) (Int.toNat i4) 0)) : Int)]))
 (L33a (IntKind.wrap IntKind.i64 (i4 + 1)) (out3s ++ [D.int 92, D.int (↑(UInt8.toNat (List.getD (D.toStr (D.cell v1 3)) (Int.toNat i4) 0)) : Int)]) v1)
 (none))
 (cond (decide ((↑(UInt8.toNat (List.getD (D.toStr (D.cell v1 3)) (Int.toNat i4) 0)) : Int) = 10))
 (cond (fitL (List.length out3s) (List.length [D.int 92, D.int 110]))
 (L33a (IntKind.wrap IntKind.i64 (i4 + 1)) (out3s ++ [D.int 92, D.int 110]) v1)
 (none))
 (cond (fitL (List.length out3s) (List.length [D.int (↑(UInt8.toNat (List.getD (D.toStr (D.cell v1 3)) (Int.toNat i4) 0)) : Int)]))
 (L33a (IntKind.wrap IntKind.i64 (i4 + 1)) (out3s ++ [D.int (↑(UInt8.toNat (List.getD (D.toStr (D.cell v1 3)) (Int.toNat i4) 0)) : Int)]) v1)
 (none)))))
 (none))
 (cond (fitL (List.length out3s) (List.length [D.int 34]))
 (some [D.str (dBytes (out3s ++ [D.int 34]))])
 (none)) := (LOOP_eq _ _ _ _ _ _).trans (by kernel_rfl)
/-! masthead/mastref1.exprNode -/
def h34a (x1 : D) : St := mkSt 111 [(1, SV.bptr 1 28 0 (KT.agg 28))] [(1, Obj.box 28 (BC.whole x1))]
noncomputable def C34a (x1 : D) : R := PART E (RUN E) 34 Tryz.f34 [1, 1, 1, 1, 1] (h34a x1)
theorem enter34 (x0 : D) : RUN E 34 [x0] =
 cond (bif decide (D.toInt (D.cell x0 0) < 1) then true else decide (10 < D.toInt (D.cell x0 0)))
 (some [D.int 10])
 (opt (RUN E 55 [D.int (D.toInt (D.cell x0 0))]) fun ρ1 =>
 opt (cond (bif bif decide (D.toInt (D.cell x0 0) = 1) then false else true then true else false)
 (RUN E 56 [D.agg (List.take (List.length (TI.cells { kt := KT.agg 25, cells := [KT.int IntKind.i64, KT.bool, KT.int IntKind.i64, KT.str, KT.slice 25, KT.slice 9], fields := [(0, 3), (1, 4), (2, 3), (3, 9), (4, 22), (5, 23)], bytes := 88 })) (List.drop (0 + Prod.fst (2, 25)) (D.cells x0)))])
 (some [])) fun ρ2 =>
 cond (bif bif decide (D.toInt (D.cell x0 0) = 1) then false else true then bif D.toBool (List.getD ρ2 0 D.no) then false else true else false)
 (cond (bif bif decide (D.toInt (D.cell x0 0) = 1) then false else true then bif D.toBool (List.getD ρ2 0 D.no) then false else true else false)
 (some [D.int 1])
 (opt (cond (bif bif bif decide (D.toInt (D.cell x0 0) = 3) then true else decide (D.toInt (D.cell x0 0) = 4) then true else decide (D.toInt (D.cell x0 0) = 6) then true else false)
 (RUN E 58 [D.str (D.toStr (D.cell x0 1))])
 (some [])) fun ρ5 =>
 cond (bif bif bif decide (D.toInt (D.cell x0 0) = 3) then true else decide (D.toInt (D.cell x0 0) = 4) then true else decide (D.toInt (D.cell x0 0) = 6) then bif D.toBool (List.getD ρ5 0 D.no) then false else true else false)
 (cond (bif bif bif decide (D.toInt (D.cell x0 0) = 3) then true else decide (D.toInt (D.cell x0 0) = 4) then true else decide (D.toInt (D.cell x0 0) = 6) then bif D.toBool (List.getD ρ5 0 D.no) then false else true else false)
 (some [D.int 1])
 (cond (bif decide (0 ≤ D.toInt (List.getD ρ1 0 D.no)) then bif decide ((↑(List.length (D.toList (D.cell x0 8))) : Int) = D.toInt (List.getD ρ1 0 D.no)) then false else true else false)
 (cond (bif decide (0 ≤ D.toInt (List.getD ρ1 0 D.no)) then bif decide ((↑(List.length (D.toList (D.cell x0 8))) : Int) = D.toInt (List.getD ρ1 0 D.no)) then false else true else false)
 (some [D.int 1])
 (C34a x0))
 (cond (bif decide (D.toInt (List.getD ρ1 0 D.no) < 0) then decide ((↑(List.length (D.toList (D.cell x0 8))) : Int) = 0) else false)
 (some [D.int 1])
 (C34a x0))))
 (opt (cond (bif decide (D.toInt (D.cell x0 0) = 10) then true else false)
 (RUN E 59 [D.str (D.toStr (D.cell x0 1))])
 (some [])) fun ρ7 =>
 cond (bif decide (D.toInt (D.cell x0 0) = 10) then bif D.toBool (List.getD ρ7 0 D.no) then false else true else false)
 (cond (bif decide (D.toInt (D.cell x0 0) = 10) then bif D.toBool (List.getD ρ7 0 D.no) then false else true else false)
 (some [D.int 1])
 (cond (bif decide (0 ≤ D.toInt (List.getD ρ1 0 D.no)) then bif decide ((↑(List.length (D.toList (D.cell x0 8))) : Int) = D.toInt (List.getD ρ1 0 D.no)) then false else true else false)
 (cond (bif decide (0 ≤ D.toInt (List.getD ρ1 0 D.no)) then bif decide ((↑(List.length (D.toList (D.cell x0 8))) : Int) = D.toInt (List.getD ρ1 0 D.no)) then false else true else false)
 (some [D.int 1])
 (C34a x0))
 (cond (bif decide (D.toInt (List.getD ρ1 0 D.no) < 0) then decide ((↑(List.length (D.toList (D.cell x0 8))) : Int) = 0) else false)
 (some [D.int 1])
 (C34a x0))))
 (cond (bif bif bif bif bif decide (D.toInt (D.cell x0 0) = 3) then true else decide (D.toInt (D.cell x0 0) = 4) then true else decide (D.toInt (D.cell x0 0) = 6) then false else true then bif decide (D.toInt (D.cell x0 0) = 10) then false else true else false then bif decide (D.toStr (D.cell x0 1) = ([] : List UInt8)) then false else true else false)
 (some [D.int 1])
 (cond (bif decide (0 ≤ D.toInt (List.getD ρ1 0 D.no)) then bif decide ((↑(List.length (D.toList (D.cell x0 8))) : Int) = D.toInt (List.getD ρ1 0 D.no)) then false else true else false)
 (cond (bif decide (0 ≤ D.toInt (List.getD ρ1 0 D.no)) then bif decide ((↑(List.length (D.toList (D.cell x0 8))) : Int) = D.toInt (List.getD ρ1 0 D.no)) then false else true else false)
 (some [D.int 1])
 (C34a x0))
 (cond (bif decide (D.toInt (List.getD ρ1 0 D.no) < 0) then decide ((↑(List.length (D.toList (D.cell x0 8))) : Int) = 0) else false)
 (some [D.int 1])
 (C34a x0)))))))
 (opt (cond (bif decide (D.toInt (D.cell x0 0) = 1) then true else false)
 (RUN E 57 [D.agg (List.take (List.length (TI.cells { kt := KT.agg 25, cells := [KT.int IntKind.i64, KT.bool, KT.int IntKind.i64, KT.str, KT.slice 25, KT.slice 9], fields := [(0, 3), (1, 4), (2, 3), (3, 9), (4, 22), (5, 23)], bytes := 88 })) (List.drop (0 + Prod.fst (2, 25)) (D.cells x0)))])
 (some [])) fun ρ4 =>
 cond (bif decide (D.toInt (D.cell x0 0) = 1) then bif D.toBool (List.getD ρ4 0 D.no) then false else true else false)
 (some [D.int 1])
 (opt (cond (bif bif bif decide (D.toInt (D.cell x0 0) = 3) then true else decide (D.toInt (D.cell x0 0) = 4) then true else decide (D.toInt (D.cell x0 0) = 6) then true else false)
 (RUN E 58 [D.str (D.toStr (D.cell x0 1))])
 (some [])) fun ρ6 =>
 cond (bif bif bif decide (D.toInt (D.cell x0 0) = 3) then true else decide (D.toInt (D.cell x0 0) = 4) then true else decide (D.toInt (D.cell x0 0) = 6) then bif D.toBool (List.getD ρ6 0 D.no) then false else true else false)
 (cond (bif bif bif decide (D.toInt (D.cell x0 0) = 3) then true else decide (D.toInt (D.cell x0 0) = 4) then true else decide (D.toInt (D.cell x0 0) = 6) then bif D.toBool (List.getD ρ6 0 D.no) then false else true else false)
 (some [D.int 1])
 (cond (bif decide (0 ≤ D.toInt (List.getD ρ1 0 D.no)) then bif decide ((↑(List.length (D.toList (D.cell x0 8))) : Int) = D.toInt (List.getD ρ1 0 D.no)) then false else true else false)
 (cond (bif decide (0 ≤ D.toInt (List.getD ρ1 0 D.no)) then bif decide ((↑(List.length (D.toList (D.cell x0 8))) : Int) = D.toInt (List.getD ρ1 0 D.no)) then false else true else false)
 (some [D.int 1])
 (C34a x0))
 (cond (bif decide (D.toInt (List.getD ρ1 0 D.no) < 0) then decide ((↑(List.length (D.toList (D.cell x0 8))) : Int) = 0) else false)
 (some [D.int 1])
 (C34a x0))))
 (opt (cond (bif decide (D.toInt (D.cell x0 0) = 10) then true else false)
 (RUN E 59 [D.str (D.toStr (D.cell x0 1))])
 (some [])) fun ρ8 =>
 cond (bif decide (D.toInt (D.cell x0 0) = 10) then bif D.toBool (List.getD ρ8 0 D.no) then false else true else false)
 (cond (bif decide (D.toInt (D.cell x0 0) = 10) then bif D.toBool (List.getD ρ8 0 D.no) then false else true else false)
 (some [D.int 1])
 (cond (bif decide (0 ≤ D.toInt (List.getD ρ1 0 D.no)) then bif decide ((↑(List.length (D.toList (D.cell x0 8))) : Int) = D.toInt (List.getD ρ1 0 D.no)) then false else true else false)
 (cond (bif decide (0 ≤ D.toInt (List.getD ρ1 0 D.no)) then bif decide ((↑(List.length (D.toList (D.cell x0 8))) : Int) = D.toInt (List.getD ρ1 0 D.no)) then false else true else false)
 (some [D.int 1])
 (C34a x0))
 (cond (bif decide (D.toInt (List.getD ρ1 0 D.no) < 0) then decide ((↑(List.length (D.toList (D.cell x0 8))) : Int) = 0) else false)
 (some [D.int 1])
 (C34a x0))))
 (cond (bif bif bif bif bif decide (D.toInt (D.cell x0 0) = 3) then true else decide (D.toInt (D.cell x0 0) = 4) then true else decide (D.toInt (D.cell x0 0) = 6) then false else true then bif decide (D.toInt (D.cell x0 0) = 10) then false else true else false then bif decide (D.toStr (D.cell x0 1) = ([] : List UInt8)) then false else true else false)
 (some [D.int 1])
 (cond (bif decide (0 ≤ D.toInt (List.getD ρ1 0 D.no)) then bif decide ((↑(List.length (D.toList (D.cell x0 8))) : Int) = D.toInt (List.getD ρ1 0 D.no)) then false else true else false)
 (cond (bif decide (0 ≤ D.toInt (List.getD ρ1 0 D.no)) then bif decide ((↑(List.length (D.toList (D.cell x0 8))) : Int) = D.toInt (List.getD ρ1 0 D.no)) then false else true else false)
 (some [D.int 1])
 (C34a x0))
 (cond (bif decide (D.toInt (List.getD ρ1 0 D.no) < 0) then decide ((↑(List.length (D.toList (D.cell x0 8))) : Int) = 0) else false)
 (some [D.int 1])
 (C34a x0)))))))) := (RUN_eq _ _ _).trans (by kernel_rfl)
theorem round34a (x1 : D) : C34a x1 =
 opt (RUN E 60 [D.str (D.toStr (D.cell x1 5)), D.bool true, D.bool true]) fun ρ0 =>
 cond (D.toBool (List.getD ρ0 0 D.no))
 (some [D.int 9])
 (opt (cond (bif decide (D.toInt (D.cell x1 0) = 6) then true else false)
 (RUN E 50 [D.str (D.toStr (D.cell x1 1))])
 (some [])) fun ρ2 =>
 cond (bif decide (D.toInt (D.cell x1 0) = 6) then bif decide (D.toInt (List.getD ρ2 0 D.no) = (↑(List.length (D.toList (D.cell x1 8))) : Int)) then false else true else false)
 (some [D.int 12])
 (some [D.int 0])) := (PART_eq _ _ _ _ _ _).trans (by kernel_rfl)
/-! internal/strconv.FormatBool -/
theorem enter35 (b0 : Bool) : RUN E 35 [D.bool b0] =
 cond (b0)
 (some [D.str (([116, 114, 117, 101] : List UInt8))])
 (some [D.str (([102, 97, 108, 115, 101] : List UInt8))]) := (RUN_eq _ _ _).trans (by kernel_rfl)
/-! masthead/mastref1.tight -/
theorem enter39 (kind0 : Int) : RUN E 39 [D.int kind0] =
 cond (decide (kind0 = 9))
 (some [D.int 1])
 (cond (decide (kind0 = 8))
 (some [D.int 2])
 (cond (decide (kind0 = 7))
 (some [D.int 3])
 (cond (decide (kind0 = 10))
 (some [D.int 4])
 (cond (decide (kind0 = 4))
 (cond (decide (kind0 = 4))
 (some [D.int 5])
 (some [D.int 6]))
 (cond (decide (kind0 = 5))
 (some [D.int 5])
 (some [D.int 6])))))) := (RUN_eq _ _ _).trans (by kernel_rfl)
/-! masthead/tmpl.operands -/
theorem enter51 (kind0 : Int) : RUN E 51 [D.int kind0] =
 cond (decide (kind0 = 4))
 (cond (decide (kind0 = 4))
 (some [D.int 1])
 (cond (decide (kind0 = 5))
 (cond (decide (kind0 = 5))
 (some [D.int 2])
 (cond (decide (kind0 = 6))
 (some [D.int (-1)])
 (some [D.int 0])))
 (cond (decide (kind0 = 8))
 (cond (decide (kind0 = 8))
 (some [D.int 2])
 (cond (decide (kind0 = 6))
 (some [D.int (-1)])
 (some [D.int 0])))
 (cond (decide (kind0 = 9))
 (cond (decide (kind0 = 9))
 (some [D.int 2])
 (cond (decide (kind0 = 6))
 (some [D.int (-1)])
 (some [D.int 0])))
 (cond (decide (kind0 = 10))
 (some [D.int 2])
 (cond (decide (kind0 = 6))
 (some [D.int (-1)])
 (some [D.int 0])))))))
 (cond (decide (kind0 = 7))
 (some [D.int 1])
 (cond (decide (kind0 = 5))
 (cond (decide (kind0 = 5))
 (some [D.int 2])
 (cond (decide (kind0 = 6))
 (some [D.int (-1)])
 (some [D.int 0])))
 (cond (decide (kind0 = 8))
 (cond (decide (kind0 = 8))
 (some [D.int 2])
 (cond (decide (kind0 = 6))
 (some [D.int (-1)])
 (some [D.int 0])))
 (cond (decide (kind0 = 9))
 (cond (decide (kind0 = 9))
 (some [D.int 2])
 (cond (decide (kind0 = 6))
 (some [D.int (-1)])
 (some [D.int 0])))
 (cond (decide (kind0 = 10))
 (some [D.int 2])
 (cond (decide (kind0 = 6))
 (some [D.int (-1)])
 (some [D.int 0]))))))) := (RUN_eq _ _ _).trans (by kernel_rfl)
/-! masthead/tmpl.nameFault -/
theorem enter52 (x0 : D) : RUN E 52 [x0] =
 cond (decide (D.toInt (D.cell x0 0) = 3))
 (cond (decide (D.toInt (D.cell x0 0) = 3))
 (opt (RUN E 74 [D.str (D.toStr (D.cell x0 1))]) fun ρ2 =>
 some [D.bool !D.toBool (List.getD ρ2 0 D.no)])
 (cond (decide (D.toInt (D.cell x0 0) = 10))
 (cond (decide (D.toStr (D.cell x0 1) = ([61, 61] : List UInt8)))
 (cond (decide (D.toStr (D.cell x0 1) = ([61, 61] : List UInt8)))
 (some [D.bool false])
 (some [D.bool true]))
 (cond (decide (D.toStr (D.cell x0 1) = ([33, 61] : List UInt8)))
 (cond (decide (D.toStr (D.cell x0 1) = ([33, 61] : List UInt8)))
 (some [D.bool false])
 (some [D.bool true]))
 (cond (decide (D.toStr (D.cell x0 1) = ([60] : List UInt8)))
 (cond (decide (D.toStr (D.cell x0 1) = ([60] : List UInt8)))
 (some [D.bool false])
 (some [D.bool true]))
 (cond (decide (D.toStr (D.cell x0 1) = ([60, 61] : List UInt8)))
 (cond (decide (D.toStr (D.cell x0 1) = ([60, 61] : List UInt8)))
 (some [D.bool false])
 (some [D.bool true]))
 (cond (decide (D.toStr (D.cell x0 1) = ([62] : List UInt8)))
 (cond (decide (D.toStr (D.cell x0 1) = ([62] : List UInt8)))
 (some [D.bool false])
 (some [D.bool true]))
 (cond (decide (D.toStr (D.cell x0 1) = ([62, 61] : List UInt8)))
 (some [D.bool false])
 (some [D.bool true])))))))
 (some [D.bool !decide (D.toStr (D.cell x0 1) = ([] : List UInt8))])))
 (cond (decide (D.toInt (D.cell x0 0) = 4))
 (cond (decide (D.toInt (D.cell x0 0) = 4))
 (opt (RUN E 74 [D.str (D.toStr (D.cell x0 1))]) fun ρ3 =>
 some [D.bool !D.toBool (List.getD ρ3 0 D.no)])
 (cond (decide (D.toInt (D.cell x0 0) = 10))
 (cond (decide (D.toStr (D.cell x0 1) = ([61, 61] : List UInt8)))
 (cond (decide (D.toStr (D.cell x0 1) = ([61, 61] : List UInt8)))
 (some [D.bool false])
 (some [D.bool true]))
 (cond (decide (D.toStr (D.cell x0 1) = ([33, 61] : List UInt8)))
 (cond (decide (D.toStr (D.cell x0 1) = ([33, 61] : List UInt8)))
 (some [D.bool false])
 (some [D.bool true]))
 (cond (decide (D.toStr (D.cell x0 1) = ([60] : List UInt8)))
 (cond (decide (D.toStr (D.cell x0 1) = ([60] : List UInt8)))
 (some [D.bool false])
 (some [D.bool true]))
 (cond (decide (D.toStr (D.cell x0 1) = ([60, 61] : List UInt8)))
 (cond (decide (D.toStr (D.cell x0 1) = ([60, 61] : List UInt8)))
 (some [D.bool false])
 (some [D.bool true]))
 (cond (decide (D.toStr (D.cell x0 1) = ([62] : List UInt8)))
 (cond (decide (D.toStr (D.cell x0 1) = ([62] : List UInt8)))
 (some [D.bool false])
 (some [D.bool true]))
 (cond (decide (D.toStr (D.cell x0 1) = ([62, 61] : List UInt8)))
 (some [D.bool false])
 (some [D.bool true])))))))
 (some [D.bool !decide (D.toStr (D.cell x0 1) = ([] : List UInt8))])))
 (cond (decide (D.toInt (D.cell x0 0) = 6))
 (opt (RUN E 74 [D.str (D.toStr (D.cell x0 1))]) fun ρ3 =>
 some [D.bool !D.toBool (List.getD ρ3 0 D.no)])
 (cond (decide (D.toInt (D.cell x0 0) = 10))
 (cond (decide (D.toStr (D.cell x0 1) = ([61, 61] : List UInt8)))
 (cond (decide (D.toStr (D.cell x0 1) = ([61, 61] : List UInt8)))
 (some [D.bool false])
 (some [D.bool true]))
 (cond (decide (D.toStr (D.cell x0 1) = ([33, 61] : List UInt8)))
 (cond (decide (D.toStr (D.cell x0 1) = ([33, 61] : List UInt8)))
 (some [D.bool false])
 (some [D.bool true]))
 (cond (decide (D.toStr (D.cell x0 1) = ([60] : List UInt8)))
 (cond (decide (D.toStr (D.cell x0 1) = ([60] : List UInt8)))
 (some [D.bool false])
 (some [D.bool true]))
 (cond (decide (D.toStr (D.cell x0 1) = ([60, 61] : List UInt8)))
 (cond (decide (D.toStr (D.cell x0 1) = ([60, 61] : List UInt8)))
 (some [D.bool false])
 (some [D.bool true]))
 (cond (decide (D.toStr (D.cell x0 1) = ([62] : List UInt8)))
 (cond (decide (D.toStr (D.cell x0 1) = ([62] : List UInt8)))
 (some [D.bool false])
 (some [D.bool true]))
 (cond (decide (D.toStr (D.cell x0 1) = ([62, 61] : List UInt8)))
 (some [D.bool false])
 (some [D.bool true])))))))
 (some [D.bool !decide (D.toStr (D.cell x0 1) = ([] : List UInt8))])))) := (RUN_eq _ _ _).trans (by kernel_rfl)
/-! masthead/tmpl.constFault -/
theorem enter53 (v0 : D) : RUN E 53 [v0] =
 cond (bif bif bif bif decide (0 < (↑(List.length (D.toList (D.cell v0 4))) : Int)) then true else decide (0 < (↑(List.length (D.toList (D.cell v0 5))) : Int)) then true else bif D.toBool (D.cell v0 1) then bif decide (D.toInt (D.cell v0 0) = 1) then false else true else false then true else bif bif decide (D.toInt (D.cell v0 2) = 0) then false else true then bif decide (D.toInt (D.cell v0 0) = 2) then false else true else false then true else bif bif decide (D.toStr (D.cell v0 3) = ([] : List UInt8)) then false else true then bif decide (D.toInt (D.cell v0 0) = 3) then false else true else false)
 (some [D.bool true])
 (cond (decide (D.toInt (D.cell v0 0) = 0))
 (cond (decide (D.toInt (D.cell v0 0) = 0))
 (some [D.bool false])
 (cond (decide (D.toInt (D.cell v0 0) = 2))
 (some [D.bool (bif decide (D.toInt (D.cell v0 2) < -999999999999999) then true else decide (999999999999999 < D.toInt (D.cell v0 2)))])
 (some [D.bool true])))
 (cond (decide (D.toInt (D.cell v0 0) = 1))
 (cond (decide (D.toInt (D.cell v0 0) = 1))
 (some [D.bool false])
 (cond (decide (D.toInt (D.cell v0 0) = 2))
 (some [D.bool (bif decide (D.toInt (D.cell v0 2) < -999999999999999) then true else decide (999999999999999 < D.toInt (D.cell v0 2)))])
 (some [D.bool true])))
 (cond (decide (D.toInt (D.cell v0 0) = 3))
 (some [D.bool false])
 (cond (decide (D.toInt (D.cell v0 0) = 2))
 (some [D.bool (bif decide (D.toInt (D.cell v0 2) < -999999999999999) then true else decide (999999999999999 < D.toInt (D.cell v0 2)))])
 (some [D.bool true]))))) := (RUN_eq _ _ _).trans (by kernel_rfl)
/-! masthead/tmpl.zeroValue -/
theorem enter54 (v0 : D) : RUN E 54 [v0] =
 some [D.bool (bif bif bif bif bif decide (D.toInt (D.cell v0 0) = 0) then !D.toBool (D.cell v0 1) else false then decide (D.toInt (D.cell v0 2) = 0) else false then decide (D.toStr (D.cell v0 3) = ([] : List UInt8)) else false then decide ((↑(List.length (D.toList (D.cell v0 4))) : Int) = 0) else false then decide ((↑(List.length (D.toList (D.cell v0 5))) : Int) = 0) else false)] := (RUN_eq _ _ _).trans (by kernel_rfl)
/-! masthead/tmpl.badByte -/
def h22a (s0 : List UInt8) (i3 : Int) : St := mkSt 26 [(0, SV.val KT.str (D.str s0)), (3, SV.val (KT.int IntKind.i64) (D.int i3))] []
noncomputable def L22a (s0 : List UInt8) (i3 : Int) : R := LOOP E (RUN E) 22 Tryz.f22 [1, 0, 1, 0] (h22a s0 i3)
theorem enter22 (s0 : List UInt8) : RUN E 22 [D.str s0] =
 L22a s0 0 := (RUN_eq _ _ _).trans (by kernel_rfl)
theorem round22a (s0 : List UInt8) (i3 : Int) : L22a s0 i3 =
 cond (decide (i3 < (↑(List.length s0) : Int)))
 (cond (inb i3 (List.length s0))
 (cond (bif inb i3 (List.length s0) then true else bif bif decide ((↑(UInt8.toNat (List.getD s0 (Int.toNat i3) 0)) : Int) < 32) then true else false then false else true)
 (cond (bif inb i3 (List.length s0) then true else bif bif bif decide ((↑(UInt8.toNat (List.getD s0 (Int.toNat i3) 0)) : Int) < 32) then bif decide ((↑(UInt8.toNat (List.getD s0 (Int.toNat i3) 0)) : Int) = 9) then false else true else false then true else false then false else true)
 (cond (bif bif decide ((↑(UInt8.toNat (List.getD s0 (Int.toNat i3) 0)) : Int) < 32) then bif decide ((↑(UInt8.toNat (List.getD s0 (Int.toNat i3) 0)) : Int) = 9) then false else true else false then bif decide ((↑(UInt8.toNat (List.getD s0 (Int.toNat i3) 0)) : Int) = 10) then false else true else false)
 (some [D.bool true])
 (L22a s0 (IntKind.wrap IntKind.i64 (i3 + 1))))
 (none))
 (none))
 (none))
 (some [D.bool false]) := (LOOP_eq _ _ _ _ _ _).trans (by kernel_rfl)
/-! masthead/tmpl.arity -/
theorem enter46 (name0 : List UInt8) : RUN E 46 [D.str name0] =
 opt (RUN E 70 []) fun ρ0 =>
 some [D.int (D.toInt (D.cell (Option.getD (findKV KT.str (D.str name0) (unkv (D.toList (List.getD ρ0 0 D.no)))) (D.agg (List.map zeroD (TI.cells { kt := KT.agg 82, cells := [KT.int IntKind.i64, KT.str, KT.any], fields := [(0, 3), (1, 9), (2, 80)], bytes := 32 })))) 0))] := (RUN_eq _ _ _).trans (by kernel_rfl)
/-! masthead/mastref1.argsOf -/
theorem enter55 (kind0 : Int) : RUN E 55 [D.int kind0] =
 cond (decide (kind0 = 4))
 (cond (decide (kind0 = 4))
 (some [D.int 1])
 (cond (decide (kind0 = 5))
 (cond (decide (kind0 = 5))
 (some [D.int 2])
 (cond (decide (kind0 = 6))
 (some [D.int (-1)])
 (some [D.int 0])))
 (cond (decide (kind0 = 8))
 (cond (decide (kind0 = 8))
 (some [D.int 2])
 (cond (decide (kind0 = 6))
 (some [D.int (-1)])
 (some [D.int 0])))
 (cond (decide (kind0 = 9))
 (cond (decide (kind0 = 9))
 (some [D.int 2])
 (cond (decide (kind0 = 6))
 (some [D.int (-1)])
 (some [D.int 0])))
 (cond (decide (kind0 = 10))
 (some [D.int 2])
 (cond (decide (kind0 = 6))
 (some [D.int (-1)])
 (some [D.int 0])))))))
 (cond (decide (kind0 = 7))
 (some [D.int 1])
 (cond (decide (kind0 = 5))
 (cond (decide (kind0 = 5))
 (some [D.int 2])
 (cond (decide (kind0 = 6))
 (some [D.int (-1)])
 (some [D.int 0])))
 (cond (decide (kind0 = 8))
 (cond (decide (kind0 = 8))
 (some [D.int 2])
 (cond (decide (kind0 = 6))
 (some [D.int (-1)])
 (some [D.int 0])))
 (cond (decide (kind0 = 9))
 (cond (decide (kind0 = 9))
 (some [D.int 2])
 (cond (decide (kind0 = 6))
 (some [D.int (-1)])
 (some [D.int 0])))
 (cond (decide (kind0 = 10))
 (some [D.int 2])
 (cond (decide (kind0 = 6))
 (some [D.int (-1)])
 (some [D.int 0]))))))) := (RUN_eq _ _ _).trans (by kernel_rfl)
/-! masthead/mastref1.zero -/
theorem enter56 (v0 : D) : RUN E 56 [v0] =
 some [D.bool (bif bif bif bif bif decide (D.toInt (D.cell v0 0) = 0) then !D.toBool (D.cell v0 1) else false then decide (D.toInt (D.cell v0 2) = 0) else false then decide (D.toStr (D.cell v0 3) = ([] : List UInt8)) else false then decide ((↑(List.length (D.toList (D.cell v0 4))) : Int) = 0) else false then decide ((↑(List.length (D.toList (D.cell v0 5))) : Int) = 0) else false)] := (RUN_eq _ _ _).trans (by kernel_rfl)
/-! masthead/mastref1.goodConst -/
theorem enter57 (v0 : D) : RUN E 57 [v0] =
 cond (decide (D.toInt (D.cell v0 0) = 0))
 (opt (RUN E 56 [v0]) fun ρ1 =>
 some [D.bool (D.toBool (List.getD ρ1 0 D.no))])
 (cond (decide (D.toInt (D.cell v0 0) = 1))
 (opt (RUN E 56 [D.agg [D.int 0, D.bool false, D.int (D.toInt (D.cell v0 2)), D.str (D.toStr (D.cell v0 3)), D.list (D.toList (D.cell v0 4)), D.list (D.toList (D.cell v0 5))]]) fun ρ2 =>
 some [D.bool (D.toBool (List.getD ρ2 0 D.no))])
 (cond (decide (D.toInt (D.cell v0 0) = 2))
 (opt (RUN E 56 [D.agg [D.int 0, D.bool (D.toBool (D.cell v0 1)), D.int 0, D.str (D.toStr (D.cell v0 3)), D.list (D.toList (D.cell v0 4)), D.list (D.toList (D.cell v0 5))]]) fun ρ3 =>
 some [D.bool (bif bif D.toBool (List.getD ρ3 0 D.no) then decide (-999999999999999 ≤ D.toInt (D.cell v0 2)) else false then decide (D.toInt (D.cell v0 2) ≤ 999999999999999) else false)])
 (cond (decide (D.toInt (D.cell v0 0) = 3))
 (opt (RUN E 56 [D.agg [D.int 0, D.bool (D.toBool (D.cell v0 1)), D.int (D.toInt (D.cell v0 2)), D.str [], D.list (D.toList (D.cell v0 4)), D.list (D.toList (D.cell v0 5))]]) fun ρ4 =>
 some [D.bool (D.toBool (List.getD ρ4 0 D.no))])
 (some [D.bool false])))) := (RUN_eq _ _ _).trans (by kernel_rfl)
/-! masthead/mastref1.IsName -/
def h58a (s0 : List UInt8) (i3 : Int) : St := mkSt 45 [(0, SV.val KT.str (D.str s0)), (3, SV.val (KT.int IntKind.i64) (D.int i3))] []
noncomputable def L58a (s0 : List UInt8) (i3 : Int) : R := LOOP E (RUN E) 58 Tryz.f58 [1, 1, 0, 1, 0] (h58a s0 i3)
def h58b (s0 : List UInt8) (v35 : List D) (v36 : Int) (v37 : Int) : St := mkSt 45 [(0, SV.val KT.str (D.str s0)), (35, SV.val (KT.slice 9) (D.list v35)), (36, SV.val (KT.int IntKind.i64) (D.int v36)), (37, SV.val (KT.int IntKind.i64) (D.int v37))] []
noncomputable def L58b (s0 : List UInt8) (v35 : List D) (v36 : Int) (v37 : Int) : R := LOOP E (RUN E) 58 Tryz.f58 [1, 1, 1, 0, 1, 0] (h58b s0 v35 v36 v37)
theorem enter58 (s0 : List UInt8) : RUN E 58 [D.str s0] =
 cond (bif inb 0 (List.length s0) then true else bif bif bif decide ((↑(List.length s0) : Int) < 1) then true else decide (20 < (↑(List.length s0) : Int)) then false else true then false else true)
 (cond (bif inb 0 (List.length s0) then true else bif bif bif bif decide ((↑(List.length s0) : Int) < 1) then true else decide (20 < (↑(List.length s0) : Int)) then true else decide ((↑(UInt8.toNat (List.getD s0 0 0)) : Int) < 97) then false else true then false else true)
 (cond (bif bif bif decide ((↑(List.length s0) : Int) < 1) then true else decide (20 < (↑(List.length s0) : Int)) then true else decide ((↑(UInt8.toNat (List.getD s0 0 0)) : Int) < 97) then true else decide (122 < (↑(UInt8.toNat (List.getD s0 0 0)) : Int)))
 (some [D.bool false])
 (L58a s0 0))
 (none))
 (none) := (RUN_eq _ _ _).trans (by kernel_rfl)
theorem round58a (s0 : List UInt8) (i3 : Int) : L58a s0 i3 =
 cond (decide (i3 < (↑(List.length s0) : Int)))
 (cond (inb i3 (List.length s0))
 (opt (RUN E 72 [D.int (↑(UInt8.toNat (List.getD s0 (Int.toNat i3) 0)) : Int)]) fun ρ2 =>
 cond (bif D.toBool (List.getD ρ2 0 D.no) then false else true)
 (some [D.bool false])
 (L58a s0 (IntKind.wrap IntKind.i64 (i3 + 1))))
 (none))
 (opt (RUN E 73 [D.str (([105, 102, 32, 101, 97, 99, 104, 32, 119, 105, 116, 104, 32, 108, 101, 116, 32, 99, 97, 108, 108, 32, 101, 108, 115, 101, 32, 101, 110, 100, 32, 105, 110, 32, 97, 110, 100, 32, 111, 114, 32, 110, 111, 116, 32, 116, 114, 117, 101, 32, 102, 97, 108, 115, 101, 32, 110, 105, 108] : List UInt8)), D.str (([32] : List UInt8))]) fun ρ1 =>
 L58b s0 (D.toList (List.getD ρ1 0 D.no)) ((↑(List.length (D.toList (List.getD ρ1 0 D.no))) : Int)) 0) := (LOOP_eq _ _ _ _ _ _).trans (by kernel_rfl)
theorem round58b (s0 : List UInt8) (v35 : List D) (v36 : Int) (v37 : Int) : L58b s0 v35 v36 v37 =
 cond (decide (v37 < v36))
 (cond (inb v37 (List.length v35))
 (cond (decide (s0 = D.toStr (List.getD v35 (Int.toNat v37) D.no)))
 (some [D.bool false])
 (L58b s0 v35 v36 (IntKind.wrap IntKind.i64 (v37 + 1))))
 (none))
 (some [D.bool true]) := (LOOP_eq _ _ _ _ _ _).trans (by kernel_rfl)
/-! masthead/mastref1.isOp -/
theorem enter59 (s0 : List UInt8) : RUN E 59 [D.str s0] =
 some [D.bool (bif bif bif bif bif decide (s0 = ([61, 61] : List UInt8)) then true else decide (s0 = ([33, 61] : List UInt8)) then true else decide (s0 = ([60] : List UInt8)) then true else decide (s0 = ([60, 61] : List UInt8)) then true else decide (s0 = ([62] : List UInt8)) then true else decide (s0 = ([62, 61] : List UInt8)))] := (RUN_eq _ _ _).trans (by kernel_rfl)
/-! masthead/mastref1.badBytes -/
def h60a (s0 : List UInt8) (tab1 : Bool) (feed2 : Bool) (i7 : Int) : St := mkSt 38 [(0, SV.val KT.str (D.str s0)), (1, SV.val KT.bool (D.bool tab1)), (2, SV.val KT.bool (D.bool feed2)), (7, SV.val (KT.int IntKind.i64) (D.int i7))] []
noncomputable def L60a (s0 : List UInt8) (tab1 : Bool) (feed2 : Bool) (i7 : Int) : R := LOOP E (RUN E) 60 Tryz.f60 [1, 0, 1, 0] (h60a s0 tab1 feed2 i7)
theorem enter60 (s0 : List UInt8) (tab1 : Bool) (feed2 : Bool) : RUN E 60 [D.str s0, D.bool tab1, D.bool feed2] =
 L60a s0 tab1 feed2 0 := (RUN_eq _ _ _).trans (by kernel_rfl)
theorem round60a (s0 : List UInt8) (tab1 : Bool) (feed2 : Bool) (i7 : Int) : L60a s0 tab1 feed2 i7 =
 cond (decide (i7 < (↑(List.length s0) : Int)))
 (cond (inb i7 (List.length s0))
 (cond (bif inb i7 (List.length s0) then true else bif bif bif tab1 then true else false then bif decide ((↑(UInt8.toNat (List.getD s0 (Int.toNat i7) 0)) : Int) < 32) then true else false else false then false else true)
 (cond (bif inb i7 (List.length s0) then true else bif bif bif feed2 then true else false then bif bif decide ((↑(UInt8.toNat (List.getD s0 (Int.toNat i7) 0)) : Int) < 32) then bif bif tab1 then decide ((↑(UInt8.toNat (List.getD s0 (Int.toNat i7) 0)) : Int) = 9) else false then false else true else false then true else false else false then false else true)
 (cond (bif bif decide ((↑(UInt8.toNat (List.getD s0 (Int.toNat i7) 0)) : Int) < 32) then bif bif tab1 then decide ((↑(UInt8.toNat (List.getD s0 (Int.toNat i7) 0)) : Int) = 9) else false then false else true else false then bif bif feed2 then decide ((↑(UInt8.toNat (List.getD s0 (Int.toNat i7) 0)) : Int) = 10) else false then false else true else false)
 (some [D.bool true])
 (L60a s0 tab1 feed2 (IntKind.wrap IntKind.i64 (i7 + 1))))
 (none))
 (none))
 (none))
 (some [D.bool false]) := (LOOP_eq _ _ _ _ _ _).trans (by kernel_rfl)
/-! masthead/mastref1.Arity -/
def h50a (name0 : List UInt8) (v5 : List D) (v6 : Int) (v7 : Int) : St := mkSt 26 [(0, SV.val KT.str (D.str name0)), (5, SV.val (KT.slice 9) (D.list v5)), (6, SV.val (KT.int IntKind.i64) (D.int v6)), (7, SV.val (KT.int IntKind.i64) (D.int v7))] []
noncomputable def L50a (name0 : List UInt8) (v5 : List D) (v6 : Int) (v7 : Int) : R := LOOP E (RUN E) 50 Tryz.f50 [1, 0, 1, 0] (h50a name0 v5 v6 v7)
theorem enter50 (name0 : List UInt8) : RUN E 50 [D.str name0] =
 opt (RUN E 73 [D.str (Array.toList (ByteArray.data { data := List.toArray (List.append (List.append [108, 101, 110, 49, 32, 117, 112, 112, 101, 114, 49, 32, 108, 111, 119, 101, 114, 49, 32, 116, 114, 105, 109, 49, 32, 115, 108, 117, 103, 49, 32, 112, 108, 97, 105, 110, 49, 32, 100, 101, 102, 97, 117, 108] [116, 50, 32, 106, 111, 105, 110, 50, 32, 115, 112, 108, 105, 116, 50, 32, 114, 101, 112, 108, 97, 99, 101, 51, 32, 102, 105, 114, 115, 116, 50, 32, 108, 97, 115, 116, 50, 32, 114, 101, 118, 101, 114, 115]) (List.append [101, 49, 32, 115, 111, 114, 116, 50, 32, 119, 104, 101, 114, 101, 51, 32, 104, 97, 115, 50, 32, 107, 101, 121, 115, 49, 32, 97, 100, 100, 50, 32, 115, 117, 98, 50, 32, 109, 117, 108, 50, 32, 100, 105] [118, 50, 32, 109, 111, 100, 50, 32, 115, 116, 114, 105, 110, 103, 49, 32, 121, 101, 97, 114, 49, 32, 109, 111, 110, 116, 104, 49, 32, 100, 97, 121, 49, 32, 102, 97, 99, 116, 49, 32, 108, 105, 115, 116, 50])) })), D.str (([32] : List UInt8))]) fun ρ0 =>
 L50a name0 (D.toList (List.getD ρ0 0 D.no)) ((↑(List.length (D.toList (List.getD ρ0 0 D.no))) : Int)) 0 := (RUN_eq _ _ _).trans (by kernel_rfl)
theorem round50a (name0 : List UInt8) (v5 : List D) (v6 : Int) (v7 : Int) : L50a name0 v5 v6 v7 =
 cond (decide (v7 < v6))
 (cond (inb v7 (List.length v5))
 (cond (cutOk (List.length (D.toStr (List.getD v5 (Int.toNat v7) D.no))) none (some (IntKind.wrap IntKind.i64 ((↑(List.length (D.toStr (List.getD v5 (Int.toNat v7) D.no))) : Int) - 1))))
 (cond (decide (cutL (D.toStr (List.getD v5 (Int.toNat v7) D.no)) none (some (IntKind.wrap IntKind.i64 ((↑(List.length (D.toStr (List.getD v5 (Int.toNat v7) D.no))) : Int) - 1))) = name0))
 (cond (inb (IntKind.wrap IntKind.i64 ((↑(List.length (D.toStr (List.getD v5 (Int.toNat v7) D.no))) : Int) - 1)) (List.length (D.toStr (List.getD v5 (Int.toNat v7) D.no))))
 (some [D.int (IntKind.wrap IntKind.i64 (IntKind.wrap IntKind.u8 ((↑(UInt8.toNat (List.getD (D.toStr (List.getD v5 (Int.toNat v7) D.no)) (Int.toNat (IntKind.wrap IntKind.i64 ((↑(List.length (D.toStr (List.getD v5 (Int.toNat v7) D.no))) : Int) - 1))) 0)) : Int) - 48)))])
 (none))
 (L50a name0 v5 v6 (IntKind.wrap IntKind.i64 (v7 + 1))))
 (none))
 (none))
 (some [D.int 0]) := (LOOP_eq _ _ _ _ _ _).trans (by kernel_rfl)
/-! masthead/tmpl.isName -/
def h74a (s0 : List UInt8) (i3 : Int) : St := mkSt 44 [(0, SV.val KT.str (D.str s0)), (3, SV.val (KT.int IntKind.i64) (D.int i3))] []
noncomputable def L74a (s0 : List UInt8) (i3 : Int) : R := LOOP E (RUN E) 74 Tryz.f74 [1, 1, 0, 1, 0] (h74a s0 i3)
theorem enter74 (s0 : List UInt8) : RUN E 74 [D.str s0] =
 cond (bif inb 0 (List.length s0) then true else bif bif bif decide (s0 = ([] : List UInt8)) then true else decide (20 < (↑(List.length s0) : Int)) then false else true then false else true)
 (opt (cond (bif bif decide (s0 = ([] : List UInt8)) then true else decide (20 < (↑(List.length s0) : Int)) then false else true)
 (RUN E 87 [D.int (↑(UInt8.toNat (List.getD s0 0 0)) : Int)])
 (some [])) fun ρ1 =>
 cond (bif bif decide (s0 = ([] : List UInt8)) then true else decide (20 < (↑(List.length s0) : Int)) then true else bif D.toBool (List.getD ρ1 0 D.no) then false else true)
 (some [D.bool false])
 (L74a s0 0))
 (none) := (RUN_eq _ _ _).trans (by kernel_rfl)
theorem round74a (s0 : List UInt8) (i3 : Int) : L74a s0 i3 =
 cond (decide (i3 < (↑(List.length s0) : Int)))
 (cond (inb i3 (List.length s0))
 (opt (RUN E 88 [D.int (↑(UInt8.toNat (List.getD s0 (Int.toNat i3) 0)) : Int)]) fun ρ2 =>
 cond (bif D.toBool (List.getD ρ2 0 D.no) then false else true)
 (some [D.bool false])
 (L74a s0 (IntKind.wrap IntKind.i64 (i3 + 1))))
 (none))
 (cond (decide (s0 = ([105, 102] : List UInt8)))
 (cond (decide (s0 = ([105, 102] : List UInt8)))
 (some [D.bool false])
 (some [D.bool true]))
 (cond (decide (s0 = ([101, 97, 99, 104] : List UInt8)))
 (cond (decide (s0 = ([101, 97, 99, 104] : List UInt8)))
 (some [D.bool false])
 (some [D.bool true]))
 (cond (decide (s0 = ([119, 105, 116, 104] : List UInt8)))
 (cond (decide (s0 = ([119, 105, 116, 104] : List UInt8)))
 (some [D.bool false])
 (some [D.bool true]))
 (cond (decide (s0 = ([108, 101, 116] : List UInt8)))
 (cond (decide (s0 = ([108, 101, 116] : List UInt8)))
 (some [D.bool false])
 (some [D.bool true]))
 (cond (decide (s0 = ([99, 97, 108, 108] : List UInt8)))
 (cond (decide (s0 = ([99, 97, 108, 108] : List UInt8)))
 (some [D.bool false])
 (some [D.bool true]))
 (cond (decide (s0 = ([101, 108, 115, 101] : List UInt8)))
 (cond (decide (s0 = ([101, 108, 115, 101] : List UInt8)))
 (some [D.bool false])
 (some [D.bool true]))
 (cond (decide (s0 = ([101, 110, 100] : List UInt8)))
 (cond (decide (s0 = ([101, 110, 100] : List UInt8)))
 (some [D.bool false])
 (some [D.bool true]))
 (cond (decide (s0 = ([105, 110] : List UInt8)))
 (cond (decide (s0 = ([105, 110] : List UInt8)))
 (some [D.bool false])
 (some [D.bool true]))
 (cond (decide (s0 = ([97, 110, 100] : List UInt8)))
 (cond (decide (s0 = ([97, 110, 100] : List UInt8)))
 (some [D.bool false])
 (some [D.bool true]))
 (cond (decide (s0 = ([111, 114] : List UInt8)))
 (cond (decide (s0 = ([111, 114] : List UInt8)))
 (some [D.bool false])
 (some [D.bool true]))
 (cond (decide (s0 = ([110, 111, 116] : List UInt8)))
 (cond (decide (s0 = ([110, 111, 116] : List UInt8)))
 (some [D.bool false])
 (some [D.bool true]))
 (cond (decide (s0 = ([116, 114, 117, 101] : List UInt8)))
 (cond (decide (s0 = ([116, 114, 117, 101] : List UInt8)))
 (some [D.bool false])
 (some [D.bool true]))
 (cond (decide (s0 = ([102, 97, 108, 115, 101] : List UInt8)))
 (cond (decide (s0 = ([102, 97, 108, 115, 101] : List UInt8)))
 (some [D.bool false])
 (some [D.bool true]))
 (cond (decide (s0 = ([110, 105, 108] : List UInt8)))
 (some [D.bool false])
 (some [D.bool true]))))))))))))))) := (LOOP_eq _ _ _ _ _ _).trans (by kernel_rfl)
/-! masthead/tmpl.functions -/
theorem enter70  : RUN E 70 [] =
 some [D.list (kvD (putKV KT.str (D.str (([102, 97, 99, 116] : List UInt8))) (D.agg (setField KT.any (TI.cells { kt := KT.any, cells := [KT.any], fields := [], bytes := 8 }) (setField KT.str (TI.cells { kt := KT.str, cells := [KT.str], fields := [], bytes := 16 }) (setField (KT.int IntKind.i64) (TI.cells { kt := KT.int IntKind.i64, cells := [KT.int IntKind.i64], fields := [], bytes := 8 }) (List.map zeroD (TI.cells { kt := KT.agg 82, cells := [KT.int IntKind.i64, KT.str, KT.any], fields := [(0, 3), (1, 9), (2, 80)], bytes := 32 })) (Prod.fst (0, 3)) (D.int 1)) (Prod.fst (1, 9)) (D.str (([] : List UInt8)))) (Prod.fst (2, 80)) (D.bool false))) (putKV KT.str (D.str (([108, 105, 115, 116] : List UInt8))) (D.agg (setField KT.any (TI.cells { kt := KT.any, cells := [KT.any], fields := [], bytes := 8 }) (setField KT.str (TI.cells { kt := KT.str, cells := [KT.str], fields := [], bytes := 16 }) (setField (KT.int IntKind.i64) (TI.cells { kt := KT.int IntKind.i64, cells := [KT.int IntKind.i64], fields := [], bytes := 8 }) (List.map zeroD (TI.cells { kt := KT.agg 82, cells := [KT.int IntKind.i64, KT.str, KT.any], fields := [(0, 3), (1, 9), (2, 80)], bytes := 32 })) (Prod.fst (0, 3)) (D.int 2)) (Prod.fst (1, 9)) (D.str (([] : List UInt8)))) (Prod.fst (2, 80)) (D.bool false))) (putKV KT.str (D.str (([100, 101, 102, 97, 117, 108, 116] : List UInt8))) (D.agg (setField KT.any (TI.cells { kt := KT.any, cells := [KT.any], fields := [], bytes := 8 }) (setField KT.str (TI.cells { kt := KT.str, cells := [KT.str], fields := [], bytes := 16 }) (setField (KT.int IntKind.i64) (TI.cells { kt := KT.int IntKind.i64, cells := [KT.int IntKind.i64], fields := [], bytes := 8 }) (List.map zeroD (TI.cells { kt := KT.agg 82, cells := [KT.int IntKind.i64, KT.str, KT.any], fields := [(0, 3), (1, 9), (2, 80)], bytes := 32 })) (Prod.fst (0, 3)) (D.int 2)) (Prod.fst (1, 9)) (D.str (([] : List UInt8)))) (Prod.fst (2, 80)) (D.bool false))) (putKV KT.str (D.str (([115, 116, 114, 105, 110, 103] : List UInt8))) (D.agg (setField KT.any (TI.cells { kt := KT.any, cells := [KT.any], fields := [], bytes := 8 }) (setField KT.str (TI.cells { kt := KT.str, cells := [KT.str], fields := [], bytes := 16 }) (setField (KT.int IntKind.i64) (TI.cells { kt := KT.int IntKind.i64, cells := [KT.int IntKind.i64], fields := [], bytes := 8 }) (List.map zeroD (TI.cells { kt := KT.agg 82, cells := [KT.int IntKind.i64, KT.str, KT.any], fields := [(0, 3), (1, 9), (2, 80)], bytes := 32 })) (Prod.fst (0, 3)) (D.int 1)) (Prod.fst (1, 9)) (D.str (([118] : List UInt8)))) (Prod.fst (2, 80)) (D.bool false))) (putKV KT.str (D.str (([100, 97, 121] : List UInt8))) (D.agg (setField KT.any (TI.cells { kt := KT.any, cells := [KT.any], fields := [], bytes := 8 }) (setField KT.str (TI.cells { kt := KT.str, cells := [KT.str], fields := [], bytes := 16 }) (setField (KT.int IntKind.i64) (TI.cells { kt := KT.int IntKind.i64, cells := [KT.int IntKind.i64], fields := [], bytes := 8 }) (List.map zeroD (TI.cells { kt := KT.agg 82, cells := [KT.int IntKind.i64, KT.str, KT.any], fields := [(0, 3), (1, 9), (2, 80)], bytes := 32 })) (Prod.fst (0, 3)) (D.int 1)) (Prod.fst (1, 9)) (D.str (([100] : List UInt8)))) (Prod.fst (2, 80)) (D.bool false))) (putKV KT.str (D.str (([109, 111, 110, 116, 104] : List UInt8))) (D.agg (setField KT.any (TI.cells { kt := KT.any, cells := [KT.any], fields := [], bytes := 8 }) (setField KT.str (TI.cells { kt := KT.str, cells := [KT.str], fields := [], bytes := 16 }) (setField (KT.int IntKind.i64) (TI.cells { kt := KT.int IntKind.i64, cells := [KT.int IntKind.i64], fields := [], bytes := 8 }) (List.map zeroD (TI.cells { kt := KT.agg 82, cells := [KT.int IntKind.i64, KT.str, KT.any], fields := [(0, 3), (1, 9), (2, 80)], bytes := 32 })) (Prod.fst (0, 3)) (D.int 1)) (Prod.fst (1, 9)) (D.str (([100] : List UInt8)))) (Prod.fst (2, 80)) (D.bool false))) (putKV KT.str (D.str (([121, 101, 97, 114] : List UInt8))) (D.agg (setField KT.any (TI.cells { kt := KT.any, cells := [KT.any], fields := [], bytes := 8 }) (setField KT.str (TI.cells { kt := KT.str, cells := [KT.str], fields := [], bytes := 16 }) (setField (KT.int IntKind.i64) (TI.cells { kt := KT.int IntKind.i64, cells := [KT.int IntKind.i64], fields := [], bytes := 8 }) (List.map zeroD (TI.cells { kt := KT.agg 82, cells := [KT.int IntKind.i64, KT.str, KT.any], fields := [(0, 3), (1, 9), (2, 80)], bytes := 32 })) (Prod.fst (0, 3)) (D.int 1)) (Prod.fst (1, 9)) (D.str (([100] : List UInt8)))) (Prod.fst (2, 80)) (D.bool false))) (putKV KT.str (D.str (([109, 111, 100] : List UInt8))) (D.agg (setField KT.any (TI.cells { kt := KT.any, cells := [KT.any], fields := [], bytes := 8 }) (setField KT.str (TI.cells { kt := KT.str, cells := [KT.str], fields := [], bytes := 16 }) (setField (KT.int IntKind.i64) (TI.cells { kt := KT.int IntKind.i64, cells := [KT.int IntKind.i64], fields := [], bytes := 8 }) (List.map zeroD (TI.cells { kt := KT.agg 82, cells := [KT.int IntKind.i64, KT.str, KT.any], fields := [(0, 3), (1, 9), (2, 80)], bytes := 32 })) (Prod.fst (0, 3)) (D.int 2)) (Prod.fst (1, 9)) (D.str (([105, 105] : List UInt8)))) (Prod.fst (2, 80)) (D.bool false))) (putKV KT.str (D.str (([100, 105, 118] : List UInt8))) (D.agg (setField KT.any (TI.cells { kt := KT.any, cells := [KT.any], fields := [], bytes := 8 }) (setField KT.str (TI.cells { kt := KT.str, cells := [KT.str], fields := [], bytes := 16 }) (setField (KT.int IntKind.i64) (TI.cells { kt := KT.int IntKind.i64, cells := [KT.int IntKind.i64], fields := [], bytes := 8 }) (List.map zeroD (TI.cells { kt := KT.agg 82, cells := [KT.int IntKind.i64, KT.str, KT.any], fields := [(0, 3), (1, 9), (2, 80)], bytes := 32 })) (Prod.fst (0, 3)) (D.int 2)) (Prod.fst (1, 9)) (D.str (([105, 105] : List UInt8)))) (Prod.fst (2, 80)) (D.bool false))) (putKV KT.str (D.str (([109, 117, 108] : List UInt8))) (D.agg (setField KT.any (TI.cells { kt := KT.any, cells := [KT.any], fields := [], bytes := 8 }) (setField KT.str (TI.cells { kt := KT.str, cells := [KT.str], fields := [], bytes := 16 }) (setField (KT.int IntKind.i64) (TI.cells { kt := KT.int IntKind.i64, cells := [KT.int IntKind.i64], fields := [], bytes := 8 }) (List.map zeroD (TI.cells { kt := KT.agg 82, cells := [KT.int IntKind.i64, KT.str, KT.any], fields := [(0, 3), (1, 9), (2, 80)], bytes := 32 })) (Prod.fst (0, 3)) (D.int 2)) (Prod.fst (1, 9)) (D.str (([105, 105] : List UInt8)))) (Prod.fst (2, 80)) (D.bool false))) (putKV KT.str (D.str (([115, 117, 98] : List UInt8))) (D.agg (setField KT.any (TI.cells { kt := KT.any, cells := [KT.any], fields := [], bytes := 8 }) (setField KT.str (TI.cells { kt := KT.str, cells := [KT.str], fields := [], bytes := 16 }) (setField (KT.int IntKind.i64) (TI.cells { kt := KT.int IntKind.i64, cells := [KT.int IntKind.i64], fields := [], bytes := 8 }) (List.map zeroD (TI.cells { kt := KT.agg 82, cells := [KT.int IntKind.i64, KT.str, KT.any], fields := [(0, 3), (1, 9), (2, 80)], bytes := 32 })) (Prod.fst (0, 3)) (D.int 2)) (Prod.fst (1, 9)) (D.str (([105, 105] : List UInt8)))) (Prod.fst (2, 80)) (D.bool false))) (putKV KT.str (D.str (([97, 100, 100] : List UInt8))) (D.agg (setField KT.any (TI.cells { kt := KT.any, cells := [KT.any], fields := [], bytes := 8 }) (setField KT.str (TI.cells { kt := KT.str, cells := [KT.str], fields := [], bytes := 16 }) (setField (KT.int IntKind.i64) (TI.cells { kt := KT.int IntKind.i64, cells := [KT.int IntKind.i64], fields := [], bytes := 8 }) (List.map zeroD (TI.cells { kt := KT.agg 82, cells := [KT.int IntKind.i64, KT.str, KT.any], fields := [(0, 3), (1, 9), (2, 80)], bytes := 32 })) (Prod.fst (0, 3)) (D.int 2)) (Prod.fst (1, 9)) (D.str (([105, 105] : List UInt8)))) (Prod.fst (2, 80)) (D.bool false))) (putKV KT.str (D.str (([107, 101, 121, 115] : List UInt8))) (D.agg (setField KT.any (TI.cells { kt := KT.any, cells := [KT.any], fields := [], bytes := 8 }) (setField KT.str (TI.cells { kt := KT.str, cells := [KT.str], fields := [], bytes := 16 }) (setField (KT.int IntKind.i64) (TI.cells { kt := KT.int IntKind.i64, cells := [KT.int IntKind.i64], fields := [], bytes := 8 }) (List.map zeroD (TI.cells { kt := KT.agg 82, cells := [KT.int IntKind.i64, KT.str, KT.any], fields := [(0, 3), (1, 9), (2, 80)], bytes := 32 })) (Prod.fst (0, 3)) (D.int 1)) (Prod.fst (1, 9)) (D.str (([116] : List UInt8)))) (Prod.fst (2, 80)) (D.bool false))) (putKV KT.str (D.str (([106, 111, 105, 110] : List UInt8))) (D.agg (setField KT.any (TI.cells { kt := KT.any, cells := [KT.any], fields := [], bytes := 8 }) (setField KT.str (TI.cells { kt := KT.str, cells := [KT.str], fields := [], bytes := 16 }) (setField (KT.int IntKind.i64) (TI.cells { kt := KT.int IntKind.i64, cells := [KT.int IntKind.i64], fields := [], bytes := 8 }) (List.map zeroD (TI.cells { kt := KT.agg 82, cells := [KT.int IntKind.i64, KT.str, KT.any], fields := [(0, 3), (1, 9), (2, 80)], bytes := 32 })) (Prod.fst (0, 3)) (D.int 2)) (Prod.fst (1, 9)) (D.str (([108, 115] : List UInt8)))) (Prod.fst (2, 80)) (D.bool false))) (putKV KT.str (D.str (([104, 97, 115] : List UInt8))) (D.agg (setField KT.any (TI.cells { kt := KT.any, cells := [KT.any], fields := [], bytes := 8 }) (setField KT.str (TI.cells { kt := KT.str, cells := [KT.str], fields := [], bytes := 16 }) (setField (KT.int IntKind.i64) (TI.cells { kt := KT.int IntKind.i64, cells := [KT.int IntKind.i64], fields := [], bytes := 8 }) (List.map zeroD (TI.cells { kt := KT.agg 82, cells := [KT.int IntKind.i64, KT.str, KT.any], fields := [(0, 3), (1, 9), (2, 80)], bytes := 32 })) (Prod.fst (0, 3)) (D.int 2)) (Prod.fst (1, 9)) (D.str (([108, 118] : List UInt8)))) (Prod.fst (2, 80)) (D.bool false))) (putKV KT.str (D.str (([119, 104, 101, 114, 101] : List UInt8))) (D.agg (setField KT.any (TI.cells { kt := KT.any, cells := [KT.any], fields := [], bytes := 8 }) (setField KT.str (TI.cells { kt := KT.str, cells := [KT.str], fields := [], bytes := 16 }) (setField (KT.int IntKind.i64) (TI.cells { kt := KT.int IntKind.i64, cells := [KT.int IntKind.i64], fields := [], bytes := 8 }) (List.map zeroD (TI.cells { kt := KT.agg 82, cells := [KT.int IntKind.i64, KT.str, KT.any], fields := [(0, 3), (1, 9), (2, 80)], bytes := 32 })) (Prod.fst (0, 3)) (D.int 3)) (Prod.fst (1, 9)) (D.str (([108, 115, 118] : List UInt8)))) (Prod.fst (2, 80)) (D.bool false))) (putKV KT.str (D.str (([115, 111, 114, 116] : List UInt8))) (D.agg (setField KT.any (TI.cells { kt := KT.any, cells := [KT.any], fields := [], bytes := 8 }) (setField KT.str (TI.cells { kt := KT.str, cells := [KT.str], fields := [], bytes := 16 }) (setField (KT.int IntKind.i64) (TI.cells { kt := KT.int IntKind.i64, cells := [KT.int IntKind.i64], fields := [], bytes := 8 }) (List.map zeroD (TI.cells { kt := KT.agg 82, cells := [KT.int IntKind.i64, KT.str, KT.any], fields := [(0, 3), (1, 9), (2, 80)], bytes := 32 })) (Prod.fst (0, 3)) (D.int 2)) (Prod.fst (1, 9)) (D.str (([108, 115] : List UInt8)))) (Prod.fst (2, 80)) (D.bool false))) (putKV KT.str (D.str (([114, 101, 118, 101, 114, 115, 101] : List UInt8))) (D.agg (setField KT.any (TI.cells { kt := KT.any, cells := [KT.any], fields := [], bytes := 8 }) (setField KT.str (TI.cells { kt := KT.str, cells := [KT.str], fields := [], bytes := 16 }) (setField (KT.int IntKind.i64) (TI.cells { kt := KT.int IntKind.i64, cells := [KT.int IntKind.i64], fields := [], bytes := 8 }) (List.map zeroD (TI.cells { kt := KT.agg 82, cells := [KT.int IntKind.i64, KT.str, KT.any], fields := [(0, 3), (1, 9), (2, 80)], bytes := 32 })) (Prod.fst (0, 3)) (D.int 1)) (Prod.fst (1, 9)) (D.str (([108] : List UInt8)))) (Prod.fst (2, 80)) (D.bool false))) (putKV KT.str (D.str (([108, 97, 115, 116] : List UInt8))) (D.agg (setField KT.any (TI.cells { kt := KT.any, cells := [KT.any], fields := [], bytes := 8 }) (setField KT.str (TI.cells { kt := KT.str, cells := [KT.str], fields := [], bytes := 16 }) (setField (KT.int IntKind.i64) (TI.cells { kt := KT.int IntKind.i64, cells := [KT.int IntKind.i64], fields := [], bytes := 8 }) (List.map zeroD (TI.cells { kt := KT.agg 82, cells := [KT.int IntKind.i64, KT.str, KT.any], fields := [(0, 3), (1, 9), (2, 80)], bytes := 32 })) (Prod.fst (0, 3)) (D.int 2)) (Prod.fst (1, 9)) (D.str (([108, 105] : List UInt8)))) (Prod.fst (2, 80)) (D.bool false))) (putKV KT.str (D.str (([102, 105, 114, 115, 116] : List UInt8))) (D.agg (setField KT.any (TI.cells { kt := KT.any, cells := [KT.any], fields := [], bytes := 8 }) (setField KT.str (TI.cells { kt := KT.str, cells := [KT.str], fields := [], bytes := 16 }) (setField (KT.int IntKind.i64) (TI.cells { kt := KT.int IntKind.i64, cells := [KT.int IntKind.i64], fields := [], bytes := 8 }) (List.map zeroD (TI.cells { kt := KT.agg 82, cells := [KT.int IntKind.i64, KT.str, KT.any], fields := [(0, 3), (1, 9), (2, 80)], bytes := 32 })) (Prod.fst (0, 3)) (D.int 2)) (Prod.fst (1, 9)) (D.str (([108, 105] : List UInt8)))) (Prod.fst (2, 80)) (D.bool false))) (putKV KT.str (D.str (([114, 101, 112, 108, 97, 99, 101] : List UInt8))) (D.agg (setField KT.any (TI.cells { kt := KT.any, cells := [KT.any], fields := [], bytes := 8 }) (setField KT.str (TI.cells { kt := KT.str, cells := [KT.str], fields := [], bytes := 16 }) (setField (KT.int IntKind.i64) (TI.cells { kt := KT.int IntKind.i64, cells := [KT.int IntKind.i64], fields := [], bytes := 8 }) (List.map zeroD (TI.cells { kt := KT.agg 82, cells := [KT.int IntKind.i64, KT.str, KT.any], fields := [(0, 3), (1, 9), (2, 80)], bytes := 32 })) (Prod.fst (0, 3)) (D.int 3)) (Prod.fst (1, 9)) (D.str (([115, 115, 115] : List UInt8)))) (Prod.fst (2, 80)) (D.bool false))) (putKV KT.str (D.str (([115, 112, 108, 105, 116] : List UInt8))) (D.agg (setField KT.any (TI.cells { kt := KT.any, cells := [KT.any], fields := [], bytes := 8 }) (setField KT.str (TI.cells { kt := KT.str, cells := [KT.str], fields := [], bytes := 16 }) (setField (KT.int IntKind.i64) (TI.cells { kt := KT.int IntKind.i64, cells := [KT.int IntKind.i64], fields := [], bytes := 8 }) (List.map zeroD (TI.cells { kt := KT.agg 82, cells := [KT.int IntKind.i64, KT.str, KT.any], fields := [(0, 3), (1, 9), (2, 80)], bytes := 32 })) (Prod.fst (0, 3)) (D.int 2)) (Prod.fst (1, 9)) (D.str (([115, 115] : List UInt8)))) (Prod.fst (2, 80)) (D.bool false))) (putKV KT.str (D.str (([112, 108, 97, 105, 110] : List UInt8))) (D.agg (setField KT.any (TI.cells { kt := KT.any, cells := [KT.any], fields := [], bytes := 8 }) (setField KT.str (TI.cells { kt := KT.str, cells := [KT.str], fields := [], bytes := 16 }) (setField (KT.int IntKind.i64) (TI.cells { kt := KT.int IntKind.i64, cells := [KT.int IntKind.i64], fields := [], bytes := 8 }) (List.map zeroD (TI.cells { kt := KT.agg 82, cells := [KT.int IntKind.i64, KT.str, KT.any], fields := [(0, 3), (1, 9), (2, 80)], bytes := 32 })) (Prod.fst (0, 3)) (D.int 1)) (Prod.fst (1, 9)) (D.str (([115] : List UInt8)))) (Prod.fst (2, 80)) (D.bool false))) (putKV KT.str (D.str (([115, 108, 117, 103] : List UInt8))) (D.agg (setField KT.any (TI.cells { kt := KT.any, cells := [KT.any], fields := [], bytes := 8 }) (setField KT.str (TI.cells { kt := KT.str, cells := [KT.str], fields := [], bytes := 16 }) (setField (KT.int IntKind.i64) (TI.cells { kt := KT.int IntKind.i64, cells := [KT.int IntKind.i64], fields := [], bytes := 8 }) (List.map zeroD (TI.cells { kt := KT.agg 82, cells := [KT.int IntKind.i64, KT.str, KT.any], fields := [(0, 3), (1, 9), (2, 80)], bytes := 32 })) (Prod.fst (0, 3)) (D.int 1)) (Prod.fst (1, 9)) (D.str (([115] : List UInt8)))) (Prod.fst (2, 80)) (D.bool false))) (putKV KT.str (D.str (([116, 114, 105, 109] : List UInt8))) (D.agg (setField KT.any (TI.cells { kt := KT.any, cells := [KT.any], fields := [], bytes := 8 }) (setField KT.str (TI.cells { kt := KT.str, cells := [KT.str], fields := [], bytes := 16 }) (setField (KT.int IntKind.i64) (TI.cells { kt := KT.int IntKind.i64, cells := [KT.int IntKind.i64], fields := [], bytes := 8 }) (List.map zeroD (TI.cells { kt := KT.agg 82, cells := [KT.int IntKind.i64, KT.str, KT.any], fields := [(0, 3), (1, 9), (2, 80)], bytes := 32 })) (Prod.fst (0, 3)) (D.int 1)) (Prod.fst (1, 9)) (D.str (([115] : List UInt8)))) (Prod.fst (2, 80)) (D.bool false))) (putKV KT.str (D.str (([108, 111, 119, 101, 114] : List UInt8))) (D.agg (setField KT.any (TI.cells { kt := KT.any, cells := [KT.any], fields := [], bytes := 8 }) (setField KT.str (TI.cells { kt := KT.str, cells := [KT.str], fields := [], bytes := 16 }) (setField (KT.int IntKind.i64) (TI.cells { kt := KT.int IntKind.i64, cells := [KT.int IntKind.i64], fields := [], bytes := 8 }) (List.map zeroD (TI.cells { kt := KT.agg 82, cells := [KT.int IntKind.i64, KT.str, KT.any], fields := [(0, 3), (1, 9), (2, 80)], bytes := 32 })) (Prod.fst (0, 3)) (D.int 1)) (Prod.fst (1, 9)) (D.str (([115] : List UInt8)))) (Prod.fst (2, 80)) (D.bool false))) (putKV KT.str (D.str (([117, 112, 112, 101, 114] : List UInt8))) (D.agg (setField KT.any (TI.cells { kt := KT.any, cells := [KT.any], fields := [], bytes := 8 }) (setField KT.str (TI.cells { kt := KT.str, cells := [KT.str], fields := [], bytes := 16 }) (setField (KT.int IntKind.i64) (TI.cells { kt := KT.int IntKind.i64, cells := [KT.int IntKind.i64], fields := [], bytes := 8 }) (List.map zeroD (TI.cells { kt := KT.agg 82, cells := [KT.int IntKind.i64, KT.str, KT.any], fields := [(0, 3), (1, 9), (2, 80)], bytes := 32 })) (Prod.fst (0, 3)) (D.int 1)) (Prod.fst (1, 9)) (D.str (([115] : List UInt8)))) (Prod.fst (2, 80)) (D.bool false))) (putKV KT.str (D.str (([108, 101, 110] : List UInt8))) (D.agg (setField KT.any (TI.cells { kt := KT.any, cells := [KT.any], fields := [], bytes := 8 }) (setField KT.str (TI.cells { kt := KT.str, cells := [KT.str], fields := [], bytes := 16 }) (setField (KT.int IntKind.i64) (TI.cells { kt := KT.int IntKind.i64, cells := [KT.int IntKind.i64], fields := [], bytes := 8 }) (List.map zeroD (TI.cells { kt := KT.agg 82, cells := [KT.int IntKind.i64, KT.str, KT.any], fields := [(0, 3), (1, 9), (2, 80)], bytes := 32 })) (Prod.fst (0, 3)) (D.int 1)) (Prod.fst (1, 9)) (D.str (([99] : List UInt8)))) (Prod.fst (2, 80)) (D.bool false))) [])))))))))))))))))))))))))))))] := (RUN_eq _ _ _).trans (by kernel_rfl)
/-! masthead/mastref1.wordByte -/
theorem enter72 (c0 : Int) : RUN E 72 [D.int c0] =
 opt (cond (bif bif decide (97 ≤ c0) then decide (c0 ≤ 122) else false then false else true)
 (RUN E 99 [D.int c0])
 (some [])) fun ρ0 =>
 some [D.bool (bif bif bif decide (97 ≤ c0) then decide (c0 ≤ 122) else false then true else D.toBool (List.getD ρ0 0 D.no) then true else decide (c0 = 95))] := (RUN_eq _ _ _).trans (by kernel_rfl)
/-! strings.Split -/
theorem enter73 (s0 : List UInt8) (sep1 : List UInt8) : RUN E 73 [D.str s0, D.str sep1] =
 opt (RUN E 100 [D.str s0, D.str sep1, D.int 0, D.int (-1)]) fun ρ0 =>
 some [D.list (D.toList (List.getD ρ0 0 D.no))] := (RUN_eq _ _ _).trans (by kernel_rfl)
/-! masthead/tmpl.isSmall -/
theorem enter87 (c0 : Int) : RUN E 87 [D.int c0] =
 some [D.bool (bif decide (97 ≤ c0) then decide (c0 ≤ 122) else false)] := (RUN_eq _ _ _).trans (by kernel_rfl)
/-! masthead/tmpl.isWord -/
theorem enter88 (c0 : Int) : RUN E 88 [D.int c0] =
 opt (RUN E 87 [D.int c0]) fun ρ0 =>
 opt (cond (bif D.toBool (List.getD ρ0 0 D.no) then false else true)
 (RUN E 110 [D.int c0])
 (some [])) fun ρ1 =>
 some [D.bool (bif bif D.toBool (List.getD ρ0 0 D.no) then true else D.toBool (List.getD ρ1 0 D.no) then true else decide (c0 = 95))] := (RUN_eq _ _ _).trans (by kernel_rfl)
/-! masthead/mastref1.isDigit -/
theorem enter99 (c0 : Int) : RUN E 99 [D.int c0] =
 some [D.bool (bif decide (48 ≤ c0) then decide (c0 ≤ 57) else false)] := (RUN_eq _ _ _).trans (by kernel_rfl)
/-! strings.genSplit -/
def h100a (s0 : List UInt8) (sep1 : List UInt8) (sepSave2 : Int) (n3 : Int) : St := mkSt 66 [(0, SV.val KT.str (D.str s0)), (1, SV.val KT.str (D.str sep1)), (2, SV.val (KT.int IntKind.i64) (D.int sepSave2)), (3, SV.val (KT.int IntKind.i64) (D.int n3))] []
noncomputable def C100a (s0 : List UInt8) (sep1 : List UInt8) (sepSave2 : Int) (n3 : Int) : R := PART E (RUN E) 100 Tryz.f100 [1, 1, 1, 1] (h100a s0 sep1 sepSave2 n3)
def h100b (s0 : List UInt8) (sep1 : List UInt8) (sepSave2 : Int) (n3 : Int) (i10 : Int) (a9s : List D) : St := mkSt 66 [(0, SV.val KT.str (D.str s0)), (1, SV.val KT.str (D.str sep1)), (2, SV.val (KT.int IntKind.i64) (D.int sepSave2)), (3, SV.val (KT.int IntKind.i64) (D.int n3)), (9, SV.own 9), (10, SV.val (KT.int IntKind.i64) (D.int i10))] [(9, Obj.arr 9 a9s)]
noncomputable def L100b (s0 : List UInt8) (sep1 : List UInt8) (sepSave2 : Int) (n3 : Int) (i10 : Int) (a9s : List D) : R := LOOP E (RUN E) 100 Tryz.f100 [1, 1, 1, 1, 1, 1, 1, 1, 0, 0] (h100b s0 sep1 sepSave2 n3 i10 a9s)
theorem enter100 (s0 : List UInt8) (sep1 : List UInt8) (sepSave2 : Int) (n3 : Int) : RUN E 100 [D.str s0, D.str sep1, D.int sepSave2, D.int n3] =
 cond (decide (n3 = 0))
 (some [D.list []])
 (cond (decide (sep1 = ([] : List UInt8)))
 (opt (RUN E 132 [D.str s0, D.int n3]) fun ρ2 =>
 some [D.list (D.toList (List.getD ρ2 0 D.no))])
 (cond (decide (n3 < 0))
 (opt (RUN E 62 [D.str s0, D.str sep1]) fun ρ3 =>
 C100a s0 sep1 sepSave2 (IntKind.wrap IntKind.i64 (D.toInt (List.getD ρ3 0 D.no) + 1)))
 (C100a s0 sep1 sepSave2 n3))) := (RUN_eq _ _ _).trans (by kernel_rfl)
theorem round100a (s0 : List UInt8) (sep1 : List UInt8) (sepSave2 : Int) (n3 : Int) : C100a s0 sep1 sepSave2 n3 =
 cond (bif decide (0 ≤ mmInt false n3 (IntKind.wrap IntKind.i64 ((↑(List.length s0) : Int) + 1))) then bif decide (mmInt false n3 (IntKind.wrap IntKind.i64 ((↑(List.length s0) : Int) + 1)) ≤ mmInt false n3 (IntKind.wrap IntKind.i64 ((↑(List.length s0) : Int) + 1))) then (fun (_ : Unit) => decide (mmInt false n3 (IntKind.wrap IntKind.i64 ((↑(List.length s0) : Int) + 1)) ≤ (↑lim : Int))) () else false else false)
 (L100b s0 sep1 sepSave2 (IntKind.wrap IntKind.i64 (mmInt false n3 (IntKind.wrap IntKind.i64 ((↑(List.length s0) : Int) + 1)) - 1)) 0 (List.replicate (Int.toNat (mmInt false n3 (IntKind.wrap IntKind.i64 ((↑(List.length s0) : Int) + 1)))) (D.str [])))
 (none) := (PART_eq _ _ _ _ _ _).trans (by kernel_rfl)
theorem round100b (s0 : List UInt8) (sep1 : List UInt8) (sepSave2 : Int) (n3 : Int) (i10 : Int) (a9s : List D) : L100b s0 sep1 sepSave2 n3 i10 a9s =
 cond (decide (i10 < n3))
 (opt (RUN E 63 [D.str s0, D.str sep1]) fun ρ1 =>
 cond (decide (D.toInt (List.getD ρ1 0 D.no) < 0))
 (cond (inb i10 (List.length a9s))
 (cond (cutOk (List.length (List.set a9s (Int.toNat i10) (D.str s0))) none (some (IntKind.wrap IntKind.i64 (i10 + 1))))
 (some [D.list (cutL (List.set a9s (Int.toNat i10) (D.str s0)) none (some (IntKind.wrap IntKind.i64 (i10 + 1))))])
 (none))
 (none))
 (cond (cutOk (List.length s0) none (some (IntKind.wrap IntKind.i64 (D.toInt (List.getD ρ1 0 D.no) + sepSave2))))
 (cond (inb i10 (List.length a9s))
 (cond (cutOk (List.length s0) (some (IntKind.wrap IntKind.i64 (D.toInt (List.getD ρ1 0 D.no) + (↑(List.length sep1) : Int)))) none)
 (L100b (cutL s0 (some (IntKind.wrap IntKind.i64 (D.toInt (List.getD ρ1 0 D.no) + (↑(List.length sep1) : Int)))) none) sep1 sepSave2 n3 (IntKind.wrap IntKind.i64 (i10 + 1)) (List.set a9s (Int.toNat i10) (D.str (cutL s0 none (some (IntKind.wrap IntKind.i64 (D.toInt (List.getD ρ1 0 D.no) + sepSave2)))))))
 (none))
 (none))
 (none)))
 (cond (inb i10 (List.length a9s))
 (cond (cutOk (List.length (List.set a9s (Int.toNat i10) (D.str s0))) none (some (IntKind.wrap IntKind.i64 (i10 + 1))))
 (some [D.list (cutL (List.set a9s (Int.toNat i10) (D.str s0)) none (some (IntKind.wrap IntKind.i64 (i10 + 1))))])
 (none))
 (none)) := (LOOP_eq _ _ _ _ _ _).trans (by kernel_rfl)
/-! masthead/tmpl.isDigit -/
theorem enter110 (c0 : Int) : RUN E 110 [D.int c0] =
 some [D.bool (bif decide (48 ≤ c0) then decide (c0 ≤ 57) else false)] := (RUN_eq _ _ _).trans (by kernel_rfl)
end Go.Proofs.YtcmeincdmphaoaaGreatDoor.ww
