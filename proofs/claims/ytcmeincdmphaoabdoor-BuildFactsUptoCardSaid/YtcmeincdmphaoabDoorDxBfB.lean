/- A part of the proof. -/
import Derived.Test.YtcmeincdmphaoabDoorDxBfA
set_option linter.unusedVariables false
set_option linter.unusedSimpArgs false
namespace Go.Proofs.YtcmeincdmphaoabDoor.bf
open Go.Proofs.YtcmeincdmphaoabDoor.DS

/-! masthead/mastlaw1.BuildFacts -/
def h3a (name1 : List UInt8) (ok12 : Bool) (is14 : Bool) (v24 : List D) (v25 : Int) (v26 : Int) (c7 : D) (a8 : D) (b9 : D) (v11 : D) (want13c0 : Int) (want13c1 : Bool) (want13c2 : Int) (want13c3 : List UInt8) (x700836s : List D) (x700837s : List D) : St := mkSt 65 [(1, SV.val KT.str (D.str name1)), (7, SV.bptr 7 26 0 (KT.agg 26)), (8, SV.bptr 8 29 0 (KT.agg 29)), (9, SV.bptr 9 29 0 (KT.agg 29)), (11, SV.bptr 11 29 0 (KT.agg 29)), (12, SV.val KT.bool (D.bool ok12)), (13, SV.bptr 13 29 0 (KT.agg 29)), (14, SV.val KT.bool (D.bool is14)), (24, SV.val (KT.slice 33) (D.list v24)), (25, SV.val (KT.int IntKind.i64) (D.int v25)), (26, SV.val (KT.int IntKind.i64) (D.int v26))] [(7, Obj.box 26 (BC.whole c7)), (8, Obj.box 29 (BC.whole a8)), (9, Obj.box 29 (BC.whole b9)), (11, Obj.box 29 (BC.whole v11)), (13, Obj.box 29 (BC.cells [SV.val (KT.int IntKind.i64) (D.int want13c0), SV.val KT.bool (D.bool want13c1), SV.val (KT.int IntKind.i64) (D.int want13c2), SV.val KT.str (D.str want13c3), SV.own 700836, SV.own 700837])), (700836, Obj.arr 29 x700836s), (700837, Obj.arr 9 x700837s)]
noncomputable def L3a (name1 : List UInt8) (ok12 : Bool) (is14 : Bool) (v24 : List D) (v25 : Int) (v26 : Int) (c7 : D) (a8 : D) (b9 : D) (v11 : D) (want13c0 : Int) (want13c1 : Bool) (want13c2 : Int) (want13c3 : List UInt8) (x700836s : List D) (x700837s : List D) : R := LOOP E (RUN E) 3 Tryd.f3 [1, 1, 1, 0, 1, 0] (h3a name1 ok12 is14 v24 v25 v26 c7 a8 b9 v11 want13c0 want13c1 want13c2 want13c3 x700836s x700837s)
def h3ax (name1 : List UInt8) (ok12 : Bool) (is14 : Bool) (v24 : List D) (v25 : Int) (v26 : Int) (c7 : D) (a8 : D) (b9 : D) (v11 : D) (want13 : D) : St := mkSt 65 [(1, SV.val KT.str (D.str name1)), (7, SV.bptr 7 26 0 (KT.agg 26)), (8, SV.bptr 8 29 0 (KT.agg 29)), (9, SV.bptr 9 29 0 (KT.agg 29)), (11, SV.bptr 11 29 0 (KT.agg 29)), (12, SV.val KT.bool (D.bool ok12)), (13, SV.bptr 13 29 0 (KT.agg 29)), (14, SV.val KT.bool (D.bool is14)), (24, SV.val (KT.slice 33) (D.list v24)), (25, SV.val (KT.int IntKind.i64) (D.int v25)), (26, SV.val (KT.int IntKind.i64) (D.int v26))] [(7, Obj.box 26 (BC.whole c7)), (8, Obj.box 29 (BC.whole a8)), (9, Obj.box 29 (BC.whole b9)), (11, Obj.box 29 (BC.whole v11)), (13, Obj.box 29 (BC.whole want13))]
noncomputable def L3ax (name1 : List UInt8) (ok12 : Bool) (is14 : Bool) (v24 : List D) (v25 : Int) (v26 : Int) (c7 : D) (a8 : D) (b9 : D) (v11 : D) (want13 : D) : R := LOOP E (RUN E) 3 Tryd.f3 [1, 1, 1, 0, 1, 0] (h3ax name1 ok12 is14 v24 v25 v26 c7 a8 b9 v11 want13)
theorem enter3 (facts0 : List D) (name1 : List UInt8) (c2 : D) (a3 : D) (b4 : D) : RUN E 3 [D.list facts0, D.str name1, c2, a3, b4] =
 opt (RUN E 5 [D.list facts0, D.str name1]) fun ρ0 =>
 L3a name1 (D.toBool (List.getD ρ0 1 D.no)) false facts0 ((↑(List.length facts0) : Int)) 0 c2 a3 b4 (List.getD ρ0 0 D.no) 0 false 0 [] [] [] := (RUN_eq _ _ _).trans (by kernel_rfl)
theorem round3a (name1 : List UInt8) (ok12 : Bool) (is14 : Bool) (v24 : List D) (v25 : Int) (v26 : Int) (c7 : D) (a8 : D) (b9 : D) (v11 : D) (want13c0 : Int) (want13c1 : Bool) (want13c2 : Int) (want13c3 : List UInt8) (x700836s : List D) (x700837s : List D) : L3a name1 ok12 is14 v24 v25 v26 c7 a8 b9 v11 want13c0 want13c1 want13c2 want13c3 x700836s x700837s =
 cond (decide (v26 < v25))
 (cond (inb v26 (List.length v24))
 (cond (bif decide (D.toStr (D.cell (List.getD v24 (Int.toNat v26) D.no) 0) = name1) then bif is14 then false else true else false)
 (L3ax name1 ok12 true v24 v25 (IntKind.wrap IntKind.i64 (v26 + 1)) c7 a8 b9 v11 (partD (Env.tt E) (List.getD v24 (Int.toNat v26) D.no) (0 + Prod.fst (1, 29)) (KT.agg 29)))
 (L3a name1 ok12 is14 v24 v25 (IntKind.wrap IntKind.i64 (v26 + 1)) c7 a8 b9 v11 want13c0 want13c1 want13c2 want13c3 x700836s x700837s))
 (none))
 (opt (cond (bif ok12 == is14 then true else false)
 (RUN E 6 [v11, D.agg [D.int want13c0, D.bool want13c1, D.int want13c2, D.str want13c3, D.list x700836s, D.list x700837s]])
 (some [])) fun ρ1 =>
 opt (cond (bif bif ok12 == is14 then D.toBool (List.getD ρ1 0 D.no) else false then true else false)
 (RUN E 7 [c7])
 (some [])) fun ρ2 =>
 opt (cond (bif bif ok12 == is14 then D.toBool (List.getD ρ1 0 D.no) else false then true else false)
 (RUN E 8 [c7])
 (some [])) fun ρ3 =>
 opt (cond (bif bif ok12 == is14 then D.toBool (List.getD ρ1 0 D.no) else false then true else false)
 (RUN E 6 [List.getD ρ2 0 D.no, List.getD ρ3 0 D.no])
 (some [])) fun ρ4 =>
 opt (cond (bif bif bif ok12 == is14 then D.toBool (List.getD ρ1 0 D.no) else false then D.toBool (List.getD ρ4 0 D.no) else false then true else false)
 (RUN E 9 [a8, b9])
 (some [])) fun ρ5 =>
 opt (cond (bif bif bif ok12 == is14 then D.toBool (List.getD ρ1 0 D.no) else false then D.toBool (List.getD ρ4 0 D.no) else false then true else false)
 (RUN E 6 [a8, b9])
 (some [])) fun ρ6 =>
 some [D.bool (bif bif bif ok12 == is14 then D.toBool (List.getD ρ1 0 D.no) else false then D.toBool (List.getD ρ4 0 D.no) else false then D.toBool (List.getD ρ5 0 D.no) == D.toBool (List.getD ρ6 0 D.no) else false)]) := (LOOP_eq _ _ _ _ _ _).trans (by kernel_rfl)
theorem round3ax (name1 : List UInt8) (ok12 : Bool) (is14 : Bool) (v24 : List D) (v25 : Int) (v26 : Int) (c7 : D) (a8 : D) (b9 : D) (v11 : D) (want13 : D) : L3ax name1 ok12 is14 v24 v25 v26 c7 a8 b9 v11 want13 =
 cond (decide (v26 < v25))
 (cond (inb v26 (List.length v24))
 (cond (bif decide (D.toStr (D.cell (List.getD v24 (Int.toNat v26) D.no) 0) = name1) then bif is14 then false else true else false)
 (L3ax name1 ok12 true v24 v25 (IntKind.wrap IntKind.i64 (v26 + 1)) c7 a8 b9 v11 (partD (Env.tt E) (List.getD v24 (Int.toNat v26) D.no) (0 + Prod.fst (1, 29)) (KT.agg 29)))
 (L3ax name1 ok12 is14 v24 v25 (IntKind.wrap IntKind.i64 (v26 + 1)) c7 a8 b9 v11 want13))
 (none))
 (opt (cond (bif ok12 == is14 then true else false)
 (RUN E 6 [v11, want13])
 (some [])) fun ρ1 =>
 opt (cond (bif bif ok12 == is14 then D.toBool (List.getD ρ1 0 D.no) else false then true else false)
 (RUN E 7 [c7])
 (some [])) fun ρ2 =>
 opt (cond (bif bif ok12 == is14 then D.toBool (List.getD ρ1 0 D.no) else false then true else false)
 (RUN E 8 [c7])
 (some [])) fun ρ3 =>
 opt (cond (bif bif ok12 == is14 then D.toBool (List.getD ρ1 0 D.no) else false then true else false)
 (RUN E 6 [List.getD ρ2 0 D.no, List.getD ρ3 0 D.no])
 (some [])) fun ρ4 =>
 opt (cond (bif bif bif ok12 == is14 then D.toBool (List.getD ρ1 0 D.no) else false then D.toBool (List.getD ρ4 0 D.no) else false then true else false)
 (RUN E 9 [a8, b9])
 (some [])) fun ρ5 =>
 opt (cond (bif bif bif ok12 == is14 then D.toBool (List.getD ρ1 0 D.no) else false then D.toBool (List.getD ρ4 0 D.no) else false then true else false)
 (RUN E 6 [a8, b9])
 (some [])) fun ρ6 =>
 some [D.bool (bif bif bif ok12 == is14 then D.toBool (List.getD ρ1 0 D.no) else false then D.toBool (List.getD ρ4 0 D.no) else false then D.toBool (List.getD ρ5 0 D.no) == D.toBool (List.getD ρ6 0 D.no) else false)]) := (LOOP_eq _ _ _ _ _ _).trans (by kernel_rfl)
/-! masthead/build.Fact -/
def h5a (name1 : List UInt8) (v8 : List D) (v9 : Int) (v10 : Int) (v4c0 : Int) (v4c1 : Bool) (v4c2 : Int) (v4c3 : List UInt8) (x700260s : List D) (x700261s : List D) : St := mkSt 23 [(1, SV.val KT.str (D.str name1)), (4, SV.bptr 4 29 0 (KT.agg 29)), (8, SV.val (KT.slice 33) (D.list v8)), (9, SV.val (KT.int IntKind.i64) (D.int v9)), (10, SV.val (KT.int IntKind.i64) (D.int v10))] [(4, Obj.box 29 (BC.cells [SV.val (KT.int IntKind.i64) (D.int v4c0), SV.val KT.bool (D.bool v4c1), SV.val (KT.int IntKind.i64) (D.int v4c2), SV.val KT.str (D.str v4c3), SV.own 700260, SV.own 700261])), (700260, Obj.arr 29 x700260s), (700261, Obj.arr 9 x700261s)]
noncomputable def L5a (name1 : List UInt8) (v8 : List D) (v9 : Int) (v10 : Int) (v4c0 : Int) (v4c1 : Bool) (v4c2 : Int) (v4c3 : List UInt8) (x700260s : List D) (x700261s : List D) : R := LOOP E (RUN E) 5 Tryd.f5 [1, 0, 1, 0] (h5a name1 v8 v9 v10 v4c0 v4c1 v4c2 v4c3 x700260s x700261s)
theorem enter5 (facts0 : List D) (name1 : List UInt8) : RUN E 5 [D.list facts0, D.str name1] =
 L5a name1 facts0 ((↑(List.length facts0) : Int)) 0 0 false 0 [] [] [] := (RUN_eq _ _ _).trans (by kernel_rfl)
theorem round5a (name1 : List UInt8) (v8 : List D) (v9 : Int) (v10 : Int) (v4c0 : Int) (v4c1 : Bool) (v4c2 : Int) (v4c3 : List UInt8) (x700260s : List D) (x700261s : List D) : L5a name1 v8 v9 v10 v4c0 v4c1 v4c2 v4c3 x700260s x700261s =
 cond (decide (v10 < v9))
 (cond (inb v10 (List.length v8))
 (cond (decide (D.toStr (D.cell (List.getD v8 (Int.toNat v10) D.no) 0) = name1))
 (opt (RUN E 13 [D.agg (List.take (List.length (TI.cells { kt := KT.agg 29, cells := [KT.int IntKind.i64, KT.bool, KT.int IntKind.i64, KT.str, KT.slice 29, KT.slice 9], fields := [(0, 3), (1, 4), (2, 3), (3, 9), (4, 27), (5, 24)], bytes := 88 })) (List.drop (0 + Prod.fst (1, 29)) (D.cells (List.getD v8 (Int.toNat v10) D.no))))]) fun ρ3 =>
 some [List.getD ρ3 0 D.no, D.bool true])
 (L5a name1 v8 v9 (IntKind.wrap IntKind.i64 (v10 + 1)) v4c0 v4c1 v4c2 v4c3 x700260s x700261s))
 (none))
 (some [D.agg [D.int 0, D.bool false, D.int 0, D.str [], D.list [], D.list []], D.bool false]) := (LOOP_eq _ _ _ _ _ _).trans (by kernel_rfl)
/-! masthead/mastref1.SameValue -/
def h6a (v53 : Int) (v54 : Int) (a2 : D) (b3 : D) : St := mkSt 88 [(2, SV.bptr 2 29 0 (KT.agg 29)), (3, SV.bptr 3 29 0 (KT.agg 29)), (53, SV.val (KT.int IntKind.i64) (D.int v53)), (54, SV.val (KT.int IntKind.i64) (D.int v54))] [(2, Obj.box 29 (BC.whole a2)), (3, Obj.box 29 (BC.whole b3))]
noncomputable def L6a (v53 : Int) (v54 : Int) (a2 : D) (b3 : D) : R := LOOP E (RUN E) 6 Tryd.f6 [1, 1, 0, 1, 0] (h6a v53 v54 a2 b3)
def h6b (v71 : Int) (v72 : Int) (a2 : D) (b3 : D) : St := mkSt 88 [(2, SV.bptr 2 29 0 (KT.agg 29)), (3, SV.bptr 3 29 0 (KT.agg 29)), (71, SV.val (KT.int IntKind.i64) (D.int v71)), (72, SV.val (KT.int IntKind.i64) (D.int v72))] [(2, Obj.box 29 (BC.whole a2)), (3, Obj.box 29 (BC.whole b3))]
noncomputable def L6b (v71 : Int) (v72 : Int) (a2 : D) (b3 : D) : R := LOOP E (RUN E) 6 Tryd.f6 [1, 1, 1, 0, 1, 0] (h6b v71 v72 a2 b3)
theorem enter6 (a0 : D) (b1 : D) : RUN E 6 [a0, b1] =
 cond (bif bif bif bif bif bif decide (D.toInt (D.cell a0 0) = D.toInt (D.cell b1 0)) then false else true then true else bif D.toBool (D.cell a0 1) == D.toBool (D.cell b1 1) then false else true then true else bif decide (D.toInt (D.cell a0 2) = D.toInt (D.cell b1 2)) then false else true then true else bif decide (D.toStr (D.cell a0 3) = D.toStr (D.cell b1 3)) then false else true then true else bif decide ((↑(List.length (D.toList (D.cell a0 4))) : Int) = (↑(List.length (D.toList (D.cell b1 4))) : Int)) then false else true then true else bif decide ((↑(List.length (D.toList (D.cell a0 5))) : Int) = (↑(List.length (D.toList (D.cell b1 5))) : Int)) then false else true)
 (some [D.bool false])
 (L6a ((↑(List.length (D.toList (D.cell a0 5))) : Int)) 0 a0 b1) := (RUN_eq _ _ _).trans (by kernel_rfl)
theorem round6a (v53 : Int) (v54 : Int) (a2 : D) (b3 : D) : L6a v53 v54 a2 b3 =
 cond (decide (v54 < v53))
 (cond (inb v54 (List.length (D.toList (D.cell a2 5))))
 (cond (inb v54 (List.length (D.toList (D.cell b3 5))))
 (cond (bif decide (D.toStr (List.getD (D.toList (D.cell a2 5)) (Int.toNat v54) D.no) = D.toStr (List.getD (D.toList (D.cell b3 5)) (Int.toNat v54) D.no)) then false else true)
 (some [D.bool false])
 (L6a v53 (IntKind.wrap IntKind.i64 (v54 + 1)) a2 b3))
 (none))
 (none))
 (L6b ((↑(List.length (D.toList (D.cell a2 4))) : Int)) 0 a2 b3) := (LOOP_eq _ _ _ _ _ _).trans (by kernel_rfl)
theorem round6b (v71 : Int) (v72 : Int) (a2 : D) (b3 : D) : L6b v71 v72 a2 b3 =
 cond (decide (v72 < v71))
 (cond (inb v72 (List.length (D.toList (D.cell a2 4))))
 (cond (inb v72 (List.length (D.toList (D.cell b3 4))))
 (opt (RUN E 6 [List.getD (D.toList (D.cell a2 4)) (Int.toNat v72) D.no, List.getD (D.toList (D.cell b3 4)) (Int.toNat v72) D.no]) fun ρ3 =>
 cond (bif D.toBool (List.getD ρ3 0 D.no) then false else true)
 (some [D.bool false])
 (L6b v71 (IntKind.wrap IntKind.i64 (v72 + 1)) a2 b3))
 (none))
 (none))
 (some [D.bool true]) := (LOOP_eq _ _ _ _ _ _).trans (by kernel_rfl)
/-! masthead/build.ContentFact -/
def h7a (v8 : List D) (v9 : Int) (v10 : Int) (c1 : D) (v2c0 : Int) (v2c1 : Bool) (v2c2 : Int) (v2c3 : List UInt8) (l3c0 : Int) (l3c1 : Bool) (l3c2 : Int) (l3c3 : List UInt8) (x700132s : List D) (x700133s : List D) (x700196s : List D) (x700197s : List D) : St := mkSt 46 [(1, SV.bptr 1 26 0 (KT.agg 26)), (2, SV.bptr 2 29 0 (KT.agg 29)), (3, SV.bptr 3 29 0 (KT.agg 29)), (8, SV.val (KT.slice 45) (D.list v8)), (9, SV.val (KT.int IntKind.i64) (D.int v9)), (10, SV.val (KT.int IntKind.i64) (D.int v10))] [(1, Obj.box 26 (BC.whole c1)), (2, Obj.box 29 (BC.cells [SV.val (KT.int IntKind.i64) (D.int v2c0), SV.val KT.bool (D.bool v2c1), SV.val (KT.int IntKind.i64) (D.int v2c2), SV.val KT.str (D.str v2c3), SV.own 700132, SV.own 700133])), (3, Obj.box 29 (BC.cells [SV.val (KT.int IntKind.i64) (D.int l3c0), SV.val KT.bool (D.bool l3c1), SV.val (KT.int IntKind.i64) (D.int l3c2), SV.val KT.str (D.str l3c3), SV.own 700196, SV.own 700197])), (700132, Obj.arr 29 x700132s), (700133, Obj.arr 9 x700133s), (700196, Obj.arr 29 x700196s), (700197, Obj.arr 9 x700197s)]
noncomputable def L7a (v8 : List D) (v9 : Int) (v10 : Int) (c1 : D) (v2c0 : Int) (v2c1 : Bool) (v2c2 : Int) (v2c3 : List UInt8) (l3c0 : Int) (l3c1 : Bool) (l3c2 : Int) (l3c3 : List UInt8) (x700132s : List D) (x700133s : List D) (x700196s : List D) (x700197s : List D) : R := LOOP E (RUN E) 7 Tryd.f7 [1, 1, 0, 1, 0] (h7a v8 v9 v10 c1 v2c0 v2c1 v2c2 v2c3 l3c0 l3c1 l3c2 l3c3 x700132s x700133s x700196s x700197s)
theorem enter7 (c0 : D) : RUN E 7 [c0] =
 L7a (D.toList (D.cell c0 3)) ((↑(List.length (D.toList (D.cell c0 3))) : Int)) 0 c0 0 false 0 [] 5 false 0 [] [] [] [] [] := (RUN_eq _ _ _).trans (by kernel_rfl)
theorem round7a (v8 : List D) (v9 : Int) (v10 : Int) (c1 : D) (v2c0 : Int) (v2c1 : Bool) (v2c2 : Int) (v2c3 : List UInt8) (l3c0 : Int) (l3c1 : Bool) (l3c2 : Int) (l3c3 : List UInt8) (x700132s : List D) (x700133s : List D) (x700196s : List D) (x700197s : List D) : L7a v8 v9 v10 c1 v2c0 v2c1 v2c2 v2c3 l3c0 l3c1 l3c2 l3c3 x700132s x700133s x700196s x700197s =
 cond (decide (v10 < v9))
 (cond (inb v10 (List.length v8))
 (opt (RUN E 15 [D.str (D.toStr (D.cell (List.getD v8 (Int.toNat v10) D.no) 1))]) fun ρ2 =>
 opt (RUN E 16 [D.int (D.toInt (D.cell (List.getD v8 (Int.toNat v10) D.no) 0))]) fun ρ3 =>
 opt (RUN E 15 [D.str (D.toStr (D.cell (List.getD v8 (Int.toNat v10) D.no) 2))]) fun ρ4 =>
 opt (RUN E 14 [D.str (([105, 100, 32, 108, 101, 118, 101, 108, 32, 116, 101, 120, 116] : List UInt8)), D.list [List.getD ρ2 0 D.no, List.getD ρ3 0 D.no, List.getD ρ4 0 D.no]]) fun ρ5 =>
 cond (fitL (List.length x700196s) (List.length [List.getD ρ5 0 D.no]))
 (L7a v8 v9 (IntKind.wrap IntKind.i64 (v10 + 1)) c1 v2c0 v2c1 v2c2 v2c3 l3c0 l3c1 l3c2 l3c3 x700132s x700133s (x700196s ++ [List.getD ρ5 0 D.no]) x700197s)
 (none))
 (none))
 (opt (RUN E 17 [D.str (D.toStr (D.cell c1 0))]) fun ρ1 =>
 opt (RUN E 15 [D.str (D.toStr (D.cell c1 2))]) fun ρ2 =>
 opt (RUN E 17 [D.str (D.toStr (D.cell c1 1))]) fun ρ3 =>
 opt (RUN E 16 [D.int (D.toInt (D.cell c1 4))]) fun ρ4 =>
 opt (RUN E 14 [D.str (([99, 111, 110, 116, 101, 110, 116, 115, 32, 104, 116, 109, 108, 32, 112, 108, 97, 105, 110, 32, 115, 117, 109, 109, 97, 114, 121, 32, 119, 111, 114, 100, 115] : List UInt8)), D.list [D.agg [D.int l3c0, D.bool l3c1, D.int l3c2, D.str l3c3, D.list x700196s, D.list x700197s], List.getD ρ1 0 D.no, List.getD ρ2 0 D.no, List.getD ρ3 0 D.no, List.getD ρ4 0 D.no]]) fun ρ5 =>
 some [List.getD ρ5 0 D.no]) := (LOOP_eq _ _ _ _ _ _).trans (by kernel_rfl)
/-! masthead/mastref1.ContentValue -/
def h8a (v8 : List D) (v9 : Int) (v10 : Int) (c1 : D) (v2c0 : Int) (v2c1 : Bool) (v2c2 : Int) (v2c3 : List UInt8) (l3c0 : Int) (l3c1 : Bool) (l3c2 : Int) (l3c3 : List UInt8) (x700132s : List D) (x700133s : List D) (x700196s : List D) (x700197s : List D) : St := mkSt 48 [(1, SV.bptr 1 26 0 (KT.agg 26)), (2, SV.bptr 2 29 0 (KT.agg 29)), (3, SV.bptr 3 29 0 (KT.agg 29)), (8, SV.val (KT.slice 45) (D.list v8)), (9, SV.val (KT.int IntKind.i64) (D.int v9)), (10, SV.val (KT.int IntKind.i64) (D.int v10))] [(1, Obj.box 26 (BC.whole c1)), (2, Obj.box 29 (BC.cells [SV.val (KT.int IntKind.i64) (D.int v2c0), SV.val KT.bool (D.bool v2c1), SV.val (KT.int IntKind.i64) (D.int v2c2), SV.val KT.str (D.str v2c3), SV.own 700132, SV.own 700133])), (3, Obj.box 29 (BC.cells [SV.val (KT.int IntKind.i64) (D.int l3c0), SV.val KT.bool (D.bool l3c1), SV.val (KT.int IntKind.i64) (D.int l3c2), SV.val KT.str (D.str l3c3), SV.own 700196, SV.own 700197])), (700132, Obj.arr 29 x700132s), (700133, Obj.arr 9 x700133s), (700196, Obj.arr 29 x700196s), (700197, Obj.arr 9 x700197s)]
noncomputable def L8a (v8 : List D) (v9 : Int) (v10 : Int) (c1 : D) (v2c0 : Int) (v2c1 : Bool) (v2c2 : Int) (v2c3 : List UInt8) (l3c0 : Int) (l3c1 : Bool) (l3c2 : Int) (l3c3 : List UInt8) (x700132s : List D) (x700133s : List D) (x700196s : List D) (x700197s : List D) : R := LOOP E (RUN E) 8 Tryd.f8 [1, 1, 0, 1, 0] (h8a v8 v9 v10 c1 v2c0 v2c1 v2c2 v2c3 l3c0 l3c1 l3c2 l3c3 x700132s x700133s x700196s x700197s)
theorem enter8 (c0 : D) : RUN E 8 [c0] =
 L8a (D.toList (D.cell c0 3)) ((↑(List.length (D.toList (D.cell c0 3))) : Int)) 0 c0 0 false 0 [] 5 false 0 [] [] [] [] [] := (RUN_eq _ _ _).trans (by kernel_rfl)
theorem round8a (v8 : List D) (v9 : Int) (v10 : Int) (c1 : D) (v2c0 : Int) (v2c1 : Bool) (v2c2 : Int) (v2c3 : List UInt8) (l3c0 : Int) (l3c1 : Bool) (l3c2 : Int) (l3c3 : List UInt8) (x700132s : List D) (x700133s : List D) (x700196s : List D) (x700197s : List D) : L8a v8 v9 v10 c1 v2c0 v2c1 v2c2 v2c3 l3c0 l3c1 l3c2 l3c3 x700132s x700133s x700196s x700197s =
 cond (decide (v10 < v9))
 (cond (inb v10 (List.length v8))
 (opt (RUN E 19 [D.str (D.toStr (D.cell (List.getD v8 (Int.toNat v10) D.no) 1))]) fun ρ2 =>
 opt (RUN E 20 [D.int (D.toInt (D.cell (List.getD v8 (Int.toNat v10) D.no) 0))]) fun ρ3 =>
 opt (RUN E 19 [D.str (D.toStr (D.cell (List.getD v8 (Int.toNat v10) D.no) 2))]) fun ρ4 =>
 opt (RUN E 18 [D.list [D.str (([105, 100] : List UInt8)), D.str (([108, 101, 118, 101, 108] : List UInt8)), D.str (([116, 101, 120, 116] : List UInt8))], D.list [List.getD ρ2 0 D.no, List.getD ρ3 0 D.no, List.getD ρ4 0 D.no]]) fun ρ5 =>
 cond (fitL (List.length x700196s) (List.length [List.getD ρ5 0 D.no]))
 (L8a v8 v9 (IntKind.wrap IntKind.i64 (v10 + 1)) c1 v2c0 v2c1 v2c2 v2c3 l3c0 l3c1 l3c2 l3c3 x700132s x700133s (x700196s ++ [List.getD ρ5 0 D.no]) x700197s)
 (none))
 (none))
 (opt (RUN E 21 [D.str (D.toStr (D.cell c1 0))]) fun ρ1 =>
 opt (RUN E 19 [D.str (D.toStr (D.cell c1 2))]) fun ρ2 =>
 opt (RUN E 21 [D.str (D.toStr (D.cell c1 1))]) fun ρ3 =>
 opt (RUN E 20 [D.int (D.toInt (D.cell c1 4))]) fun ρ4 =>
 opt (RUN E 18 [D.list [D.str (([99, 111, 110, 116, 101, 110, 116, 115] : List UInt8)), D.str (([104, 116, 109, 108] : List UInt8)), D.str (([112, 108, 97, 105, 110] : List UInt8)), D.str (([115, 117, 109, 109, 97, 114, 121] : List UInt8)), D.str (([119, 111, 114, 100, 115] : List UInt8))], D.list [D.agg [D.int l3c0, D.bool l3c1, D.int l3c2, D.str l3c3, D.list x700196s, D.list x700197s], List.getD ρ1 0 D.no, List.getD ρ2 0 D.no, List.getD ρ3 0 D.no, List.getD ρ4 0 D.no]]) fun ρ5 =>
 some [List.getD ρ5 0 D.no]) := (LOOP_eq _ _ _ _ _ _).trans (by kernel_rfl)
/-! masthead/build.SameValue -/
def h9a (v53 : Int) (v54 : Int) (a2 : D) (b3 : D) : St := mkSt 88 [(2, SV.bptr 2 29 0 (KT.agg 29)), (3, SV.bptr 3 29 0 (KT.agg 29)), (53, SV.val (KT.int IntKind.i64) (D.int v53)), (54, SV.val (KT.int IntKind.i64) (D.int v54))] [(2, Obj.box 29 (BC.whole a2)), (3, Obj.box 29 (BC.whole b3))]
noncomputable def L9a (v53 : Int) (v54 : Int) (a2 : D) (b3 : D) : R := LOOP E (RUN E) 9 Tryd.f9 [1, 1, 0, 1, 0] (h9a v53 v54 a2 b3)
def h9b (v71 : Int) (v72 : Int) (a2 : D) (b3 : D) : St := mkSt 88 [(2, SV.bptr 2 29 0 (KT.agg 29)), (3, SV.bptr 3 29 0 (KT.agg 29)), (71, SV.val (KT.int IntKind.i64) (D.int v71)), (72, SV.val (KT.int IntKind.i64) (D.int v72))] [(2, Obj.box 29 (BC.whole a2)), (3, Obj.box 29 (BC.whole b3))]
noncomputable def L9b (v71 : Int) (v72 : Int) (a2 : D) (b3 : D) : R := LOOP E (RUN E) 9 Tryd.f9 [1, 1, 1, 0, 1, 0] (h9b v71 v72 a2 b3)
theorem enter9 (a0 : D) (b1 : D) : RUN E 9 [a0, b1] =
 cond (bif bif bif bif bif bif decide (D.toInt (D.cell a0 0) = D.toInt (D.cell b1 0)) then false else true then true else bif D.toBool (D.cell a0 1) == D.toBool (D.cell b1 1) then false else true then true else bif decide (D.toInt (D.cell a0 2) = D.toInt (D.cell b1 2)) then false else true then true else bif decide (D.toStr (D.cell a0 3) = D.toStr (D.cell b1 3)) then false else true then true else bif decide ((↑(List.length (D.toList (D.cell a0 5))) : Int) = (↑(List.length (D.toList (D.cell b1 5))) : Int)) then false else true then true else bif decide ((↑(List.length (D.toList (D.cell a0 4))) : Int) = (↑(List.length (D.toList (D.cell b1 4))) : Int)) then false else true)
 (some [D.bool false])
 (L9a ((↑(List.length (D.toList (D.cell a0 5))) : Int)) 0 a0 b1) := (RUN_eq _ _ _).trans (by kernel_rfl)
theorem round9a (v53 : Int) (v54 : Int) (a2 : D) (b3 : D) : L9a v53 v54 a2 b3 =
 cond (decide (v54 < v53))
 (cond (inb v54 (List.length (D.toList (D.cell a2 5))))
 (cond (inb v54 (List.length (D.toList (D.cell b3 5))))
 (cond (bif decide (D.toStr (List.getD (D.toList (D.cell a2 5)) (Int.toNat v54) D.no) = D.toStr (List.getD (D.toList (D.cell b3 5)) (Int.toNat v54) D.no)) then false else true)
 (some [D.bool false])
 (L9a v53 (IntKind.wrap IntKind.i64 (v54 + 1)) a2 b3))
 (none))
 (none))
 (L9b ((↑(List.length (D.toList (D.cell a2 4))) : Int)) 0 a2 b3) := (LOOP_eq _ _ _ _ _ _).trans (by kernel_rfl)
theorem round9b (v71 : Int) (v72 : Int) (a2 : D) (b3 : D) : L9b v71 v72 a2 b3 =
 cond (decide (v72 < v71))
 (cond (inb v72 (List.length (D.toList (D.cell a2 4))))
 (cond (inb v72 (List.length (D.toList (D.cell b3 4))))
 (opt (RUN E 9 [List.getD (D.toList (D.cell a2 4)) (Int.toNat v72) D.no, List.getD (D.toList (D.cell b3 4)) (Int.toNat v72) D.no]) fun ρ3 =>
 cond (bif D.toBool (List.getD ρ3 0 D.no) then false else true)
 (some [D.bool false])
 (L9b v71 (IntKind.wrap IntKind.i64 (v72 + 1)) a2 b3))
 (none))
 (none))
 (some [D.bool true]) := (LOOP_eq _ _ _ _ _ _).trans (by kernel_rfl)
/-! masthead/build.clone -/
def h13a (v11 : List D) (v12 : Int) (v13 : Int) (items3s : List D) (v1c0 : Int) (v1c1 : Bool) (v1c2 : Int) (v1c3 : List UInt8) (v1c4 : List D) (v2c0 : Int) (v2c1 : Bool) (v2c2 : Int) (v2c3 : List UInt8) (x700069s : List D) (x700132s : List D) (x700133s : List D) : St := mkSt 26 [(1, SV.bptr 1 29 0 (KT.agg 29)), (2, SV.bptr 2 29 0 (KT.agg 29)), (3, SV.own 3), (11, SV.val (KT.slice 29) (D.list v11)), (12, SV.val (KT.int IntKind.i64) (D.int v12)), (13, SV.val (KT.int IntKind.i64) (D.int v13))] [(3, Obj.arr 29 items3s), (1, Obj.box 29 (BC.cells [SV.val (KT.int IntKind.i64) (D.int v1c0), SV.val KT.bool (D.bool v1c1), SV.val (KT.int IntKind.i64) (D.int v1c2), SV.val KT.str (D.str v1c3), SV.val (KT.slice 29) (D.list v1c4), SV.own 700069])), (2, Obj.box 29 (BC.cells [SV.val (KT.int IntKind.i64) (D.int v2c0), SV.val KT.bool (D.bool v2c1), SV.val (KT.int IntKind.i64) (D.int v2c2), SV.val KT.str (D.str v2c3), SV.own 700132, SV.own 700133])), (700069, Obj.arr 9 x700069s), (700132, Obj.arr 29 x700132s), (700133, Obj.arr 9 x700133s)]
noncomputable def L13a (v11 : List D) (v12 : Int) (v13 : Int) (items3s : List D) (v1c0 : Int) (v1c1 : Bool) (v1c2 : Int) (v1c3 : List UInt8) (v1c4 : List D) (v2c0 : Int) (v2c1 : Bool) (v2c2 : Int) (v2c3 : List UInt8) (x700069s : List D) (x700132s : List D) (x700133s : List D) : R := LOOP E (RUN E) 13 Tryd.f13 [1, 1, 1, 0, 1, 0] (h13a v11 v12 v13 items3s v1c0 v1c1 v1c2 v1c3 v1c4 v2c0 v2c1 v2c2 v2c3 x700069s x700132s x700133s)
theorem enter13 (v0 : D) : RUN E 13 [v0] =
 cond (fitL 0 (List.length (D.toList (D.cell v0 5))))
 (L13a (D.toList (D.cell v0 4)) ((↑(List.length (D.toList (D.cell v0 4))) : Int)) 0 [] (D.toInt (D.cell v0 0)) (D.toBool (D.cell v0 1)) (D.toInt (D.cell v0 2)) (D.toStr (D.cell v0 3)) (D.toList (D.cell v0 4)) 0 false 0 [] (D.toList (D.cell v0 5)) [] [])
 (none) := (RUN_eq _ _ _).trans (by kernel_rfl)
theorem round13a (v11 : List D) (v12 : Int) (v13 : Int) (items3s : List D) (v1c0 : Int) (v1c1 : Bool) (v1c2 : Int) (v1c3 : List UInt8) (v1c4 : List D) (v2c0 : Int) (v2c1 : Bool) (v2c2 : Int) (v2c3 : List UInt8) (x700069s : List D) (x700132s : List D) (x700133s : List D) : L13a v11 v12 v13 items3s v1c0 v1c1 v1c2 v1c3 v1c4 v2c0 v2c1 v2c2 v2c3 x700069s x700132s x700133s =
 cond (decide (v13 < v12))
 (cond (inb v13 (List.length v11))
 (opt (RUN E 13 [List.getD v11 (Int.toNat v13) D.no]) fun ρ2 =>
 cond (fitL (List.length items3s) (List.length [List.getD ρ2 0 D.no]))
 (L13a v11 v12 (IntKind.wrap IntKind.i64 (v13 + 1)) (items3s ++ [List.getD ρ2 0 D.no]) v1c0 v1c1 v1c2 v1c3 v1c4 v2c0 v2c1 v2c2 v2c3 x700069s x700132s x700133s)
 (none))
 (none))
 (some [D.agg [D.int v1c0, D.bool v1c1, D.int v1c2, D.str v1c3, D.list items3s, D.list x700069s]]) := (LOOP_eq _ _ _ _ _ _).trans (by kernel_rfl)
/-! masthead/build.str -/
theorem enter15 (s0 : List UInt8) : RUN E 15 [D.str s0] =
 some [D.agg [D.int 3, D.bool false, D.int 0, D.str s0, D.list [], D.list []]] := (RUN_eq _ _ _).trans (by kernel_rfl)
/-! masthead/build.whole -/
theorem enter16 (n0 : Int) : RUN E 16 [D.int n0] =
 some [D.agg [D.int 2, D.bool false, D.int n0, D.str [], D.list [], D.list []]] := (RUN_eq _ _ _).trans (by kernel_rfl)
/-! masthead/build.table -/
theorem enter14 (keys0 : List UInt8) (items1 : List D) : RUN E 14 [D.str keys0, D.list items1] =
 opt (RUN E 34 [D.str keys0]) fun ρ0 =>
 some [D.agg [D.int 6, D.bool false, D.int 0, D.str [], D.list items1, D.list (D.toList (List.getD ρ0 0 D.no))]] := (RUN_eq _ _ _).trans (by kernel_rfl)
/-! masthead/build.safe -/
theorem enter17 (s0 : List UInt8) : RUN E 17 [D.str s0] =
 some [D.agg [D.int 7, D.bool false, D.int 0, D.str s0, D.list [], D.list []]] := (RUN_eq _ _ _).trans (by kernel_rfl)
/-! masthead/mastref1.str -/
theorem enter19 (s0 : List UInt8) : RUN E 19 [D.str s0] =
 some [D.agg [D.int 3, D.bool false, D.int 0, D.str s0, D.list [], D.list []]] := (RUN_eq _ _ _).trans (by kernel_rfl)
/-! masthead/mastref1.num -/
theorem enter20 (n0 : Int) : RUN E 20 [D.int n0] =
 some [D.agg [D.int 2, D.bool false, D.int n0, D.str [], D.list [], D.list []]] := (RUN_eq _ _ _).trans (by kernel_rfl)
/-! masthead/mastref1.table -/
theorem enter18 (keys0 : List D) (items1 : List D) : RUN E 18 [D.list keys0, D.list items1] =
 some [D.agg [D.int 6, D.bool false, D.int 0, D.str [], D.list items1, D.list keys0]] := (RUN_eq _ _ _).trans (by kernel_rfl)
/-! masthead/mastref1.safeText -/
theorem enter21 (s0 : List UInt8) : RUN E 21 [D.str s0] =
 some [D.agg [D.int 7, D.bool false, D.int 0, D.str s0, D.list [], D.list []]] := (RUN_eq _ _ _).trans (by kernel_rfl)
end Go.Proofs.YtcmeincdmphaoabDoor.bf
