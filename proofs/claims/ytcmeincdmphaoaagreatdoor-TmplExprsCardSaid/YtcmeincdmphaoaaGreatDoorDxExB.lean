/- A part of the proof. -/
import Derived.Test.YtcmeincdmphaoaaGreatDoorDxExA
set_option linter.unusedVariables false
set_option linter.unusedSimpArgs false
namespace Go.Proofs.YtcmeincdmphaoaaGreatDoor.ex
open Go.Proofs.YtcmeincdmphaoaaGreatDoor.DS

/-! masthead/mastlaw1.TmplExprs -/
theorem enter4 (s0 : List UInt8) : RUN E 4 [D.str s0] =
 opt (RUN E 8 [D.str s0]) fun ρ0 =>
 opt (RUN E 9 [D.str s0]) fun ρ1 =>
 opt (cond (bif decide (D.toInt (List.getD ρ0 1 D.no) = D.toInt (List.getD ρ1 1 D.no)) then true else false)
 (RUN E 10 [List.getD ρ0 0 D.no, List.getD ρ1 0 D.no])
 (some [])) fun ρ2 =>
 some [D.bool (bif decide (D.toInt (List.getD ρ0 1 D.no) = D.toInt (List.getD ρ1 1 D.no)) then D.toBool (List.getD ρ2 0 D.no) else false)] := (RUN_eq _ _ _).trans (by kernel_rfl)
/-! masthead/tmpl.ParseExpr -/
theorem enter8 (s0 : List UInt8) : RUN E 8 [D.str s0] =
 cond (decide (20000 < (↑(List.length s0) : Int)))
 (some [D.agg [D.int 0, D.str [], D.int 0, D.bool false, D.int 0, D.str [], D.list [], D.list [], D.list []], D.int 4])
 (opt (RUN E 22 [D.str s0]) fun ρ1 =>
 cond (D.toBool (List.getD ρ1 0 D.no))
 (some [D.agg [D.int 0, D.str [], D.int 0, D.bool false, D.int 0, D.str [], D.list [], D.list [], D.list []], D.int 9])
 (opt (RUN E 23 [D.agg [D.str s0, D.int 0, D.bool false]]) fun ρ3 =>
 opt (RUN E 24 [D.agg [D.str (D.toStr (D.cell (List.getD ρ3 1 D.no) 0)), D.int (D.toInt (D.cell (List.getD ρ3 1 D.no) 1)), D.bool (D.toBool (D.cell (List.getD ρ3 1 D.no) 2))]]) fun ρ4 =>
 cond (bif D.toBool (D.cell (List.getD ρ4 0 D.no) 2) then true else decide (D.toInt (D.cell (List.getD ρ4 0 D.no) 1) < (↑(List.length s0) : Int)))
 (some [D.agg [D.int 0, D.str [], D.int 0, D.bool false, D.int 0, D.str [], D.list [], D.list [], D.list []], D.int 8])
 (opt (RUN E 12 [List.getD ρ3 0 D.no]) fun ρ6 =>
 cond (decide (12 < D.toInt (List.getD ρ6 0 D.no)))
 (some [D.agg [D.int 0, D.str [], D.int 0, D.bool false, D.int 0, D.str [], D.list [], D.list [], D.list []], D.int 13])
 (opt (RUN E 25 [List.getD ρ3 0 D.no]) fun ρ8 =>
 cond (D.toBool (List.getD ρ8 0 D.no))
 (some [D.agg [D.int 0, D.str [], D.int 0, D.bool false, D.int 0, D.str [], D.list [], D.list [], D.list []], D.int 12])
 (some [List.getD ρ3 0 D.no, D.int 0]))))) := (RUN_eq _ _ _).trans (by kernel_rfl)
/-! masthead/mastref1.ExprOf -/
theorem enter9 (s0 : List UInt8) : RUN E 9 [D.str s0] =
 opt (RUN E 26 [D.str s0]) fun ρ0 =>
 cond (bif decide (D.toInt (List.getD ρ0 0 D.no) = 0) then false else true)
 (some [D.agg [D.int 0, D.str [], D.int 0, D.bool false, D.int 0, D.str [], D.list [], D.list [], D.list []], D.int (D.toInt (List.getD ρ0 0 D.no))])
 (opt (RUN E 27 [D.agg [D.str s0, D.int 0, D.bool false], D.int 9, D.str (([111, 114] : List UInt8))]) fun ρ2 =>
 opt (RUN E 28 [D.agg [D.str (D.toStr (D.cell (List.getD ρ2 1 D.no) 0)), D.int (D.toInt (D.cell (List.getD ρ2 1 D.no) 1)), D.bool (D.toBool (D.cell (List.getD ρ2 1 D.no) 2))]]) fun ρ3 =>
 cond (bif D.toBool (D.cell (List.getD ρ3 0 D.no) 2) then true else decide (D.toInt (D.cell (List.getD ρ3 0 D.no) 1) < (↑(List.length s0) : Int)))
 (some [D.agg [D.int 0, D.str [], D.int 0, D.bool false, D.int 0, D.str [], D.list [], D.list [], D.list []], D.int 8])
 (opt (RUN E 15 [List.getD ρ2 0 D.no]) fun ρ5 =>
 cond (decide (12 < D.toInt (List.getD ρ5 0 D.no)))
 (some [D.agg [D.int 0, D.str [], D.int 0, D.bool false, D.int 0, D.str [], D.list [], D.list [], D.list []], D.int 13])
 (opt (RUN E 29 [List.getD ρ2 0 D.no]) fun ρ7 =>
 cond (D.toBool (List.getD ρ7 0 D.no))
 (some [D.agg [D.int 0, D.str [], D.int 0, D.bool false, D.int 0, D.str [], D.list [], D.list [], D.list []], D.int 12])
 (some [List.getD ρ2 0 D.no, D.int 0])))) := (RUN_eq _ _ _).trans (by kernel_rfl)
/-! masthead/mastref1.SameExpr -/
def h10a (v37 : Int) (v38 : Int) (a2 : D) (b3 : D) : St := mkSt 54 [(2, SV.bptr 2 28 0 (KT.agg 28)), (3, SV.bptr 3 28 0 (KT.agg 28)), (37, SV.val (KT.int IntKind.i64) (D.int v37)), (38, SV.val (KT.int IntKind.i64) (D.int v38))] [(2, Obj.box 28 (BC.whole a2)), (3, Obj.box 28 (BC.whole b3))]
noncomputable def L10a (v37 : Int) (v38 : Int) (a2 : D) (b3 : D) : R := LOOP E (RUN E) 10 Tryz.f10 [1, 1, 0, 1, 0] (h10a v37 v38 a2 b3)
theorem enter10 (a0 : D) (b1 : D) : RUN E 10 [a0, b1] =
 opt (cond (bif bif bif decide (D.toInt (D.cell a0 0) = D.toInt (D.cell b1 0)) then false else true then true else bif decide (D.toStr (D.cell a0 1) = D.toStr (D.cell b1 1)) then false else true then false else true)
 (RUN E 30 [D.agg (List.take (List.length (TI.cells { kt := KT.agg 25, cells := [KT.int IntKind.i64, KT.bool, KT.int IntKind.i64, KT.str, KT.slice 25, KT.slice 9], fields := [(0, 3), (1, 4), (2, 3), (3, 9), (4, 22), (5, 23)], bytes := 88 })) (List.drop (0 + Prod.fst (2, 25)) (D.cells a0))), D.agg (List.take (List.length (TI.cells { kt := KT.agg 25, cells := [KT.int IntKind.i64, KT.bool, KT.int IntKind.i64, KT.str, KT.slice 25, KT.slice 9], fields := [(0, 3), (1, 4), (2, 3), (3, 9), (4, 22), (5, 23)], bytes := 88 })) (List.drop (0 + Prod.fst (2, 25)) (D.cells b1)))])
 (some [])) fun ρ0 =>
 cond (bif bif bif bif decide (D.toInt (D.cell a0 0) = D.toInt (D.cell b1 0)) then false else true then true else bif decide (D.toStr (D.cell a0 1) = D.toStr (D.cell b1 1)) then false else true then true else bif D.toBool (List.getD ρ0 0 D.no) then false else true then true else bif decide ((↑(List.length (D.toList (D.cell a0 8))) : Int) = (↑(List.length (D.toList (D.cell b1 8))) : Int)) then false else true)
 (some [D.bool false])
 (L10a ((↑(List.length (D.toList (D.cell a0 8))) : Int)) 0 a0 b1) := (RUN_eq _ _ _).trans (by kernel_rfl)
theorem round10a (v37 : Int) (v38 : Int) (a2 : D) (b3 : D) : L10a v37 v38 a2 b3 =
 cond (decide (v38 < v37))
 (cond (inb v38 (List.length (D.toList (D.cell a2 8))))
 (cond (inb v38 (List.length (D.toList (D.cell b3 8))))
 (opt (RUN E 10 [List.getD (D.toList (D.cell a2 8)) (Int.toNat v38) D.no, List.getD (D.toList (D.cell b3 8)) (Int.toNat v38) D.no]) fun ρ3 =>
 cond (bif D.toBool (List.getD ρ3 0 D.no) then false else true)
 (some [D.bool false])
 (L10a v37 (IntKind.wrap IntKind.i64 (v38 + 1)) a2 b3))
 (none))
 (none))
 (some [D.bool true]) := (LOOP_eq _ _ _ _ _ _).trans (by kernel_rfl)
/-! masthead/tmpl.badByte -/
def h22a (s0 : List UInt8) (i3 : Int) : St := mkSt 26 [(0, SV.val KT.str (D.str s0)), (3, SV.val (KT.int IntKind.i64) (D.int i3))] []
noncomputable def L22a (s0 : List UInt8) (i3 : Int) : R := LOOP E (RUN E) 22 Tryz.f22 [1, 0, 1, 0] (h22a s0 i3)
theorem enter22 (s0 : List UInt8) : RUN E 22 [D.str s0] =
 L22a s0 0 := (RUN_eq _ _ _).trans (by kernel_rfl)
theorem round22a (s0 : List UInt8) (i3 : Int) : L22a s0 i3 =
 cond (decide (i3 < (↑(List.length s0) : Int)))
 (cond (inb i3 (List.length s0))
 (cond (bif inb i3 (List.length s0) then true else bif bif decide ((↑(UInt8.toNat (List.getD s0 (Int.toNat i3) 0)) : Int) < 32) then true else false then false else true)
 (cond (bif inb i3 (List.length s0) then true else bif bif bif decide ((↑(UInt8.toNat (List.getD s0 (Int.toNat i3) 0)) : Int) < 32) then bif decide ((↑(UInt8.toNat (List.getD s0 (Int.toNat i3) 0)) : Int) = 9) then false else true else false then true else false then false else true)
 (cond (bif bif decide ((↑(UInt8.toNat (List.getD s0 (Int.toNat i3) 0)) : Int) < 32) then bif decide ((↑(UInt8.toNat (List.getD s0 (Int.toNat i3) 0)) : Int) = 9) then false else true else false then bif decide ((↑(UInt8.toNat (List.getD s0 (Int.toNat i3) 0)) : Int) = 10) then false else true else false)
 (some [D.bool true])
 (L22a s0 (IntKind.wrap IntKind.i64 (i3 + 1))))
 (none))
 (none))
 (none))
 (some [D.bool false]) := (LOOP_eq _ _ _ _ _ _).trans (by kernel_rfl)
/-! (*masthead/tmpl.parser).or -/
def h23a (p0c0 : List UInt8) (p0c1 : Int) (p0c2 : Bool) (v2c0 : Int) (v2c1 : List UInt8) (v2c2 : Int) (v2c3 : Bool) (v2c4 : Int) (v2c5 : List UInt8) (x3 : D) (x700136s : List D) : St := mkSt 21 [(0, SV.bptr 0 48 0 (KT.agg 48)), (2, SV.bptr 2 28 0 (KT.agg 28)), (3, SV.bptr 3 28 0 (KT.agg 28))] [(0, Obj.box 48 (BC.cells [SV.val KT.str (D.str p0c0), SV.val (KT.int IntKind.i64) (D.int p0c1), SV.val KT.bool (D.bool p0c2)])), (2, Obj.box 28 (BC.cells [SV.val (KT.int IntKind.i64) (D.int v2c0), SV.val KT.str (D.str v2c1), SV.val (KT.int IntKind.i64) (D.int v2c2), SV.val KT.bool (D.bool v2c3), SV.val (KT.int IntKind.i64) (D.int v2c4), SV.val KT.str (D.str v2c5), SV.nil, SV.nil, SV.own 700136])), (3, Obj.box 28 (BC.whole x3)), (700136, Obj.arr 28 x700136s)]
noncomputable def L23a (p0c0 : List UInt8) (p0c1 : Int) (p0c2 : Bool) (v2c0 : Int) (v2c1 : List UInt8) (v2c2 : Int) (v2c3 : Bool) (v2c4 : Int) (v2c5 : List UInt8) (x3 : D) (x700136s : List D) : R := LOOP E (RUN E) 23 Tryz.f23 [1, 1, 0, 0] (h23a p0c0 p0c1 p0c2 v2c0 v2c1 v2c2 v2c3 v2c4 v2c5 x3 x700136s)
def h23ax (p0c0 : List UInt8) (p0c1 : Int) (p0c2 : Bool) (v2c0 : Int) (v2c1 : List UInt8) (v2c2 : Int) (v2c3 : Bool) (v2c4 : Int) (v2c5 : List UInt8) (x3c0 : Int) (x3c1 : List UInt8) (x3c2 : Int) (x3c3 : Bool) (x3c4 : Int) (x3c5 : List UInt8) (x700136s : List D) (x700200s : List D) : St := mkSt 21 [(0, SV.bptr 0 48 0 (KT.agg 48)), (2, SV.bptr 2 28 0 (KT.agg 28)), (3, SV.bptr 3 28 0 (KT.agg 28))] [(0, Obj.box 48 (BC.cells [SV.val KT.str (D.str p0c0), SV.val (KT.int IntKind.i64) (D.int p0c1), SV.val KT.bool (D.bool p0c2)])), (2, Obj.box 28 (BC.cells [SV.val (KT.int IntKind.i64) (D.int v2c0), SV.val KT.str (D.str v2c1), SV.val (KT.int IntKind.i64) (D.int v2c2), SV.val KT.bool (D.bool v2c3), SV.val (KT.int IntKind.i64) (D.int v2c4), SV.val KT.str (D.str v2c5), SV.nil, SV.nil, SV.own 700136])), (3, Obj.box 28 (BC.cells [SV.val (KT.int IntKind.i64) (D.int x3c0), SV.val KT.str (D.str x3c1), SV.val (KT.int IntKind.i64) (D.int x3c2), SV.val KT.bool (D.bool x3c3), SV.val (KT.int IntKind.i64) (D.int x3c4), SV.val KT.str (D.str x3c5), SV.nil, SV.nil, SV.own 700200])), (700136, Obj.arr 28 x700136s), (700200, Obj.arr 28 x700200s)]
noncomputable def L23ax (p0c0 : List UInt8) (p0c1 : Int) (p0c2 : Bool) (v2c0 : Int) (v2c1 : List UInt8) (v2c2 : Int) (v2c3 : Bool) (v2c4 : Int) (v2c5 : List UInt8) (x3c0 : Int) (x3c1 : List UInt8) (x3c2 : Int) (x3c3 : Bool) (x3c4 : Int) (x3c5 : List UInt8) (x700136s : List D) (x700200s : List D) : R := LOOP E (RUN E) 23 Tryz.f23 [1, 1, 0, 0] (h23ax p0c0 p0c1 p0c2 v2c0 v2c1 v2c2 v2c3 v2c4 v2c5 x3c0 x3c1 x3c2 x3c3 x3c4 x3c5 x700136s x700200s)
theorem enter23 (p0c0 : List UInt8) (p0c1 : Int) (p0c2 : Bool) : RUN E 23 [D.agg [D.str p0c0, D.int p0c1, D.bool p0c2]] =
 opt (RUN E 43 [D.agg [D.str p0c0, D.int p0c1, D.bool p0c2]]) fun ρ0 =>
 L23a (D.toStr (D.cell (List.getD ρ0 1 D.no) 0)) (D.toInt (D.cell (List.getD ρ0 1 D.no) 1)) (D.toBool (D.cell (List.getD ρ0 1 D.no) 2)) 0 [] 0 false 0 [] (List.getD ρ0 0 D.no) [] := (RUN_eq _ _ _).trans (by kernel_rfl)
theorem round23a (p0c0 : List UInt8) (p0c1 : Int) (p0c2 : Bool) (v2c0 : Int) (v2c1 : List UInt8) (v2c2 : Int) (v2c3 : Bool) (v2c4 : Int) (v2c5 : List UInt8) (x3 : D) (x700136s : List D) : L23a p0c0 p0c1 p0c2 v2c0 v2c1 v2c2 v2c3 v2c4 v2c5 x3 x700136s =
 cond (bif bif p0c2 then false else true then true else false)
 (opt (RUN E 44 [D.agg [D.str p0c0, D.int p0c1, D.bool p0c2], D.str (([111, 114] : List UInt8))]) fun ρ1 =>
 cond (bif bif p0c2 then false else true then D.toBool (List.getD ρ1 0 D.no) else false)
 (opt (RUN E 43 [D.agg [D.str (D.toStr (D.cell (List.getD ρ1 1 D.no) 0)), D.int (D.toInt (D.cell (List.getD ρ1 1 D.no) 1)), D.bool (D.toBool (D.cell (List.getD ρ1 1 D.no) 2))]]) fun ρ3 =>
 L23ax (D.toStr (D.cell (List.getD ρ3 1 D.no) 0)) (D.toInt (D.cell (List.getD ρ3 1 D.no) 1)) (D.toBool (D.cell (List.getD ρ3 1 D.no) 2)) v2c0 v2c1 v2c2 v2c3 v2c4 v2c5 9 [] 0 false 0 [] x700136s [x3, List.getD ρ3 0 D.no])
 (some [x3, D.agg [D.str (D.toStr (D.cell (List.getD ρ1 1 D.no) 0)), D.int (D.toInt (D.cell (List.getD ρ1 1 D.no) 1)), D.bool (D.toBool (D.cell (List.getD ρ1 1 D.no) 2))]]))
 (cond (bif bif p0c2 then false else true then false else false)
 (opt (RUN E 43 [D.agg [D.str p0c0, D.int p0c1, D.bool p0c2]]) fun ρ2 =>
 L23ax (D.toStr (D.cell (List.getD ρ2 1 D.no) 0)) (D.toInt (D.cell (List.getD ρ2 1 D.no) 1)) (D.toBool (D.cell (List.getD ρ2 1 D.no) 2)) v2c0 v2c1 v2c2 v2c3 v2c4 v2c5 9 [] 0 false 0 [] x700136s [x3, List.getD ρ2 0 D.no])
 (some [x3, D.agg [D.str p0c0, D.int p0c1, D.bool p0c2]])) := (LOOP_eq _ _ _ _ _ _).trans (by kernel_rfl)
theorem round23ax (p0c0 : List UInt8) (p0c1 : Int) (p0c2 : Bool) (v2c0 : Int) (v2c1 : List UInt8) (v2c2 : Int) (v2c3 : Bool) (v2c4 : Int) (v2c5 : List UInt8) (x3c0 : Int) (x3c1 : List UInt8) (x3c2 : Int) (x3c3 : Bool) (x3c4 : Int) (x3c5 : List UInt8) (x700136s : List D) (x700200s : List D) : L23ax p0c0 p0c1 p0c2 v2c0 v2c1 v2c2 v2c3 v2c4 v2c5 x3c0 x3c1 x3c2 x3c3 x3c4 x3c5 x700136s x700200s =
 cond (bif bif p0c2 then false else true then true else false)
 (opt (RUN E 44 [D.agg [D.str p0c0, D.int p0c1, D.bool p0c2], D.str (([111, 114] : List UInt8))]) fun ρ1 =>
 cond (bif bif p0c2 then false else true then D.toBool (List.getD ρ1 0 D.no) else false)
 (opt (RUN E 43 [D.agg [D.str (D.toStr (D.cell (List.getD ρ1 1 D.no) 0)), D.int (D.toInt (D.cell (List.getD ρ1 1 D.no) 1)), D.bool (D.toBool (D.cell (List.getD ρ1 1 D.no) 2))]]) fun ρ3 =>
 L23ax (D.toStr (D.cell (List.getD ρ3 1 D.no) 0)) (D.toInt (D.cell (List.getD ρ3 1 D.no) 1)) (D.toBool (D.cell (List.getD ρ3 1 D.no) 2)) v2c0 v2c1 v2c2 v2c3 v2c4 v2c5 9 [] 0 false 0 [] x700136s [D.agg [D.int x3c0, D.str x3c1, D.int x3c2, D.bool x3c3, D.int x3c4, D.str x3c5, D.list [], D.list [], D.list x700200s], List.getD ρ3 0 D.no])
 (some [D.agg [D.int x3c0, D.str x3c1, D.int x3c2, D.bool x3c3, D.int x3c4, D.str x3c5, D.list [], D.list [], D.list x700200s], D.agg [D.str (D.toStr (D.cell (List.getD ρ1 1 D.no) 0)), D.int (D.toInt (D.cell (List.getD ρ1 1 D.no) 1)), D.bool (D.toBool (D.cell (List.getD ρ1 1 D.no) 2))]]))
 (cond (bif bif p0c2 then false else true then false else false)
 (opt (RUN E 43 [D.agg [D.str p0c0, D.int p0c1, D.bool p0c2]]) fun ρ2 =>
 L23ax (D.toStr (D.cell (List.getD ρ2 1 D.no) 0)) (D.toInt (D.cell (List.getD ρ2 1 D.no) 1)) (D.toBool (D.cell (List.getD ρ2 1 D.no) 2)) v2c0 v2c1 v2c2 v2c3 v2c4 v2c5 9 [] 0 false 0 [] x700136s [D.agg [D.int x3c0, D.str x3c1, D.int x3c2, D.bool x3c3, D.int x3c4, D.str x3c5, D.list [], D.list [], D.list x700200s], List.getD ρ2 0 D.no])
 (some [D.agg [D.int x3c0, D.str x3c1, D.int x3c2, D.bool x3c3, D.int x3c4, D.str x3c5, D.list [], D.list [], D.list x700200s], D.agg [D.str p0c0, D.int p0c1, D.bool p0c2]])) := (LOOP_eq _ _ _ _ _ _).trans (by kernel_rfl)
/-! (*masthead/tmpl.parser).skip -/
def h24a (p0c0 : List UInt8) (p0c1 : Int) (p0c2 : Bool) : St := mkSt 31 [(0, SV.bptr 0 48 0 (KT.agg 48))] [(0, Obj.box 48 (BC.cells [SV.val KT.str (D.str p0c0), SV.val (KT.int IntKind.i64) (D.int p0c1), SV.val KT.bool (D.bool p0c2)]))]
noncomputable def L24a (p0c0 : List UInt8) (p0c1 : Int) (p0c2 : Bool) : R := LOOP E (RUN E) 24 Tryz.f24 [0] (h24a p0c0 p0c1 p0c2)
theorem enter24 (p0c0 : List UInt8) (p0c1 : Int) (p0c2 : Bool) : RUN E 24 [D.agg [D.str p0c0, D.int p0c1, D.bool p0c2]] =
 L24a p0c0 p0c1 p0c2 := (RUN_eq _ _ _).trans (by kernel_rfl)
theorem round24a (p0c0 : List UInt8) (p0c1 : Int) (p0c2 : Bool) : L24a p0c0 p0c1 p0c2 =
 cond (bif inb p0c1 (List.length p0c0) then true else bif bif decide (p0c1 < (↑(List.length p0c0) : Int)) then true else false then false else true)
 (opt (cond (bif decide (p0c1 < (↑(List.length p0c0) : Int)) then true else false)
 (RUN E 45 [D.int (↑(UInt8.toNat (List.getD p0c0 (Int.toNat p0c1) 0)) : Int)])
 (some [])) fun ρ1 =>
 cond (bif decide (p0c1 < (↑(List.length p0c0) : Int)) then D.toBool (List.getD ρ1 0 D.no) else false)
 (L24a p0c0 (IntKind.wrap IntKind.i64 (p0c1 + 1)) p0c2)
 (some [D.agg [D.str p0c0, D.int p0c1, D.bool p0c2]]))
 (none) := (LOOP_eq _ _ _ _ _ _).trans (by kernel_rfl)
/-! masthead/tmpl.depth -/
def h12a (n3 : Int) (v7 : List D) (v8 : Int) (v9 : Int) : St := mkSt 20 [(3, SV.val (KT.int IntKind.i64) (D.int n3)), (7, SV.val (KT.slice 28) (D.list v7)), (8, SV.val (KT.int IntKind.i64) (D.int v8)), (9, SV.val (KT.int IntKind.i64) (D.int v9))] []
noncomputable def L12a (n3 : Int) (v7 : List D) (v8 : Int) (v9 : Int) : R := LOOP E (RUN E) 12 Tryz.f12 [1, 1, 0, 1, 0] (h12a n3 v7 v8 v9)
theorem enter12 (x0 : D) : RUN E 12 [x0] =
 L12a 0 (D.toList (D.cell x0 8)) ((↑(List.length (D.toList (D.cell x0 8))) : Int)) 0 := (RUN_eq _ _ _).trans (by kernel_rfl)
theorem round12a (n3 : Int) (v7 : List D) (v8 : Int) (v9 : Int) : L12a n3 v7 v8 v9 =
 cond (decide (v9 < v8))
 (cond (inb v9 (List.length v7))
 (opt (RUN E 12 [List.getD v7 (Int.toNat v9) D.no]) fun ρ2 =>
 L12a (mmInt true n3 (D.toInt (List.getD ρ2 0 D.no))) v7 v8 (IntKind.wrap IntKind.i64 (v9 + 1)))
 (none))
 (some [D.int (IntKind.wrap IntKind.i64 (n3 + 1))]) := (LOOP_eq _ _ _ _ _ _).trans (by kernel_rfl)
/-! masthead/tmpl.unknown -/
def h25a (v24 : List D) (v25 : Int) (v26 : Int) : St := mkSt 33 [(24, SV.val (KT.slice 28) (D.list v24)), (25, SV.val (KT.int IntKind.i64) (D.int v25)), (26, SV.val (KT.int IntKind.i64) (D.int v26))] []
noncomputable def L25a (v24 : List D) (v25 : Int) (v26 : Int) : R := LOOP E (RUN E) 25 Tryz.f25 [1, 1, 0, 1, 0] (h25a v24 v25 v26)
theorem enter25 (x0 : D) : RUN E 25 [x0] =
 opt (cond (bif decide (D.toInt (D.cell x0 0) = 6) then true else false)
 (RUN E 46 [D.str (D.toStr (D.cell x0 1))])
 (some [])) fun ρ0 =>
 opt (cond (bif bif decide (D.toInt (List.getD ρ0 0 D.no) = 0) then false else true then bif decide (D.toInt (D.cell x0 0) = 6) then true else false else false)
 (RUN E 46 [D.str (D.toStr (D.cell x0 1))])
 (some [])) fun ρ1 =>
 cond (bif decide (D.toInt (D.cell x0 0) = 6) then bif decide (D.toInt (List.getD ρ0 0 D.no) = 0) then true else bif decide (D.toInt (List.getD ρ1 0 D.no) = (↑(List.length (D.toList (D.cell x0 8))) : Int)) then false else true else false)
 (some [D.bool true])
 (L25a (D.toList (D.cell x0 8)) ((↑(List.length (D.toList (D.cell x0 8))) : Int)) 0) := (RUN_eq _ _ _).trans (by kernel_rfl)
theorem round25a (v24 : List D) (v25 : Int) (v26 : Int) : L25a v24 v25 v26 =
 cond (decide (v26 < v25))
 (cond (inb v26 (List.length v24))
 (opt (RUN E 25 [List.getD v24 (Int.toNat v26) D.no]) fun ρ2 =>
 cond (D.toBool (List.getD ρ2 0 D.no))
 (some [D.bool true])
 (L25a v24 v25 (IntKind.wrap IntKind.i64 (v26 + 1))))
 (none))
 (some [D.bool false]) := (LOOP_eq _ _ _ _ _ _).trans (by kernel_rfl)
/-! masthead/mastref1.bodyError -/
def h26a (s0 : List UInt8) (i3 : Int) : St := mkSt 29 [(0, SV.val KT.str (D.str s0)), (3, SV.val (KT.int IntKind.i64) (D.int i3))] []
noncomputable def L26a (s0 : List UInt8) (i3 : Int) : R := LOOP E (RUN E) 26 Tryz.f26 [1, 1, 0, 1, 0] (h26a s0 i3)
theorem enter26 (s0 : List UInt8) : RUN E 26 [D.str s0] =
 cond (decide (20000 < (↑(List.length s0) : Int)))
 (some [D.int 4])
 (L26a s0 0) := (RUN_eq _ _ _).trans (by kernel_rfl)
theorem round26a (s0 : List UInt8) (i3 : Int) : L26a s0 i3 =
 cond (decide (i3 < (↑(List.length s0) : Int)))
 (cond (inb i3 (List.length s0))
 (cond (bif inb i3 (List.length s0) then true else bif bif decide ((↑(UInt8.toNat (List.getD s0 (Int.toNat i3) 0)) : Int) < 32) then true else false then false else true)
 (cond (bif inb i3 (List.length s0) then true else bif bif bif decide ((↑(UInt8.toNat (List.getD s0 (Int.toNat i3) 0)) : Int) < 32) then bif decide ((↑(UInt8.toNat (List.getD s0 (Int.toNat i3) 0)) : Int) = 9) then false else true else false then true else false then false else true)
 (cond (bif bif decide ((↑(UInt8.toNat (List.getD s0 (Int.toNat i3) 0)) : Int) < 32) then bif decide ((↑(UInt8.toNat (List.getD s0 (Int.toNat i3) 0)) : Int) = 9) then false else true else false then bif decide ((↑(UInt8.toNat (List.getD s0 (Int.toNat i3) 0)) : Int) = 10) then false else true else false)
 (some [D.int 9])
 (L26a s0 (IntKind.wrap IntKind.i64 (i3 + 1))))
 (none))
 (none))
 (none))
 (some [D.int 0]) := (LOOP_eq _ _ _ _ _ _).trans (by kernel_rfl)
/-! (*masthead/mastref1.scanner).binary -/
def h27a (kind1 : Int) (op2 : List UInt8) (p0c0 : List UInt8) (p0c1 : Int) (p0c2 : Bool) (v6c0 : Int) (v6c1 : List UInt8) (v6c2 : Int) (v6c3 : Bool) (v6c4 : Int) (v6c5 : List UInt8) (x7 : D) (x700392s : List D) : St := mkSt 39 [(0, SV.bptr 0 53 0 (KT.agg 53)), (1, SV.val (KT.int IntKind.i64) (D.int kind1)), (2, SV.val KT.str (D.str op2)), (6, SV.bptr 6 28 0 (KT.agg 28)), (7, SV.bptr 7 28 0 (KT.agg 28))] [(0, Obj.box 53 (BC.cells [SV.val KT.str (D.str p0c0), SV.val (KT.int IntKind.i64) (D.int p0c1), SV.val KT.bool (D.bool p0c2)])), (6, Obj.box 28 (BC.cells [SV.val (KT.int IntKind.i64) (D.int v6c0), SV.val KT.str (D.str v6c1), SV.val (KT.int IntKind.i64) (D.int v6c2), SV.val KT.bool (D.bool v6c3), SV.val (KT.int IntKind.i64) (D.int v6c4), SV.val KT.str (D.str v6c5), SV.nil, SV.nil, SV.own 700392])), (7, Obj.box 28 (BC.whole x7)), (700392, Obj.arr 28 x700392s)]
noncomputable def L27a (kind1 : Int) (op2 : List UInt8) (p0c0 : List UInt8) (p0c1 : Int) (p0c2 : Bool) (v6c0 : Int) (v6c1 : List UInt8) (v6c2 : Int) (v6c3 : Bool) (v6c4 : Int) (v6c5 : List UInt8) (x7 : D) (x700392s : List D) : R := LOOP E (RUN E) 27 Tryz.f27 [1, 1, 0] (h27a kind1 op2 p0c0 p0c1 p0c2 v6c0 v6c1 v6c2 v6c3 v6c4 v6c5 x7 x700392s)
def h27ax (kind1 : Int) (op2 : List UInt8) (p0c0 : List UInt8) (p0c1 : Int) (p0c2 : Bool) (v6c0 : Int) (v6c1 : List UInt8) (v6c2 : Int) (v6c3 : Bool) (v6c4 : Int) (v6c5 : List UInt8) (x7c0 : Int) (x7c1 : List UInt8) (x7c2 : Int) (x7c3 : Bool) (x7c4 : Int) (x7c5 : List UInt8) (x700392s : List D) (x700456s : List D) : St := mkSt 39 [(0, SV.bptr 0 53 0 (KT.agg 53)), (1, SV.val (KT.int IntKind.i64) (D.int kind1)), (2, SV.val KT.str (D.str op2)), (6, SV.bptr 6 28 0 (KT.agg 28)), (7, SV.bptr 7 28 0 (KT.agg 28))] [(0, Obj.box 53 (BC.cells [SV.val KT.str (D.str p0c0), SV.val (KT.int IntKind.i64) (D.int p0c1), SV.val KT.bool (D.bool p0c2)])), (6, Obj.box 28 (BC.cells [SV.val (KT.int IntKind.i64) (D.int v6c0), SV.val KT.str (D.str v6c1), SV.val (KT.int IntKind.i64) (D.int v6c2), SV.val KT.bool (D.bool v6c3), SV.val (KT.int IntKind.i64) (D.int v6c4), SV.val KT.str (D.str v6c5), SV.nil, SV.nil, SV.own 700392])), (7, Obj.box 28 (BC.cells [SV.val (KT.int IntKind.i64) (D.int x7c0), SV.val KT.str (D.str x7c1), SV.val (KT.int IntKind.i64) (D.int x7c2), SV.val KT.bool (D.bool x7c3), SV.val (KT.int IntKind.i64) (D.int x7c4), SV.val KT.str (D.str x7c5), SV.nil, SV.nil, SV.own 700456])), (700392, Obj.arr 28 x700392s), (700456, Obj.arr 28 x700456s)]
noncomputable def L27ax (kind1 : Int) (op2 : List UInt8) (p0c0 : List UInt8) (p0c1 : Int) (p0c2 : Bool) (v6c0 : Int) (v6c1 : List UInt8) (v6c2 : Int) (v6c3 : Bool) (v6c4 : Int) (v6c5 : List UInt8) (x7c0 : Int) (x7c1 : List UInt8) (x7c2 : Int) (x7c3 : Bool) (x7c4 : Int) (x7c5 : List UInt8) (x700392s : List D) (x700456s : List D) : R := LOOP E (RUN E) 27 Tryz.f27 [1, 1, 0] (h27ax kind1 op2 p0c0 p0c1 p0c2 v6c0 v6c1 v6c2 v6c3 v6c4 v6c5 x7c0 x7c1 x7c2 x7c3 x7c4 x7c5 x700392s x700456s)
theorem enter27 (p0c0 : List UInt8) (p0c1 : Int) (p0c2 : Bool) (kind1 : Int) (op2 : List UInt8) : RUN E 27 [D.agg [D.str p0c0, D.int p0c1, D.bool p0c2], D.int kind1, D.str op2] =
 opt (RUN E 47 [D.agg [D.str p0c0, D.int p0c1, D.bool p0c2], D.int kind1]) fun ρ0 =>
 L27a kind1 op2 (D.toStr (D.cell (List.getD ρ0 1 D.no) 0)) (D.toInt (D.cell (List.getD ρ0 1 D.no) 1)) (D.toBool (D.cell (List.getD ρ0 1 D.no) 2)) 0 [] 0 false 0 [] (List.getD ρ0 0 D.no) [] := (RUN_eq _ _ _).trans (by kernel_rfl)
theorem round27a (kind1 : Int) (op2 : List UInt8) (p0c0 : List UInt8) (p0c1 : Int) (p0c2 : Bool) (v6c0 : Int) (v6c1 : List UInt8) (v6c2 : Int) (v6c3 : Bool) (v6c4 : Int) (v6c5 : List UInt8) (x7 : D) (x700392s : List D) : L27a kind1 op2 p0c0 p0c1 p0c2 v6c0 v6c1 v6c2 v6c3 v6c4 v6c5 x7 x700392s =
 opt (RUN E 28 [D.agg [D.str p0c0, D.int p0c1, D.bool p0c2]]) fun ρ0 =>
 opt (RUN E 48 [D.agg [D.str (D.toStr (D.cell (List.getD ρ0 0 D.no) 0)), D.int (D.toInt (D.cell (List.getD ρ0 0 D.no) 1)), D.bool (D.toBool (D.cell (List.getD ρ0 0 D.no) 2))]]) fun ρ1 =>
 cond (bif decide (D.toStr (List.getD ρ1 0 D.no) = op2) then false else true)
 (some [x7, D.agg [D.str (D.toStr (D.cell (List.getD ρ1 1 D.no) 0)), D.int (D.toInt (D.cell (List.getD ρ1 1 D.no) 1)), D.bool (D.toBool (D.cell (List.getD ρ1 1 D.no) 2))]])
 (opt (RUN E 47 [D.agg [D.str (D.toStr (D.cell (List.getD ρ1 1 D.no) 0)), D.int (IntKind.wrap IntKind.i64 (D.toInt (D.cell (List.getD ρ1 1 D.no) 1) + (↑(List.length op2) : Int))), D.bool (D.toBool (D.cell (List.getD ρ1 1 D.no) 2))], D.int kind1]) fun ρ3 =>
 cond (D.toBool (D.cell (List.getD ρ3 1 D.no) 2))
 (some [D.agg [D.int kind1, D.str [], D.int 0, D.bool false, D.int 0, D.str [], D.list [], D.list [], D.list [x7, List.getD ρ3 0 D.no]], D.agg [D.str (D.toStr (D.cell (List.getD ρ3 1 D.no) 0)), D.int (D.toInt (D.cell (List.getD ρ3 1 D.no) 1)), D.bool (D.toBool (D.cell (List.getD ρ3 1 D.no) 2))]])
 (L27ax kind1 op2 (D.toStr (D.cell (List.getD ρ3 1 D.no) 0)) (D.toInt (D.cell (List.getD ρ3 1 D.no) 1)) (D.toBool (D.cell (List.getD ρ3 1 D.no) 2)) v6c0 v6c1 v6c2 v6c3 v6c4 v6c5 kind1 [] 0 false 0 [] x700392s [x7, List.getD ρ3 0 D.no])) := (LOOP_eq _ _ _ _ _ _).trans (by kernel_rfl)
theorem round27ax (kind1 : Int) (op2 : List UInt8) (p0c0 : List UInt8) (p0c1 : Int) (p0c2 : Bool) (v6c0 : Int) (v6c1 : List UInt8) (v6c2 : Int) (v6c3 : Bool) (v6c4 : Int) (v6c5 : List UInt8) (x7c0 : Int) (x7c1 : List UInt8) (x7c2 : Int) (x7c3 : Bool) (x7c4 : Int) (x7c5 : List UInt8) (x700392s : List D) (x700456s : List D) : L27ax kind1 op2 p0c0 p0c1 p0c2 v6c0 v6c1 v6c2 v6c3 v6c4 v6c5 x7c0 x7c1 x7c2 x7c3 x7c4 x7c5 x700392s x700456s =
 opt (RUN E 28 [D.agg [D.str p0c0, D.int p0c1, D.bool p0c2]]) fun ρ0 =>
 opt (RUN E 48 [D.agg [D.str (D.toStr (D.cell (List.getD ρ0 0 D.no) 0)), D.int (D.toInt (D.cell (List.getD ρ0 0 D.no) 1)), D.bool (D.toBool (D.cell (List.getD ρ0 0 D.no) 2))]]) fun ρ1 =>
 cond (bif decide (D.toStr (List.getD ρ1 0 D.no) = op2) then false else true)
 (some [D.agg [D.int x7c0, D.str x7c1, D.int x7c2, D.bool x7c3, D.int x7c4, D.str x7c5, D.list [], D.list [], D.list x700456s], D.agg [D.str (D.toStr (D.cell (List.getD ρ1 1 D.no) 0)), D.int (D.toInt (D.cell (List.getD ρ1 1 D.no) 1)), D.bool (D.toBool (D.cell (List.getD ρ1 1 D.no) 2))]])
 (opt (RUN E 47 [D.agg [D.str (D.toStr (D.cell (List.getD ρ1 1 D.no) 0)), D.int (IntKind.wrap IntKind.i64 (D.toInt (D.cell (List.getD ρ1 1 D.no) 1) + (↑(List.length op2) : Int))), D.bool (D.toBool (D.cell (List.getD ρ1 1 D.no) 2))], D.int kind1]) fun ρ3 =>
 cond (D.toBool (D.cell (List.getD ρ3 1 D.no) 2))
 (some [D.agg [D.int kind1, D.str [], D.int 0, D.bool false, D.int 0, D.str [], D.list [], D.list [], D.list [D.agg [D.int x7c0, D.str x7c1, D.int x7c2, D.bool x7c3, D.int x7c4, D.str x7c5, D.list [], D.list [], D.list x700456s], List.getD ρ3 0 D.no]], D.agg [D.str (D.toStr (D.cell (List.getD ρ3 1 D.no) 0)), D.int (D.toInt (D.cell (List.getD ρ3 1 D.no) 1)), D.bool (D.toBool (D.cell (List.getD ρ3 1 D.no) 2))]])
 (L27ax kind1 op2 (D.toStr (D.cell (List.getD ρ3 1 D.no) 0)) (D.toInt (D.cell (List.getD ρ3 1 D.no) 1)) (D.toBool (D.cell (List.getD ρ3 1 D.no) 2)) v6c0 v6c1 v6c2 v6c3 v6c4 v6c5 kind1 [] 0 false 0 [] x700392s [D.agg [D.int x7c0, D.str x7c1, D.int x7c2, D.bool x7c3, D.int x7c4, D.str x7c5, D.list [], D.list [], D.list x700456s], List.getD ρ3 0 D.no])) := (LOOP_eq _ _ _ _ _ _).trans (by kernel_rfl)
/-! (*masthead/mastref1.scanner).skip -/
def h28a (p0c0 : List UInt8) (p0c1 : Int) (p0c2 : Bool) : St := mkSt 31 [(0, SV.bptr 0 53 0 (KT.agg 53))] [(0, Obj.box 53 (BC.cells [SV.val KT.str (D.str p0c0), SV.val (KT.int IntKind.i64) (D.int p0c1), SV.val KT.bool (D.bool p0c2)]))]
noncomputable def L28a (p0c0 : List UInt8) (p0c1 : Int) (p0c2 : Bool) : R := LOOP E (RUN E) 28 Tryz.f28 [0] (h28a p0c0 p0c1 p0c2)
theorem enter28 (p0c0 : List UInt8) (p0c1 : Int) (p0c2 : Bool) : RUN E 28 [D.agg [D.str p0c0, D.int p0c1, D.bool p0c2]] =
 L28a p0c0 p0c1 p0c2 := (RUN_eq _ _ _).trans (by kernel_rfl)
theorem round28a (p0c0 : List UInt8) (p0c1 : Int) (p0c2 : Bool) : L28a p0c0 p0c1 p0c2 =
 cond (bif inb p0c1 (List.length p0c0) then true else bif bif decide (p0c1 < (↑(List.length p0c0) : Int)) then true else false then false else true)
 (opt (cond (bif decide (p0c1 < (↑(List.length p0c0) : Int)) then true else false)
 (RUN E 49 [D.int (↑(UInt8.toNat (List.getD p0c0 (Int.toNat p0c1) 0)) : Int)])
 (some [])) fun ρ1 =>
 cond (bif decide (p0c1 < (↑(List.length p0c0) : Int)) then D.toBool (List.getD ρ1 0 D.no) else false)
 (L28a p0c0 (IntKind.wrap IntKind.i64 (p0c1 + 1)) p0c2)
 (some [D.agg [D.str p0c0, D.int p0c1, D.bool p0c2]]))
 (none) := (LOOP_eq _ _ _ _ _ _).trans (by kernel_rfl)
/-! masthead/mastref1.Depth -/
def h15a (d3 : Int) (v7 : List D) (v8 : Int) (v9 : Int) : St := mkSt 20 [(3, SV.val (KT.int IntKind.i64) (D.int d3)), (7, SV.val (KT.slice 28) (D.list v7)), (8, SV.val (KT.int IntKind.i64) (D.int v8)), (9, SV.val (KT.int IntKind.i64) (D.int v9))] []
noncomputable def L15a (d3 : Int) (v7 : List D) (v8 : Int) (v9 : Int) : R := LOOP E (RUN E) 15 Tryz.f15 [1, 1, 0, 1, 0] (h15a d3 v7 v8 v9)
theorem enter15 (x0 : D) : RUN E 15 [x0] =
 L15a 0 (D.toList (D.cell x0 8)) ((↑(List.length (D.toList (D.cell x0 8))) : Int)) 0 := (RUN_eq _ _ _).trans (by kernel_rfl)
theorem round15a (d3 : Int) (v7 : List D) (v8 : Int) (v9 : Int) : L15a d3 v7 v8 v9 =
 cond (decide (v9 < v8))
 (cond (inb v9 (List.length v7))
 (opt (RUN E 15 [List.getD v7 (Int.toNat v9) D.no]) fun ρ2 =>
 L15a (mmInt true d3 (D.toInt (List.getD ρ2 0 D.no))) v7 v8 (IntKind.wrap IntKind.i64 (v9 + 1)))
 (none))
 (some [D.int (IntKind.wrap IntKind.i64 (d3 + 1))]) := (LOOP_eq _ _ _ _ _ _).trans (by kernel_rfl)
/-! masthead/mastref1.badName -/
def h29a (v18 : List D) (v19 : Int) (v20 : Int) : St := mkSt 27 [(18, SV.val (KT.slice 28) (D.list v18)), (19, SV.val (KT.int IntKind.i64) (D.int v19)), (20, SV.val (KT.int IntKind.i64) (D.int v20))] []
noncomputable def L29a (v18 : List D) (v19 : Int) (v20 : Int) : R := LOOP E (RUN E) 29 Tryz.f29 [1, 1, 0, 1, 0] (h29a v18 v19 v20)
theorem enter29 (x0 : D) : RUN E 29 [x0] =
 opt (cond (bif decide (D.toInt (D.cell x0 0) = 6) then true else false)
 (RUN E 50 [D.str (D.toStr (D.cell x0 1))])
 (some [])) fun ρ0 =>
 cond (bif decide (D.toInt (D.cell x0 0) = 6) then bif decide (D.toInt (List.getD ρ0 0 D.no) = (↑(List.length (D.toList (D.cell x0 8))) : Int)) then false else true else false)
 (some [D.bool true])
 (L29a (D.toList (D.cell x0 8)) ((↑(List.length (D.toList (D.cell x0 8))) : Int)) 0) := (RUN_eq _ _ _).trans (by kernel_rfl)
theorem round29a (v18 : List D) (v19 : Int) (v20 : Int) : L29a v18 v19 v20 =
 cond (decide (v20 < v19))
 (cond (inb v20 (List.length v18))
 (opt (RUN E 29 [List.getD v18 (Int.toNat v20) D.no]) fun ρ2 =>
 cond (D.toBool (List.getD ρ2 0 D.no))
 (some [D.bool true])
 (L29a v18 v19 (IntKind.wrap IntKind.i64 (v20 + 1))))
 (none))
 (some [D.bool false]) := (LOOP_eq _ _ _ _ _ _).trans (by kernel_rfl)
/-! masthead/mastref1.SameValue -/
def h30a (v53 : Int) (v54 : Int) (a2 : D) (b3 : D) : St := mkSt 88 [(2, SV.bptr 2 25 0 (KT.agg 25)), (3, SV.bptr 3 25 0 (KT.agg 25)), (53, SV.val (KT.int IntKind.i64) (D.int v53)), (54, SV.val (KT.int IntKind.i64) (D.int v54))] [(2, Obj.box 25 (BC.whole a2)), (3, Obj.box 25 (BC.whole b3))]
noncomputable def L30a (v53 : Int) (v54 : Int) (a2 : D) (b3 : D) : R := LOOP E (RUN E) 30 Tryz.f30 [1, 1, 0, 1, 0] (h30a v53 v54 a2 b3)
def h30b (v71 : Int) (v72 : Int) (a2 : D) (b3 : D) : St := mkSt 88 [(2, SV.bptr 2 25 0 (KT.agg 25)), (3, SV.bptr 3 25 0 (KT.agg 25)), (71, SV.val (KT.int IntKind.i64) (D.int v71)), (72, SV.val (KT.int IntKind.i64) (D.int v72))] [(2, Obj.box 25 (BC.whole a2)), (3, Obj.box 25 (BC.whole b3))]
noncomputable def L30b (v71 : Int) (v72 : Int) (a2 : D) (b3 : D) : R := LOOP E (RUN E) 30 Tryz.f30 [1, 1, 1, 0, 1, 0] (h30b v71 v72 a2 b3)
theorem enter30 (a0 : D) (b1 : D) : RUN E 30 [a0, b1] =
 cond (bif bif bif bif bif bif decide (D.toInt (D.cell a0 0) = D.toInt (D.cell b1 0)) then false else true then true else bif D.toBool (D.cell a0 1) == D.toBool (D.cell b1 1) then false else true then true else bif decide (D.toInt (D.cell a0 2) = D.toInt (D.cell b1 2)) then false else true then true else bif decide (D.toStr (D.cell a0 3) = D.toStr (D.cell b1 3)) then false else true then true else bif decide ((↑(List.length (D.toList (D.cell a0 4))) : Int) = (↑(List.length (D.toList (D.cell b1 4))) : Int)) then false else true then true else bif decide ((↑(List.length (D.toList (D.cell a0 5))) : Int) = (↑(List.length (D.toList (D.cell b1 5))) : Int)) then false else true)
 (some [D.bool false])
 (L30a ((↑(List.length (D.toList (D.cell a0 5))) : Int)) 0 a0 b1) := (RUN_eq _ _ _).trans (by kernel_rfl)
theorem round30a (v53 : Int) (v54 : Int) (a2 : D) (b3 : D) : L30a v53 v54 a2 b3 =
 cond (decide (v54 < v53))
 (cond (inb v54 (List.length (D.toList (D.cell a2 5))))
 (cond (inb v54 (List.length (D.toList (D.cell b3 5))))
 (cond (bif decide (D.toStr (List.getD (D.toList (D.cell a2 5)) (Int.toNat v54) D.no) = D.toStr (List.getD (D.toList (D.cell b3 5)) (Int.toNat v54) D.no)) then false else true)
 (some [D.bool false])
 (L30a v53 (IntKind.wrap IntKind.i64 (v54 + 1)) a2 b3))
 (none))
 (none))
 (L30b ((↑(List.length (D.toList (D.cell a2 4))) : Int)) 0 a2 b3) := (LOOP_eq _ _ _ _ _ _).trans (by kernel_rfl)
theorem round30b (v71 : Int) (v72 : Int) (a2 : D) (b3 : D) : L30b v71 v72 a2 b3 =
 cond (decide (v72 < v71))
 (cond (inb v72 (List.length (D.toList (D.cell a2 4))))
 (cond (inb v72 (List.length (D.toList (D.cell b3 4))))
 (opt (RUN E 30 [List.getD (D.toList (D.cell a2 4)) (Int.toNat v72) D.no, List.getD (D.toList (D.cell b3 4)) (Int.toNat v72) D.no]) fun ρ3 =>
 cond (bif D.toBool (List.getD ρ3 0 D.no) then false else true)
 (some [D.bool false])
 (L30b v71 (IntKind.wrap IntKind.i64 (v72 + 1)) a2 b3))
 (none))
 (none))
 (some [D.bool true]) := (LOOP_eq _ _ _ _ _ _).trans (by kernel_rfl)
/-! (*masthead/tmpl.parser).and -/
def h43a (p0c0 : List UInt8) (p0c1 : Int) (p0c2 : Bool) (v2c0 : Int) (v2c1 : List UInt8) (v2c2 : Int) (v2c3 : Bool) (v2c4 : Int) (v2c5 : List UInt8) (x3 : D) (x700136s : List D) : St := mkSt 21 [(0, SV.bptr 0 48 0 (KT.agg 48)), (2, SV.bptr 2 28 0 (KT.agg 28)), (3, SV.bptr 3 28 0 (KT.agg 28))] [(0, Obj.box 48 (BC.cells [SV.val KT.str (D.str p0c0), SV.val (KT.int IntKind.i64) (D.int p0c1), SV.val KT.bool (D.bool p0c2)])), (2, Obj.box 28 (BC.cells [SV.val (KT.int IntKind.i64) (D.int v2c0), SV.val KT.str (D.str v2c1), SV.val (KT.int IntKind.i64) (D.int v2c2), SV.val KT.bool (D.bool v2c3), SV.val (KT.int IntKind.i64) (D.int v2c4), SV.val KT.str (D.str v2c5), SV.nil, SV.nil, SV.own 700136])), (3, Obj.box 28 (BC.whole x3)), (700136, Obj.arr 28 x700136s)]
noncomputable def L43a (p0c0 : List UInt8) (p0c1 : Int) (p0c2 : Bool) (v2c0 : Int) (v2c1 : List UInt8) (v2c2 : Int) (v2c3 : Bool) (v2c4 : Int) (v2c5 : List UInt8) (x3 : D) (x700136s : List D) : R := LOOP E (RUN E) 43 Tryz.f43 [1, 1, 0, 0] (h43a p0c0 p0c1 p0c2 v2c0 v2c1 v2c2 v2c3 v2c4 v2c5 x3 x700136s)
def h43ax (p0c0 : List UInt8) (p0c1 : Int) (p0c2 : Bool) (v2c0 : Int) (v2c1 : List UInt8) (v2c2 : Int) (v2c3 : Bool) (v2c4 : Int) (v2c5 : List UInt8) (x3c0 : Int) (x3c1 : List UInt8) (x3c2 : Int) (x3c3 : Bool) (x3c4 : Int) (x3c5 : List UInt8) (x700136s : List D) (x700200s : List D) : St := mkSt 21 [(0, SV.bptr 0 48 0 (KT.agg 48)), (2, SV.bptr 2 28 0 (KT.agg 28)), (3, SV.bptr 3 28 0 (KT.agg 28))] [(0, Obj.box 48 (BC.cells [SV.val KT.str (D.str p0c0), SV.val (KT.int IntKind.i64) (D.int p0c1), SV.val KT.bool (D.bool p0c2)])), (2, Obj.box 28 (BC.cells [SV.val (KT.int IntKind.i64) (D.int v2c0), SV.val KT.str (D.str v2c1), SV.val (KT.int IntKind.i64) (D.int v2c2), SV.val KT.bool (D.bool v2c3), SV.val (KT.int IntKind.i64) (D.int v2c4), SV.val KT.str (D.str v2c5), SV.nil, SV.nil, SV.own 700136])), (3, Obj.box 28 (BC.cells [SV.val (KT.int IntKind.i64) (D.int x3c0), SV.val KT.str (D.str x3c1), SV.val (KT.int IntKind.i64) (D.int x3c2), SV.val KT.bool (D.bool x3c3), SV.val (KT.int IntKind.i64) (D.int x3c4), SV.val KT.str (D.str x3c5), SV.nil, SV.nil, SV.own 700200])), (700136, Obj.arr 28 x700136s), (700200, Obj.arr 28 x700200s)]
noncomputable def L43ax (p0c0 : List UInt8) (p0c1 : Int) (p0c2 : Bool) (v2c0 : Int) (v2c1 : List UInt8) (v2c2 : Int) (v2c3 : Bool) (v2c4 : Int) (v2c5 : List UInt8) (x3c0 : Int) (x3c1 : List UInt8) (x3c2 : Int) (x3c3 : Bool) (x3c4 : Int) (x3c5 : List UInt8) (x700136s : List D) (x700200s : List D) : R := LOOP E (RUN E) 43 Tryz.f43 [1, 1, 0, 0] (h43ax p0c0 p0c1 p0c2 v2c0 v2c1 v2c2 v2c3 v2c4 v2c5 x3c0 x3c1 x3c2 x3c3 x3c4 x3c5 x700136s x700200s)
theorem enter43 (p0c0 : List UInt8) (p0c1 : Int) (p0c2 : Bool) : RUN E 43 [D.agg [D.str p0c0, D.int p0c1, D.bool p0c2]] =
 opt (RUN E 68 [D.agg [D.str p0c0, D.int p0c1, D.bool p0c2]]) fun ρ0 =>
 L43a (D.toStr (D.cell (List.getD ρ0 1 D.no) 0)) (D.toInt (D.cell (List.getD ρ0 1 D.no) 1)) (D.toBool (D.cell (List.getD ρ0 1 D.no) 2)) 0 [] 0 false 0 [] (List.getD ρ0 0 D.no) [] := (RUN_eq _ _ _).trans (by kernel_rfl)
theorem round43a (p0c0 : List UInt8) (p0c1 : Int) (p0c2 : Bool) (v2c0 : Int) (v2c1 : List UInt8) (v2c2 : Int) (v2c3 : Bool) (v2c4 : Int) (v2c5 : List UInt8) (x3 : D) (x700136s : List D) : L43a p0c0 p0c1 p0c2 v2c0 v2c1 v2c2 v2c3 v2c4 v2c5 x3 x700136s =
 cond (bif bif p0c2 then false else true then true else false)
 (opt (RUN E 44 [D.agg [D.str p0c0, D.int p0c1, D.bool p0c2], D.str (([97, 110, 100] : List UInt8))]) fun ρ1 =>
 cond (bif bif p0c2 then false else true then D.toBool (List.getD ρ1 0 D.no) else false)
 (opt (RUN E 68 [D.agg [D.str (D.toStr (D.cell (List.getD ρ1 1 D.no) 0)), D.int (D.toInt (D.cell (List.getD ρ1 1 D.no) 1)), D.bool (D.toBool (D.cell (List.getD ρ1 1 D.no) 2))]]) fun ρ3 =>
 L43ax (D.toStr (D.cell (List.getD ρ3 1 D.no) 0)) (D.toInt (D.cell (List.getD ρ3 1 D.no) 1)) (D.toBool (D.cell (List.getD ρ3 1 D.no) 2)) v2c0 v2c1 v2c2 v2c3 v2c4 v2c5 8 [] 0 false 0 [] x700136s [x3, List.getD ρ3 0 D.no])
 (some [x3, D.agg [D.str (D.toStr (D.cell (List.getD ρ1 1 D.no) 0)), D.int (D.toInt (D.cell (List.getD ρ1 1 D.no) 1)), D.bool (D.toBool (D.cell (List.getD ρ1 1 D.no) 2))]]))
 (cond (bif bif p0c2 then false else true then false else false)
 (opt (RUN E 68 [D.agg [D.str p0c0, D.int p0c1, D.bool p0c2]]) fun ρ2 =>
 L43ax (D.toStr (D.cell (List.getD ρ2 1 D.no) 0)) (D.toInt (D.cell (List.getD ρ2 1 D.no) 1)) (D.toBool (D.cell (List.getD ρ2 1 D.no) 2)) v2c0 v2c1 v2c2 v2c3 v2c4 v2c5 8 [] 0 false 0 [] x700136s [x3, List.getD ρ2 0 D.no])
 (some [x3, D.agg [D.str p0c0, D.int p0c1, D.bool p0c2]])) := (LOOP_eq _ _ _ _ _ _).trans (by kernel_rfl)
theorem round43ax (p0c0 : List UInt8) (p0c1 : Int) (p0c2 : Bool) (v2c0 : Int) (v2c1 : List UInt8) (v2c2 : Int) (v2c3 : Bool) (v2c4 : Int) (v2c5 : List UInt8) (x3c0 : Int) (x3c1 : List UInt8) (x3c2 : Int) (x3c3 : Bool) (x3c4 : Int) (x3c5 : List UInt8) (x700136s : List D) (x700200s : List D) : L43ax p0c0 p0c1 p0c2 v2c0 v2c1 v2c2 v2c3 v2c4 v2c5 x3c0 x3c1 x3c2 x3c3 x3c4 x3c5 x700136s x700200s =
 cond (bif bif p0c2 then false else true then true else false)
 (opt (RUN E 44 [D.agg [D.str p0c0, D.int p0c1, D.bool p0c2], D.str (([97, 110, 100] : List UInt8))]) fun ρ1 =>
 cond (bif bif p0c2 then false else true then D.toBool (List.getD ρ1 0 D.no) else false)
 (opt (RUN E 68 [D.agg [D.str (D.toStr (D.cell (List.getD ρ1 1 D.no) 0)), D.int (D.toInt (D.cell (List.getD ρ1 1 D.no) 1)), D.bool (D.toBool (D.cell (List.getD ρ1 1 D.no) 2))]]) fun ρ3 =>
 L43ax (D.toStr (D.cell (List.getD ρ3 1 D.no) 0)) (D.toInt (D.cell (List.getD ρ3 1 D.no) 1)) (D.toBool (D.cell (List.getD ρ3 1 D.no) 2)) v2c0 v2c1 v2c2 v2c3 v2c4 v2c5 8 [] 0 false 0 [] x700136s [D.agg [D.int x3c0, D.str x3c1, D.int x3c2, D.bool x3c3, D.int x3c4, D.str x3c5, D.list [], D.list [], D.list x700200s], List.getD ρ3 0 D.no])
 (some [D.agg [D.int x3c0, D.str x3c1, D.int x3c2, D.bool x3c3, D.int x3c4, D.str x3c5, D.list [], D.list [], D.list x700200s], D.agg [D.str (D.toStr (D.cell (List.getD ρ1 1 D.no) 0)), D.int (D.toInt (D.cell (List.getD ρ1 1 D.no) 1)), D.bool (D.toBool (D.cell (List.getD ρ1 1 D.no) 2))]]))
 (cond (bif bif p0c2 then false else true then false else false)
 (opt (RUN E 68 [D.agg [D.str p0c0, D.int p0c1, D.bool p0c2]]) fun ρ2 =>
 L43ax (D.toStr (D.cell (List.getD ρ2 1 D.no) 0)) (D.toInt (D.cell (List.getD ρ2 1 D.no) 1)) (D.toBool (D.cell (List.getD ρ2 1 D.no) 2)) v2c0 v2c1 v2c2 v2c3 v2c4 v2c5 8 [] 0 false 0 [] x700136s [D.agg [D.int x3c0, D.str x3c1, D.int x3c2, D.bool x3c3, D.int x3c4, D.str x3c5, D.list [], D.list [], D.list x700200s], List.getD ρ2 0 D.no])
 (some [D.agg [D.int x3c0, D.str x3c1, D.int x3c2, D.bool x3c3, D.int x3c4, D.str x3c5, D.list [], D.list [], D.list x700200s], D.agg [D.str p0c0, D.int p0c1, D.bool p0c2]])) := (LOOP_eq _ _ _ _ _ _).trans (by kernel_rfl)
/-! (*masthead/tmpl.parser).take -/
theorem enter44 (p0c0 : List UInt8) (p0c1 : Int) (p0c2 : Bool) (w1 : List UInt8) : RUN E 44 [D.agg [D.str p0c0, D.int p0c1, D.bool p0c2], D.str w1] =
 opt (RUN E 24 [D.agg [D.str p0c0, D.int p0c1, D.bool p0c2]]) fun ρ0 =>
 opt (RUN E 69 [D.agg [D.str (D.toStr (D.cell (List.getD ρ0 0 D.no) 0)), D.int (D.toInt (D.cell (List.getD ρ0 0 D.no) 1)), D.bool (D.toBool (D.cell (List.getD ρ0 0 D.no) 2))]]) fun ρ1 =>
 cond (bif decide (D.toStr (List.getD ρ1 0 D.no) = w1) then false else true)
 (some [D.bool false, D.agg [D.str (D.toStr (D.cell (List.getD ρ1 1 D.no) 0)), D.int (D.toInt (D.cell (List.getD ρ1 1 D.no) 1)), D.bool (D.toBool (D.cell (List.getD ρ1 1 D.no) 2))]])
 (some [D.bool true, D.agg [D.str (D.toStr (D.cell (List.getD ρ1 1 D.no) 0)), D.int (IntKind.wrap IntKind.i64 (D.toInt (D.cell (List.getD ρ1 1 D.no) 1) + (↑(List.length w1) : Int))), D.bool (D.toBool (D.cell (List.getD ρ1 1 D.no) 2))]]) := (RUN_eq _ _ _).trans (by kernel_rfl)
/-! masthead/tmpl.isSpace -/
theorem enter45 (c0 : Int) : RUN E 45 [D.int c0] =
 some [D.bool (bif bif decide (c0 = 32) then true else decide (c0 = 9) then true else decide (c0 = 10))] := (RUN_eq _ _ _).trans (by kernel_rfl)
/-! masthead/tmpl.arity -/
theorem enter46 (name0 : List UInt8) : RUN E 46 [D.str name0] =
 opt (RUN E 70 []) fun ρ0 =>
 some [D.int (D.toInt (D.cell (Option.getD (findKV KT.str (D.str name0) (unkv (D.toList (List.getD ρ0 0 D.no)))) (D.agg (List.map zeroD (TI.cells { kt := KT.agg 82, cells := [KT.int IntKind.i64, KT.str, KT.any], fields := [(0, 3), (1, 9), (2, 80)], bytes := 32 })))) 0))] := (RUN_eq _ _ _).trans (by kernel_rfl)
/-! (*masthead/mastref1.scanner).side -/
theorem enter47 (p0c0 : List UInt8) (p0c1 : Int) (p0c2 : Bool) (kind1 : Int) : RUN E 47 [D.agg [D.str p0c0, D.int p0c1, D.bool p0c2], D.int kind1] =
 cond (decide (kind1 = 9))
 (opt (RUN E 27 [D.agg [D.str p0c0, D.int p0c1, D.bool p0c2], D.int 8, D.str (([97, 110, 100] : List UInt8))]) fun ρ1 =>
 some [List.getD ρ1 0 D.no, D.agg [D.str (D.toStr (D.cell (List.getD ρ1 1 D.no) 0)), D.int (D.toInt (D.cell (List.getD ρ1 1 D.no) 1)), D.bool (D.toBool (D.cell (List.getD ρ1 1 D.no) 2))]])
 (opt (RUN E 71 [D.agg [D.str p0c0, D.int p0c1, D.bool p0c2]]) fun ρ1 =>
 some [List.getD ρ1 0 D.no, D.agg [D.str (D.toStr (D.cell (List.getD ρ1 1 D.no) 0)), D.int (D.toInt (D.cell (List.getD ρ1 1 D.no) 1)), D.bool (D.toBool (D.cell (List.getD ρ1 1 D.no) 2))]]) := (RUN_eq _ _ _).trans (by kernel_rfl)
/-! (*masthead/mastref1.scanner).word -/
def h48a (k3 : Int) (p0c0 : List UInt8) (p0c1 : Int) (p0c2 : Bool) : St := mkSt 36 [(0, SV.bptr 0 53 0 (KT.agg 53)), (3, SV.val (KT.int IntKind.i64) (D.int k3))] [(0, Obj.box 53 (BC.cells [SV.val KT.str (D.str p0c0), SV.val (KT.int IntKind.i64) (D.int p0c1), SV.val KT.bool (D.bool p0c2)]))]
noncomputable def L48a (k3 : Int) (p0c0 : List UInt8) (p0c1 : Int) (p0c2 : Bool) : R := LOOP E (RUN E) 48 Tryz.f48 [1, 1, 0, 0] (h48a k3 p0c0 p0c1 p0c2)
theorem enter48 (p0c0 : List UInt8) (p0c1 : Int) (p0c2 : Bool) : RUN E 48 [D.agg [D.str p0c0, D.int p0c1, D.bool p0c2]] =
 L48a p0c1 p0c0 p0c1 p0c2 := (RUN_eq _ _ _).trans (by kernel_rfl)
theorem round48a (k3 : Int) (p0c0 : List UInt8) (p0c1 : Int) (p0c2 : Bool) : L48a k3 p0c0 p0c1 p0c2 =
 cond (bif inb k3 (List.length p0c0) then true else bif bif decide (k3 < (↑(List.length p0c0) : Int)) then true else false then false else true)
 (opt (cond (bif decide (k3 < (↑(List.length p0c0) : Int)) then true else false)
 (RUN E 72 [D.int (↑(UInt8.toNat (List.getD p0c0 (Int.toNat k3) 0)) : Int)])
 (some [])) fun ρ1 =>
 cond (bif decide (k3 < (↑(List.length p0c0) : Int)) then D.toBool (List.getD ρ1 0 D.no) else false)
 (L48a (IntKind.wrap IntKind.i64 (k3 + 1)) p0c0 p0c1 p0c2)
 (cond (cutOk (List.length p0c0) (some p0c1) (some k3))
 (some [D.str (cutL p0c0 (some p0c1) (some k3)), D.agg [D.str p0c0, D.int p0c1, D.bool p0c2]])
 (none)))
 (none) := (LOOP_eq _ _ _ _ _ _).trans (by kernel_rfl)
/-! masthead/mastref1.gap -/
theorem enter49 (c0 : Int) : RUN E 49 [D.int c0] =
 some [D.bool (bif bif decide (c0 = 32) then true else decide (c0 = 9) then true else decide (c0 = 10))] := (RUN_eq _ _ _).trans (by kernel_rfl)
/-! masthead/mastref1.Arity -/
def h50a (name0 : List UInt8) (v5 : List D) (v6 : Int) (v7 : Int) : St := mkSt 26 [(0, SV.val KT.str (D.str name0)), (5, SV.val (KT.slice 9) (D.list v5)), (6, SV.val (KT.int IntKind.i64) (D.int v6)), (7, SV.val (KT.int IntKind.i64) (D.int v7))] []
noncomputable def L50a (name0 : List UInt8) (v5 : List D) (v6 : Int) (v7 : Int) : R := LOOP E (RUN E) 50 Tryz.f50 [1, 0, 1, 0] (h50a name0 v5 v6 v7)
theorem enter50 (name0 : List UInt8) : RUN E 50 [D.str name0] =
 opt (RUN E 73 [D.str (Array.toList (ByteArray.data { data := List.toArray (List.append (List.append [108, 101, 110, 49, 32, 117, 112, 112, 101, 114, 49, 32, 108, 111, 119, 101, 114, 49, 32, 116, 114, 105, 109, 49, 32, 115, 108, 117, 103, 49, 32, 112, 108, 97, 105, 110, 49, 32, 100, 101, 102, 97, 117, 108] [116, 50, 32, 106, 111, 105, 110, 50, 32, 115, 112, 108, 105, 116, 50, 32, 114, 101, 112, 108, 97, 99, 101, 51, 32, 102, 105, 114, 115, 116, 50, 32, 108, 97, 115, 116, 50, 32, 114, 101, 118, 101, 114, 115]) (List.append [101, 49, 32, 115, 111, 114, 116, 50, 32, 119, 104, 101, 114, 101, 51, 32, 104, 97, 115, 50, 32, 107, 101, 121, 115, 49, 32, 97, 100, 100, 50, 32, 115, 117, 98, 50, 32, 109, 117, 108, 50, 32, 100, 105] [118, 50, 32, 109, 111, 100, 50, 32, 115, 116, 114, 105, 110, 103, 49, 32, 121, 101, 97, 114, 49, 32, 109, 111, 110, 116, 104, 49, 32, 100, 97, 121, 49, 32, 102, 97, 99, 116, 49, 32, 108, 105, 115, 116, 50])) })), D.str (([32] : List UInt8))]) fun ρ0 =>
 L50a name0 (D.toList (List.getD ρ0 0 D.no)) ((↑(List.length (D.toList (List.getD ρ0 0 D.no))) : Int)) 0 := (RUN_eq _ _ _).trans (by kernel_rfl)
theorem round50a (name0 : List UInt8) (v5 : List D) (v6 : Int) (v7 : Int) : L50a name0 v5 v6 v7 =
 cond (decide (v7 < v6))
 (cond (inb v7 (List.length v5))
 (cond (cutOk (List.length (D.toStr (List.getD v5 (Int.toNat v7) D.no))) none (some (IntKind.wrap IntKind.i64 ((↑(List.length (D.toStr (List.getD v5 (Int.toNat v7) D.no))) : Int) - 1))))
 (cond (decide (cutL (D.toStr (List.getD v5 (Int.toNat v7) D.no)) none (some (IntKind.wrap IntKind.i64 ((↑(List.length (D.toStr (List.getD v5 (Int.toNat v7) D.no))) : Int) - 1))) = name0))
 (cond (inb (IntKind.wrap IntKind.i64 ((↑(List.length (D.toStr (List.getD v5 (Int.toNat v7) D.no))) : Int) - 1)) (List.length (D.toStr (List.getD v5 (Int.toNat v7) D.no))))
 (some [D.int (IntKind.wrap IntKind.i64 (IntKind.wrap IntKind.u8 ((↑(UInt8.toNat (List.getD (D.toStr (List.getD v5 (Int.toNat v7) D.no)) (Int.toNat (IntKind.wrap IntKind.i64 ((↑(List.length (D.toStr (List.getD v5 (Int.toNat v7) D.no))) : Int) - 1))) 0)) : Int) - 48)))])
 (none))
 (L50a name0 v5 v6 (IntKind.wrap IntKind.i64 (v7 + 1))))
 (none))
 (none))
 (some [D.int 0]) := (LOOP_eq _ _ _ _ _ _).trans (by kernel_rfl)
/-! (*masthead/tmpl.parser).not -/
theorem enter68 (p0c0 : List UInt8) (p0c1 : Int) (p0c2 : Bool) : RUN E 68 [D.agg [D.str p0c0, D.int p0c1, D.bool p0c2]] =
 opt (RUN E 44 [D.agg [D.str p0c0, D.int p0c1, D.bool p0c2], D.str (([110, 111, 116] : List UInt8))]) fun ρ0 =>
 cond (D.toBool (List.getD ρ0 0 D.no))
 (opt (RUN E 68 [D.agg [D.str (D.toStr (D.cell (List.getD ρ0 1 D.no) 0)), D.int (D.toInt (D.cell (List.getD ρ0 1 D.no) 1)), D.bool (D.toBool (D.cell (List.getD ρ0 1 D.no) 2))]]) fun ρ2 =>
 some [D.agg [D.int 7, D.str [], D.int 0, D.bool false, D.int 0, D.str [], D.list [], D.list [], D.list [List.getD ρ2 0 D.no]], D.agg [D.str (D.toStr (D.cell (List.getD ρ2 1 D.no) 0)), D.int (D.toInt (D.cell (List.getD ρ2 1 D.no) 1)), D.bool (D.toBool (D.cell (List.getD ρ2 1 D.no) 2))]])
 (opt (RUN E 86 [D.agg [D.str (D.toStr (D.cell (List.getD ρ0 1 D.no) 0)), D.int (D.toInt (D.cell (List.getD ρ0 1 D.no) 1)), D.bool (D.toBool (D.cell (List.getD ρ0 1 D.no) 2))]]) fun ρ2 =>
 some [List.getD ρ2 0 D.no, D.agg [D.str (D.toStr (D.cell (List.getD ρ2 1 D.no) 0)), D.int (D.toInt (D.cell (List.getD ρ2 1 D.no) 1)), D.bool (D.toBool (D.cell (List.getD ρ2 1 D.no) 2))]]) := (RUN_eq _ _ _).trans (by kernel_rfl)
/-! (*masthead/tmpl.parser).word -/
def h69a (k3 : Int) (p0c0 : List UInt8) (p0c1 : Int) (p0c2 : Bool) : St := mkSt 52 [(0, SV.bptr 0 48 0 (KT.agg 48)), (3, SV.val (KT.int IntKind.i64) (D.int k3))] [(0, Obj.box 48 (BC.cells [SV.val KT.str (D.str p0c0), SV.val (KT.int IntKind.i64) (D.int p0c1), SV.val KT.bool (D.bool p0c2)]))]
noncomputable def L69a (k3 : Int) (p0c0 : List UInt8) (p0c1 : Int) (p0c2 : Bool) : R := LOOP E (RUN E) 69 Tryz.f69 [1, 1, 0, 1, 0, 0] (h69a k3 p0c0 p0c1 p0c2)
theorem enter69 (p0c0 : List UInt8) (p0c1 : Int) (p0c2 : Bool) : RUN E 69 [D.agg [D.str p0c0, D.int p0c1, D.bool p0c2]] =
 cond (bif inb p0c1 (List.length p0c0) then true else bif bif decide (p0c1 < (↑(List.length p0c0) : Int)) then true else false then false else true)
 (opt (cond (bif decide (p0c1 < (↑(List.length p0c0) : Int)) then true else false)
 (RUN E 87 [D.int (↑(UInt8.toNat (List.getD p0c0 (Int.toNat p0c1) 0)) : Int)])
 (some [])) fun ρ1 =>
 cond (bif decide (p0c1 < (↑(List.length p0c0) : Int)) then D.toBool (List.getD ρ1 0 D.no) else false)
 (L69a p0c1 p0c0 p0c1 p0c2)
 (cond (cutOk (List.length p0c0) (some p0c1) (some p0c1))
 (some [D.str (cutL p0c0 (some p0c1) (some p0c1)), D.agg [D.str p0c0, D.int p0c1, D.bool p0c2]])
 (none)))
 (none) := (RUN_eq _ _ _).trans (by kernel_rfl)
theorem round69a (k3 : Int) (p0c0 : List UInt8) (p0c1 : Int) (p0c2 : Bool) : L69a k3 p0c0 p0c1 p0c2 =
 cond (bif inb k3 (List.length p0c0) then true else bif bif decide (k3 < (↑(List.length p0c0) : Int)) then true else false then false else true)
 (opt (cond (bif decide (k3 < (↑(List.length p0c0) : Int)) then true else false)
 (RUN E 88 [D.int (↑(UInt8.toNat (List.getD p0c0 (Int.toNat k3) 0)) : Int)])
 (some [])) fun ρ1 =>
 cond (bif decide (k3 < (↑(List.length p0c0) : Int)) then D.toBool (List.getD ρ1 0 D.no) else false)
 (L69a (IntKind.wrap IntKind.i64 (k3 + 1)) p0c0 p0c1 p0c2)
 (cond (cutOk (List.length p0c0) (some p0c1) (some k3))
 (some [D.str (cutL p0c0 (some p0c1) (some k3)), D.agg [D.str p0c0, D.int p0c1, D.bool p0c2]])
 (none)))
 (none) := (LOOP_eq _ _ _ _ _ _).trans (by kernel_rfl)
/-! masthead/tmpl.functions -/
theorem enter70  : RUN E 70 [] =
 some [D.list (kvD (putKV KT.str (D.str (([102, 97, 99, 116] : List UInt8))) (D.agg (setField KT.any (TI.cells { kt := KT.any, cells := [KT.any], fields := [], bytes := 8 }) (setField KT.str (TI.cells { kt := KT.str, cells := [KT.str], fields := [], bytes := 16 }) (setField (KT.int IntKind.i64) (TI.cells { kt := KT.int IntKind.i64, cells := [KT.int IntKind.i64], fields := [], bytes := 8 }) (List.map zeroD (TI.cells { kt := KT.agg 82, cells := [KT.int IntKind.i64, KT.str, KT.any], fields := [(0, 3), (1, 9), (2, 80)], bytes := 32 })) (Prod.fst (0, 3)) (D.int 1)) (Prod.fst (1, 9)) (D.str (([] : List UInt8)))) (Prod.fst (2, 80)) (D.bool false))) (putKV KT.str (D.str (([108, 105, 115, 116] : List UInt8))) (D.agg (setField KT.any (TI.cells { kt := KT.any, cells := [KT.any], fields := [], bytes := 8 }) (setField KT.str (TI.cells { kt := KT.str, cells := [KT.str], fields := [], bytes := 16 }) (setField (KT.int IntKind.i64) (TI.cells { kt := KT.int IntKind.i64, cells := [KT.int IntKind.i64], fields := [], bytes := 8 }) (List.map zeroD (TI.cells { kt := KT.agg 82, cells := [KT.int IntKind.i64, KT.str, KT.any], fields := [(0, 3), (1, 9), (2, 80)], bytes := 32 })) (Prod.fst (0, 3)) (D.int 2)) (Prod.fst (1, 9)) (D.str (([] : List UInt8)))) (Prod.fst (2, 80)) (D.bool false))) (putKV KT.str (D.str (([100, 101, 102, 97, 117, 108, 116] : List UInt8))) (D.agg (setField KT.any (TI.cells { kt := KT.any, cells := [KT.any], fields := [], bytes := 8 }) (setField KT.str (TI.cells { kt := KT.str, cells := [KT.str], fields := [], bytes := 16 }) (setField (KT.int IntKind.i64) (TI.cells { kt := KT.int IntKind.i64, cells := [KT.int IntKind.i64], fields := [], bytes := 8 }) (List.map zeroD (TI.cells { kt := KT.agg 82, cells := [KT.int IntKind.i64, KT.str, KT.any], fields := [(0, 3), (1, 9), (2, 80)], bytes := 32 })) (Prod.fst (0, 3)) (D.int 2)) (Prod.fst (1, 9)) (D.str (([] : List UInt8)))) (Prod.fst (2, 80)) (D.bool false))) (putKV KT.str (D.str (([115, 116, 114, 105, 110, 103] : List UInt8))) (D.agg (setField KT.any (TI.cells { kt := KT.any, cells := [KT.any], fields := [], bytes := 8 }) (setField KT.str (TI.cells { kt := KT.str, cells := [KT.str], fields := [], bytes := 16 }) (setField (KT.int IntKind.i64) (TI.cells { kt := KT.int IntKind.i64, cells := [KT.int IntKind.i64], fields := [], bytes := 8 }) (List.map zeroD (TI.cells { kt := KT.agg 82, cells := [KT.int IntKind.i64, KT.str, KT.any], fields := [(0, 3), (1, 9), (2, 80)], bytes := 32 })) (Prod.fst (0, 3)) (D.int 1)) (Prod.fst (1, 9)) (D.str (([118] : List UInt8)))) (Prod.fst (2, 80)) (D.bool false))) (putKV KT.str (D.str (([100, 97, 121] : List UInt8))) (D.agg (setField KT.any (TI.cells { kt := KT.any, cells := [KT.any], fields := [], bytes := 8 }) (setField KT.str (TI.cells { kt := KT.str, cells := [KT.str], fields := [], bytes := 16 }) (setField (KT.int IntKind.i64) (TI.cells { kt := KT.int IntKind.i64, cells := [KT.int IntKind.i64], fields := [], bytes := 8 }) (List.map zeroD (TI.cells { kt := KT.agg 82, cells := [KT.int IntKind.i64, KT.str, KT.any], fields := [(0, 3), (1, 9), (2, 80)], bytes := 32 })) (Prod.fst (0, 3)) (D.int 1)) (Prod.fst (1, 9)) (D.str (([100] : List UInt8)))) (Prod.fst (2, 80)) (D.bool false))) (putKV KT.str (D.str (([109, 111, 110, 116, 104] : List UInt8))) (D.agg (setField KT.any (TI.cells { kt := KT.any, cells := [KT.any], fields := [], bytes := 8 }) (setField KT.str (TI.cells { kt := KT.str, cells := [KT.str], fields := [], bytes := 16 }) (setField (KT.int IntKind.i64) (TI.cells { kt := KT.int IntKind.i64, cells := [KT.int IntKind.i64], fields := [], bytes := 8 }) (List.map zeroD (TI.cells { kt := KT.agg 82, cells := [KT.int IntKind.i64, KT.str, KT.any], fields := [(0, 3), (1, 9), (2, 80)], bytes := 32 })) (Prod.fst (0, 3)) (D.int 1)) (Prod.fst (1, 9)) (D.str (([100] : List UInt8)))) (Prod.fst (2, 80)) (D.bool false))) (putKV KT.str (D.str (([121, 101, 97, 114] : List UInt8))) (D.agg (setField KT.any (TI.cells { kt := KT.any, cells := [KT.any], fields := [], bytes := 8 }) (setField KT.str (TI.cells { kt := KT.str, cells := [KT.str], fields := [], bytes := 16 }) (setField (KT.int IntKind.i64) (TI.cells { kt := KT.int IntKind.i64, cells := [KT.int IntKind.i64], fields := [], bytes := 8 }) (List.map zeroD (TI.cells { kt := KT.agg 82, cells := [KT.int IntKind.i64, KT.str, KT.any], fields := [(0, 3), (1, 9), (2, 80)], bytes := 32 })) (Prod.fst (0, 3)) (D.int 1)) (Prod.fst (1, 9)) (D.str (([100] : List UInt8)))) (Prod.fst (2, 80)) (D.bool false))) (putKV KT.str (D.str (([109, 111, 100] : List UInt8))) (D.agg (setField KT.any (TI.cells { kt := KT.any, cells := [KT.any], fields := [], bytes := 8 }) (setField KT.str (TI.cells { kt := KT.str, cells := [KT.str], fields := [], bytes := 16 }) (setField (KT.int IntKind.i64) (TI.cells { kt := KT.int IntKind.i64, cells := [KT.int IntKind.i64], fields := [], bytes := 8 }) (List.map zeroD (TI.cells { kt := KT.agg 82, cells := [KT.int IntKind.i64, KT.str, KT.any], fields := [(0, 3), (1, 9), (2, 80)], bytes := 32 })) (Prod.fst (0, 3)) (D.int 2)) (Prod.fst (1, 9)) (D.str (([105, 105] : List UInt8)))) (Prod.fst (2, 80)) (D.bool false))) (putKV KT.str (D.str (([100, 105, 118] : List UInt8))) (D.agg (setField KT.any (TI.cells { kt := KT.any, cells := [KT.any], fields := [], bytes := 8 }) (setField KT.str (TI.cells { kt := KT.str, cells := [KT.str], fields := [], bytes := 16 }) (setField (KT.int IntKind.i64) (TI.cells { kt := KT.int IntKind.i64, cells := [KT.int IntKind.i64], fields := [], bytes := 8 }) (List.map zeroD (TI.cells { kt := KT.agg 82, cells := [KT.int IntKind.i64, KT.str, KT.any], fields := [(0, 3), (1, 9), (2, 80)], bytes := 32 })) (Prod.fst (0, 3)) (D.int 2)) (Prod.fst (1, 9)) (D.str (([105, 105] : List UInt8)))) (Prod.fst (2, 80)) (D.bool false))) (putKV KT.str (D.str (([109, 117, 108] : List UInt8))) (D.agg (setField KT.any (TI.cells { kt := KT.any, cells := [KT.any], fields := [], bytes := 8 }) (setField KT.str (TI.cells { kt := KT.str, cells := [KT.str], fields := [], bytes := 16 }) (setField (KT.int IntKind.i64) (TI.cells { kt := KT.int IntKind.i64, cells := [KT.int IntKind.i64], fields := [], bytes := 8 }) (List.map zeroD (TI.cells { kt := KT.agg 82, cells := [KT.int IntKind.i64, KT.str, KT.any], fields := [(0, 3), (1, 9), (2, 80)], bytes := 32 })) (Prod.fst (0, 3)) (D.int 2)) (Prod.fst (1, 9)) (D.str (([105, 105] : List UInt8)))) (Prod.fst (2, 80)) (D.bool false))) (putKV KT.str (D.str (([115, 117, 98] : List UInt8))) (D.agg (setField KT.any (TI.cells { kt := KT.any, cells := [KT.any], fields := [], bytes := 8 }) (setField KT.str (TI.cells { kt := KT.str, cells := [KT.str], fields := [], bytes := 16 }) (setField (KT.int IntKind.i64) (TI.cells { kt := KT.int IntKind.i64, cells := [KT.int IntKind.i64], fields := [], bytes := 8 }) (List.map zeroD (TI.cells { kt := KT.agg 82, cells := [KT.int IntKind.i64, KT.str, KT.any], fields := [(0, 3), (1, 9), (2, 80)], bytes := 32 })) (Prod.fst (0, 3)) (D.int 2)) (Prod.fst (1, 9)) (D.str (([105, 105] : List UInt8)))) (Prod.fst (2, 80)) (D.bool false))) (putKV KT.str (D.str (([97, 100, 100] : List UInt8))) (D.agg (setField KT.any (TI.cells { kt := KT.any, cells := [KT.any], fields := [], bytes := 8 }) (setField KT.str (TI.cells { kt := KT.str, cells := [KT.str], fields := [], bytes := 16 }) (setField (KT.int IntKind.i64) (TI.cells { kt := KT.int IntKind.i64, cells := [KT.int IntKind.i64], fields := [], bytes := 8 }) (List.map zeroD (TI.cells { kt := KT.agg 82, cells := [KT.int IntKind.i64, KT.str, KT.any], fields := [(0, 3), (1, 9), (2, 80)], bytes := 32 })) (Prod.fst (0, 3)) (D.int 2)) (Prod.fst (1, 9)) (D.str (([105, 105] : List UInt8)))) (Prod.fst (2, 80)) (D.bool false))) (putKV KT.str (D.str (([107, 101, 121, 115] : List UInt8))) (D.agg (setField KT.any (TI.cells { kt := KT.any, cells := [KT.any], fields := [], bytes := 8 }) (setField KT.str (TI.cells { kt := KT.str, cells := [KT.str], fields := [], bytes := 16 }) (setField (KT.int IntKind.i64) (TI.cells { kt := KT.int IntKind.i64, cells := [KT.int IntKind.i64], fields := [], bytes := 8 }) (List.map zeroD (TI.cells { kt := KT.agg 82, cells := [KT.int IntKind.i64, KT.str, KT.any], fields := [(0, 3), (1, 9), (2, 80)], bytes := 32 })) (Prod.fst (0, 3)) (D.int 1)) (Prod.fst (1, 9)) (D.str (([116] : List UInt8)))) (Prod.fst (2, 80)) (D.bool false))) (putKV KT.str (D.str (([106, 111, 105, 110] : List UInt8))) (D.agg (setField KT.any (TI.cells { kt := KT.any, cells := [KT.any], fields := [], bytes := 8 }) (setField KT.str (TI.cells { kt := KT.str, cells := [KT.str], fields := [], bytes := 16 }) (setField (KT.int IntKind.i64) (TI.cells { kt := KT.int IntKind.i64, cells := [KT.int IntKind.i64], fields := [], bytes := 8 }) (List.map zeroD (TI.cells { kt := KT.agg 82, cells := [KT.int IntKind.i64, KT.str, KT.any], fields := [(0, 3), (1, 9), (2, 80)], bytes := 32 })) (Prod.fst (0, 3)) (D.int 2)) (Prod.fst (1, 9)) (D.str (([108, 115] : List UInt8)))) (Prod.fst (2, 80)) (D.bool false))) (putKV KT.str (D.str (([104, 97, 115] : List UInt8))) (D.agg (setField KT.any (TI.cells { kt := KT.any, cells := [KT.any], fields := [], bytes := 8 }) (setField KT.str (TI.cells { kt := KT.str, cells := [KT.str], fields := [], bytes := 16 }) (setField (KT.int IntKind.i64) (TI.cells { kt := KT.int IntKind.i64, cells := [KT.int IntKind.i64], fields := [], bytes := 8 }) (List.map zeroD (TI.cells { kt := KT.agg 82, cells := [KT.int IntKind.i64, KT.str, KT.any], fields := [(0, 3), (1, 9), (2, 80)], bytes := 32 })) (Prod.fst (0, 3)) (D.int 2)) (Prod.fst (1, 9)) (D.str (([108, 118] : List UInt8)))) (Prod.fst (2, 80)) (D.bool false))) (putKV KT.str (D.str (([119, 104, 101, 114, 101] : List UInt8))) (D.agg (setField KT.any (TI.cells { kt := KT.any, cells := [KT.any], fields := [], bytes := 8 }) (setField KT.str (TI.cells { kt := KT.str, cells := [KT.str], fields := [], bytes := 16 }) (setField (KT.int IntKind.i64) (TI.cells { kt := KT.int IntKind.i64, cells := [KT.int IntKind.i64], fields := [], bytes := 8 }) (List.map zeroD (TI.cells { kt := KT.agg 82, cells := [KT.int IntKind.i64, KT.str, KT.any], fields := [(0, 3), (1, 9), (2, 80)], bytes := 32 })) (Prod.fst (0, 3)) (D.int 3)) (Prod.fst (1, 9)) (D.str (([108, 115, 118] : List UInt8)))) (Prod.fst (2, 80)) (D.bool false))) (putKV KT.str (D.str (([115, 111, 114, 116] : List UInt8))) (D.agg (setField KT.any (TI.cells { kt := KT.any, cells := [KT.any], fields := [], bytes := 8 }) (setField KT.str (TI.cells { kt := KT.str, cells := [KT.str], fields := [], bytes := 16 }) (setField (KT.int IntKind.i64) (TI.cells { kt := KT.int IntKind.i64, cells := [KT.int IntKind.i64], fields := [], bytes := 8 }) (List.map zeroD (TI.cells { kt := KT.agg 82, cells := [KT.int IntKind.i64, KT.str, KT.any], fields := [(0, 3), (1, 9), (2, 80)], bytes := 32 })) (Prod.fst (0, 3)) (D.int 2)) (Prod.fst (1, 9)) (D.str (([108, 115] : List UInt8)))) (Prod.fst (2, 80)) (D.bool false))) (putKV KT.str (D.str (([114, 101, 118, 101, 114, 115, 101] : List UInt8))) (D.agg (setField KT.any (TI.cells { kt := KT.any, cells := [KT.any], fields := [], bytes := 8 }) (setField KT.str (TI.cells { kt := KT.str, cells := [KT.str], fields := [], bytes := 16 }) (setField (KT.int IntKind.i64) (TI.cells { kt := KT.int IntKind.i64, cells := [KT.int IntKind.i64], fields := [], bytes := 8 }) (List.map zeroD (TI.cells { kt := KT.agg 82, cells := [KT.int IntKind.i64, KT.str, KT.any], fields := [(0, 3), (1, 9), (2, 80)], bytes := 32 })) (Prod.fst (0, 3)) (D.int 1)) (Prod.fst (1, 9)) (D.str (([108] : List UInt8)))) (Prod.fst (2, 80)) (D.bool false))) (putKV KT.str (D.str (([108, 97, 115, 116] : List UInt8))) (D.agg (setField KT.any (TI.cells { kt := KT.any, cells := [KT.any], fields := [], bytes := 8 }) (setField KT.str (TI.cells { kt := KT.str, cells := [KT.str], fields := [], bytes := 16 }) (setField (KT.int IntKind.i64) (TI.cells { kt := KT.int IntKind.i64, cells := [KT.int IntKind.i64], fields := [], bytes := 8 }) (List.map zeroD (TI.cells { kt := KT.agg 82, cells := [KT.int IntKind.i64, KT.str, KT.any], fields := [(0, 3), (1, 9), (2, 80)], bytes := 32 })) (Prod.fst (0, 3)) (D.int 2)) (Prod.fst (1, 9)) (D.str (([108, 105] : List UInt8)))) (Prod.fst (2, 80)) (D.bool false))) (putKV KT.str (D.str (([102, 105, 114, 115, 116] : List UInt8))) (D.agg (setField KT.any (TI.cells { kt := KT.any, cells := [KT.any], fields := [], bytes := 8 }) (setField KT.str (TI.cells { kt := KT.str, cells := [KT.str], fields := [], bytes := 16 }) (setField (KT.int IntKind.i64) (TI.cells { kt := KT.int IntKind.i64, cells := [KT.int IntKind.i64], fields := [], bytes := 8 }) (List.map zeroD (TI.cells { kt := KT.agg 82, cells := [KT.int IntKind.i64, KT.str, KT.any], fields := [(0, 3), (1, 9), (2, 80)], bytes := 32 })) (Prod.fst (0, 3)) (D.int 2)) (Prod.fst (1, 9)) (D.str (([108, 105] : List UInt8)))) (Prod.fst (2, 80)) (D.bool false))) (putKV KT.str (D.str (([114, 101, 112, 108, 97, 99, 101] : List UInt8))) (D.agg (setField KT.any (TI.cells { kt := KT.any, cells := [KT.any], fields := [], bytes := 8 }) (setField KT.str (TI.cells { kt := KT.str, cells := [KT.str], fields := [], bytes := 16 }) (setField (KT.int IntKind.i64) (TI.cells { kt := KT.int IntKind.i64, cells := [KT.int IntKind.i64], fields := [], bytes := 8 }) (List.map zeroD (TI.cells { kt := KT.agg 82, cells := [KT.int IntKind.i64, KT.str, KT.any], fields := [(0, 3), (1, 9), (2, 80)], bytes := 32 })) (Prod.fst (0, 3)) (D.int 3)) (Prod.fst (1, 9)) (D.str (([115, 115, 115] : List UInt8)))) (Prod.fst (2, 80)) (D.bool false))) (putKV KT.str (D.str (([115, 112, 108, 105, 116] : List UInt8))) (D.agg (setField KT.any (TI.cells { kt := KT.any, cells := [KT.any], fields := [], bytes := 8 }) (setField KT.str (TI.cells { kt := KT.str, cells := [KT.str], fields := [], bytes := 16 }) (setField (KT.int IntKind.i64) (TI.cells { kt := KT.int IntKind.i64, cells := [KT.int IntKind.i64], fields := [], bytes := 8 }) (List.map zeroD (TI.cells { kt := KT.agg 82, cells := [KT.int IntKind.i64, KT.str, KT.any], fields := [(0, 3), (1, 9), (2, 80)], bytes := 32 })) (Prod.fst (0, 3)) (D.int 2)) (Prod.fst (1, 9)) (D.str (([115, 115] : List UInt8)))) (Prod.fst (2, 80)) (D.bool false))) (putKV KT.str (D.str (([112, 108, 97, 105, 110] : List UInt8))) (D.agg (setField KT.any (TI.cells { kt := KT.any, cells := [KT.any], fields := [], bytes := 8 }) (setField KT.str (TI.cells { kt := KT.str, cells := [KT.str], fields := [], bytes := 16 }) (setField (KT.int IntKind.i64) (TI.cells { kt := KT.int IntKind.i64, cells := [KT.int IntKind.i64], fields := [], bytes := 8 }) (List.map zeroD (TI.cells { kt := KT.agg 82, cells := [KT.int IntKind.i64, KT.str, KT.any], fields := [(0, 3), (1, 9), (2, 80)], bytes := 32 })) (Prod.fst (0, 3)) (D.int 1)) (Prod.fst (1, 9)) (D.str (([115] : List UInt8)))) (Prod.fst (2, 80)) (D.bool false))) (putKV KT.str (D.str (([115, 108, 117, 103] : List UInt8))) (D.agg (setField KT.any (TI.cells { kt := KT.any, cells := [KT.any], fields := [], bytes := 8 }) (setField KT.str (TI.cells { kt := KT.str, cells := [KT.str], fields := [], bytes := 16 }) (setField (KT.int IntKind.i64) (TI.cells { kt := KT.int IntKind.i64, cells := [KT.int IntKind.i64], fields := [], bytes := 8 }) (List.map zeroD (TI.cells { kt := KT.agg 82, cells := [KT.int IntKind.i64, KT.str, KT.any], fields := [(0, 3), (1, 9), (2, 80)], bytes := 32 })) (Prod.fst (0, 3)) (D.int 1)) (Prod.fst (1, 9)) (D.str (([115] : List UInt8)))) (Prod.fst (2, 80)) (D.bool false))) (putKV KT.str (D.str (([116, 114, 105, 109] : List UInt8))) (D.agg (setField KT.any (TI.cells { kt := KT.any, cells := [KT.any], fields := [], bytes := 8 }) (setField KT.str (TI.cells { kt := KT.str, cells := [KT.str], fields := [], bytes := 16 }) (setField (KT.int IntKind.i64) (TI.cells { kt := KT.int IntKind.i64, cells := [KT.int IntKind.i64], fields := [], bytes := 8 }) (List.map zeroD (TI.cells { kt := KT.agg 82, cells := [KT.int IntKind.i64, KT.str, KT.any], fields := [(0, 3), (1, 9), (2, 80)], bytes := 32 })) (Prod.fst (0, 3)) (D.int 1)) (Prod.fst (1, 9)) (D.str (([115] : List UInt8)))) (Prod.fst (2, 80)) (D.bool false))) (putKV KT.str (D.str (([108, 111, 119, 101, 114] : List UInt8))) (D.agg (setField KT.any (TI.cells { kt := KT.any, cells := [KT.any], fields := [], bytes := 8 }) (setField KT.str (TI.cells { kt := KT.str, cells := [KT.str], fields := [], bytes := 16 }) (setField (KT.int IntKind.i64) (TI.cells { kt := KT.int IntKind.i64, cells := [KT.int IntKind.i64], fields := [], bytes := 8 }) (List.map zeroD (TI.cells { kt := KT.agg 82, cells := [KT.int IntKind.i64, KT.str, KT.any], fields := [(0, 3), (1, 9), (2, 80)], bytes := 32 })) (Prod.fst (0, 3)) (D.int 1)) (Prod.fst (1, 9)) (D.str (([115] : List UInt8)))) (Prod.fst (2, 80)) (D.bool false))) (putKV KT.str (D.str (([117, 112, 112, 101, 114] : List UInt8))) (D.agg (setField KT.any (TI.cells { kt := KT.any, cells := [KT.any], fields := [], bytes := 8 }) (setField KT.str (TI.cells { kt := KT.str, cells := [KT.str], fields := [], bytes := 16 }) (setField (KT.int IntKind.i64) (TI.cells { kt := KT.int IntKind.i64, cells := [KT.int IntKind.i64], fields := [], bytes := 8 }) (List.map zeroD (TI.cells { kt := KT.agg 82, cells := [KT.int IntKind.i64, KT.str, KT.any], fields := [(0, 3), (1, 9), (2, 80)], bytes := 32 })) (Prod.fst (0, 3)) (D.int 1)) (Prod.fst (1, 9)) (D.str (([115] : List UInt8)))) (Prod.fst (2, 80)) (D.bool false))) (putKV KT.str (D.str (([108, 101, 110] : List UInt8))) (D.agg (setField KT.any (TI.cells { kt := KT.any, cells := [KT.any], fields := [], bytes := 8 }) (setField KT.str (TI.cells { kt := KT.str, cells := [KT.str], fields := [], bytes := 16 }) (setField (KT.int IntKind.i64) (TI.cells { kt := KT.int IntKind.i64, cells := [KT.int IntKind.i64], fields := [], bytes := 8 }) (List.map zeroD (TI.cells { kt := KT.agg 82, cells := [KT.int IntKind.i64, KT.str, KT.any], fields := [(0, 3), (1, 9), (2, 80)], bytes := 32 })) (Prod.fst (0, 3)) (D.int 1)) (Prod.fst (1, 9)) (D.str (([99] : List UInt8)))) (Prod.fst (2, 80)) (D.bool false))) [])))))))))))))))))))))))))))))] := (RUN_eq _ _ _).trans (by kernel_rfl)
/-! (*masthead/mastref1.scanner).not -/
def h71a (v26 : List D) (v27 : Int) (v28 : Int) (p0c0 : List UInt8) (p0c1 : Int) (p0c2 : Bool) (v2c0 : Int) (v2c1 : List UInt8) (v2c2 : Int) (v2c3 : Bool) (v2c4 : Int) (v2c5 : List UInt8) (x3 : D) (x700136s : List D) : St := mkSt 43 [(0, SV.bptr 0 53 0 (KT.agg 53)), (2, SV.bptr 2 28 0 (KT.agg 28)), (3, SV.bptr 3 28 0 (KT.agg 28)), (26, SV.val (KT.slice 9) (D.list v26)), (27, SV.val (KT.int IntKind.i64) (D.int v27)), (28, SV.val (KT.int IntKind.i64) (D.int v28))] [(0, Obj.box 53 (BC.cells [SV.val KT.str (D.str p0c0), SV.val (KT.int IntKind.i64) (D.int p0c1), SV.val KT.bool (D.bool p0c2)])), (2, Obj.box 28 (BC.cells [SV.val (KT.int IntKind.i64) (D.int v2c0), SV.val KT.str (D.str v2c1), SV.val (KT.int IntKind.i64) (D.int v2c2), SV.val KT.bool (D.bool v2c3), SV.val (KT.int IntKind.i64) (D.int v2c4), SV.val KT.str (D.str v2c5), SV.nil, SV.nil, SV.own 700136])), (3, Obj.box 28 (BC.whole x3)), (700136, Obj.arr 28 x700136s)]
noncomputable def L71a (v26 : List D) (v27 : Int) (v28 : Int) (p0c0 : List UInt8) (p0c1 : Int) (p0c2 : Bool) (v2c0 : Int) (v2c1 : List UInt8) (v2c2 : Int) (v2c3 : Bool) (v2c4 : Int) (v2c5 : List UInt8) (x3 : D) (x700136s : List D) : R := LOOP E (RUN E) 71 Tryz.f71 [1, 1, 1, 1, 1, 0, 1, 0] (h71a v26 v27 v28 p0c0 p0c1 p0c2 v2c0 v2c1 v2c2 v2c3 v2c4 v2c5 x3 x700136s)
theorem enter71 (p0c0 : List UInt8) (p0c1 : Int) (p0c2 : Bool) : RUN E 71 [D.agg [D.str p0c0, D.int p0c1, D.bool p0c2]] =
 opt (RUN E 28 [D.agg [D.str p0c0, D.int p0c1, D.bool p0c2]]) fun ρ0 =>
 opt (RUN E 48 [D.agg [D.str (D.toStr (D.cell (List.getD ρ0 0 D.no) 0)), D.int (D.toInt (D.cell (List.getD ρ0 0 D.no) 1)), D.bool (D.toBool (D.cell (List.getD ρ0 0 D.no) 2))]]) fun ρ1 =>
 cond (decide (D.toStr (List.getD ρ1 0 D.no) = ([110, 111, 116] : List UInt8)))
 (opt (RUN E 71 [D.agg [D.str (D.toStr (D.cell (List.getD ρ1 1 D.no) 0)), D.int (IntKind.wrap IntKind.i64 (D.toInt (D.cell (List.getD ρ1 1 D.no) 1) + 3)), D.bool (D.toBool (D.cell (List.getD ρ1 1 D.no) 2))]]) fun ρ3 =>
 some [D.agg [D.int 7, D.str [], D.int 0, D.bool false, D.int 0, D.str [], D.list [], D.list [], D.list [List.getD ρ3 0 D.no]], D.agg [D.str (D.toStr (D.cell (List.getD ρ3 1 D.no) 0)), D.int (D.toInt (D.cell (List.getD ρ3 1 D.no) 1)), D.bool (D.toBool (D.cell (List.getD ρ3 1 D.no) 2))]])
 (opt (RUN E 97 [D.agg [D.str (D.toStr (D.cell (List.getD ρ1 1 D.no) 0)), D.int (D.toInt (D.cell (List.getD ρ1 1 D.no) 1)), D.bool (D.toBool (D.cell (List.getD ρ1 1 D.no) 2))]]) fun ρ3 =>
 opt (RUN E 28 [D.agg [D.str (D.toStr (D.cell (List.getD ρ3 1 D.no) 0)), D.int (D.toInt (D.cell (List.getD ρ3 1 D.no) 1)), D.bool (D.toBool (D.cell (List.getD ρ3 1 D.no) 2))]]) fun ρ4 =>
 L71a [D.str (([61, 61] : List UInt8)), D.str (([33, 61] : List UInt8)), D.str (([60, 61] : List UInt8)), D.str (([62, 61] : List UInt8)), D.str (([60] : List UInt8)), D.str (([62] : List UInt8))] ((↑(List.length [D.str (([61, 61] : List UInt8)), D.str (([33, 61] : List UInt8)), D.str (([60, 61] : List UInt8)), D.str (([62, 61] : List UInt8)), D.str (([60] : List UInt8)), D.str (([62] : List UInt8))]) : Int)) 0 (D.toStr (D.cell (List.getD ρ4 0 D.no) 0)) (D.toInt (D.cell (List.getD ρ4 0 D.no) 1)) (D.toBool (D.cell (List.getD ρ4 0 D.no) 2)) 0 [] 0 false 0 [] (List.getD ρ3 0 D.no) []) := (RUN_eq _ _ _).trans (by kernel_rfl)
theorem round71a (v26 : List D) (v27 : Int) (v28 : Int) (p0c0 : List UInt8) (p0c1 : Int) (p0c2 : Bool) (v2c0 : Int) (v2c1 : List UInt8) (v2c2 : Int) (v2c3 : Bool) (v2c4 : Int) (v2c5 : List UInt8) (x3 : D) (x700136s : List D) : L71a v26 v27 v28 p0c0 p0c1 p0c2 v2c0 v2c1 v2c2 v2c3 v2c4 v2c5 x3 x700136s =
 cond (decide (v28 < v27))
 (cond (inb v28 (List.length v26))
 (opt (RUN E 98 [D.agg [D.str p0c0, D.int p0c1, D.bool p0c2], D.str (D.toStr (List.getD v26 (Int.toNat v28) D.no))]) fun ρ2 =>
 cond (D.toBool (List.getD ρ2 0 D.no))
 (opt (RUN E 97 [D.agg [D.str (D.toStr (D.cell (List.getD ρ2 1 D.no) 0)), D.int (D.toInt (D.cell (List.getD ρ2 1 D.no) 1)), D.bool (D.toBool (D.cell (List.getD ρ2 1 D.no) 2))]]) fun ρ4 =>
 some [D.agg [D.int 10, D.str (D.toStr (List.getD v26 (Int.toNat v28) D.no)), D.int 0, D.bool false, D.int 0, D.str [], D.list [], D.list [], D.list [x3, List.getD ρ4 0 D.no]], D.agg [D.str (D.toStr (D.cell (List.getD ρ4 1 D.no) 0)), D.int (D.toInt (D.cell (List.getD ρ4 1 D.no) 1)), D.bool (D.toBool (D.cell (List.getD ρ4 1 D.no) 2))]])
 (L71a v26 v27 (IntKind.wrap IntKind.i64 (v28 + 1)) (D.toStr (D.cell (List.getD ρ2 1 D.no) 0)) (D.toInt (D.cell (List.getD ρ2 1 D.no) 1)) (D.toBool (D.cell (List.getD ρ2 1 D.no) 2)) v2c0 v2c1 v2c2 v2c3 v2c4 v2c5 x3 x700136s))
 (none))
 (some [x3, D.agg [D.str p0c0, D.int p0c1, D.bool p0c2]]) := (LOOP_eq _ _ _ _ _ _).trans (by kernel_rfl)
/-! masthead/mastref1.wordByte -/
theorem enter72 (c0 : Int) : RUN E 72 [D.int c0] =
 opt (cond (bif bif decide (97 ≤ c0) then decide (c0 ≤ 122) else false then false else true)
 (RUN E 99 [D.int c0])
 (some [])) fun ρ0 =>
 some [D.bool (bif bif bif decide (97 ≤ c0) then decide (c0 ≤ 122) else false then true else D.toBool (List.getD ρ0 0 D.no) then true else decide (c0 = 95))] := (RUN_eq _ _ _).trans (by kernel_rfl)
/-! strings.Split -/
theorem enter73 (s0 : List UInt8) (sep1 : List UInt8) : RUN E 73 [D.str s0, D.str sep1] =
 opt (RUN E 100 [D.str s0, D.str sep1, D.int 0, D.int (-1)]) fun ρ0 =>
 some [D.list (D.toList (List.getD ρ0 0 D.no))] := (RUN_eq _ _ _).trans (by kernel_rfl)
/-! (*masthead/tmpl.parser).cmp -/
def h86a (op4 : List UInt8) (v16 : List D) (v17 : Int) (v18 : Int) (p0c0 : List UInt8) (p0c1 : Int) (p0c2 : Bool) (v2c0 : Int) (v2c1 : List UInt8) (v2c2 : Int) (v2c3 : Bool) (v2c4 : Int) (v2c5 : List UInt8) (x3 : D) (x700136s : List D) : St := mkSt 79 [(0, SV.bptr 0 48 0 (KT.agg 48)), (2, SV.bptr 2 28 0 (KT.agg 28)), (3, SV.bptr 3 28 0 (KT.agg 28)), (4, SV.val KT.str (D.str op4)), (16, SV.val (KT.slice 9) (D.list v16)), (17, SV.val (KT.int IntKind.i64) (D.int v17)), (18, SV.val (KT.int IntKind.i64) (D.int v18))] [(0, Obj.box 48 (BC.cells [SV.val KT.str (D.str p0c0), SV.val (KT.int IntKind.i64) (D.int p0c1), SV.val KT.bool (D.bool p0c2)])), (2, Obj.box 28 (BC.cells [SV.val (KT.int IntKind.i64) (D.int v2c0), SV.val KT.str (D.str v2c1), SV.val (KT.int IntKind.i64) (D.int v2c2), SV.val KT.bool (D.bool v2c3), SV.val (KT.int IntKind.i64) (D.int v2c4), SV.val KT.str (D.str v2c5), SV.nil, SV.nil, SV.own 700136])), (3, Obj.box 28 (BC.whole x3)), (700136, Obj.arr 28 x700136s)]
noncomputable def L86a (op4 : List UInt8) (v16 : List D) (v17 : Int) (v18 : Int) (p0c0 : List UInt8) (p0c1 : Int) (p0c2 : Bool) (v2c0 : Int) (v2c1 : List UInt8) (v2c2 : Int) (v2c3 : Bool) (v2c4 : Int) (v2c5 : List UInt8) (x3 : D) (x700136s : List D) : R := LOOP E (RUN E) 86 Tryz.f86 [1, 1, 1, 1, 1, 0, 1, 0] (h86a op4 v16 v17 v18 p0c0 p0c1 p0c2 v2c0 v2c1 v2c2 v2c3 v2c4 v2c5 x3 x700136s)
theorem enter86 (p0c0 : List UInt8) (p0c1 : Int) (p0c2 : Bool) : RUN E 86 [D.agg [D.str p0c0, D.int p0c1, D.bool p0c2]] =
 opt (RUN E 109 [D.agg [D.str p0c0, D.int p0c1, D.bool p0c2]]) fun ρ0 =>
 cond (D.toBool (D.cell (List.getD ρ0 1 D.no) 2))
 (some [List.getD ρ0 0 D.no, D.agg [D.str (D.toStr (D.cell (List.getD ρ0 1 D.no) 0)), D.int (D.toInt (D.cell (List.getD ρ0 1 D.no) 1)), D.bool (D.toBool (D.cell (List.getD ρ0 1 D.no) 2))]])
 (opt (RUN E 24 [D.agg [D.str (D.toStr (D.cell (List.getD ρ0 1 D.no) 0)), D.int (D.toInt (D.cell (List.getD ρ0 1 D.no) 1)), D.bool (D.toBool (D.cell (List.getD ρ0 1 D.no) 2))]]) fun ρ2 =>
 L86a (([] : List UInt8)) [D.str (([61, 61] : List UInt8)), D.str (([33, 61] : List UInt8)), D.str (([60, 61] : List UInt8)), D.str (([62, 61] : List UInt8)), D.str (([60] : List UInt8)), D.str (([62] : List UInt8))] ((↑(List.length [D.str (([61, 61] : List UInt8)), D.str (([33, 61] : List UInt8)), D.str (([60, 61] : List UInt8)), D.str (([62, 61] : List UInt8)), D.str (([60] : List UInt8)), D.str (([62] : List UInt8))]) : Int)) 0 (D.toStr (D.cell (List.getD ρ2 0 D.no) 0)) (D.toInt (D.cell (List.getD ρ2 0 D.no) 1)) (D.toBool (D.cell (List.getD ρ2 0 D.no) 2)) 0 [] 0 false 0 [] (List.getD ρ0 0 D.no) []) := (RUN_eq _ _ _).trans (by kernel_rfl)
theorem round86a (op4 : List UInt8) (v16 : List D) (v17 : Int) (v18 : Int) (p0c0 : List UInt8) (p0c1 : Int) (p0c2 : Bool) (v2c0 : Int) (v2c1 : List UInt8) (v2c2 : Int) (v2c3 : Bool) (v2c4 : Int) (v2c5 : List UInt8) (x3 : D) (x700136s : List D) : L86a op4 v16 v17 v18 p0c0 p0c1 p0c2 v2c0 v2c1 v2c2 v2c3 v2c4 v2c5 x3 x700136s =
 cond (decide (v18 < v17))
 (cond (inb v18 (List.length v16))
 (cond (bif cutOk (List.length p0c0) (some p0c1) (some (IntKind.wrap IntKind.i64 (p0c1 + (↑(List.length (D.toStr (List.getD v16 (Int.toNat v18) D.no))) : Int)))) then true else bif bif bif decide (op4 = ([] : List UInt8)) then decide ((↑(List.length (D.toStr (List.getD v16 (Int.toNat v18) D.no))) : Int) ≤ IntKind.wrap IntKind.i64 ((↑(List.length p0c0) : Int) - p0c1)) else false then true else false then false else true)
 (cond (bif bif decide (op4 = ([] : List UInt8)) then decide ((↑(List.length (D.toStr (List.getD v16 (Int.toNat v18) D.no))) : Int) ≤ IntKind.wrap IntKind.i64 ((↑(List.length p0c0) : Int) - p0c1)) else false then decide (cutL p0c0 (some p0c1) (some (IntKind.wrap IntKind.i64 (p0c1 + (↑(List.length (D.toStr (List.getD v16 (Int.toNat v18) D.no))) : Int)))) = D.toStr (List.getD v16 (Int.toNat v18) D.no)) else false)
 (L86a (D.toStr (List.getD v16 (Int.toNat v18) D.no)) v16 v17 (IntKind.wrap IntKind.i64 (v18 + 1)) p0c0 p0c1 p0c2 v2c0 v2c1 v2c2 v2c3 v2c4 v2c5 x3 x700136s)
 (L86a op4 v16 v17 (IntKind.wrap IntKind.i64 (v18 + 1)) p0c0 p0c1 p0c2 v2c0 v2c1 v2c2 v2c3 v2c4 v2c5 x3 x700136s))
 (none))
 (none))
 (cond (decide (op4 = ([] : List UInt8)))
 (some [x3, D.agg [D.str p0c0, D.int p0c1, D.bool p0c2]])
 (opt (RUN E 109 [D.agg [D.str p0c0, D.int (IntKind.wrap IntKind.i64 (p0c1 + (↑(List.length op4) : Int))), D.bool p0c2]]) fun ρ2 =>
 some [D.agg [D.int 10, D.str op4, D.int 0, D.bool false, D.int 0, D.str [], D.list [], D.list [], D.list [x3, List.getD ρ2 0 D.no]], D.agg [D.str (D.toStr (D.cell (List.getD ρ2 1 D.no) 0)), D.int (D.toInt (D.cell (List.getD ρ2 1 D.no) 1)), D.bool (D.toBool (D.cell (List.getD ρ2 1 D.no) 2))]])) := (LOOP_eq _ _ _ _ _ _).trans (by kernel_rfl)
/-! masthead/tmpl.isSmall -/
theorem enter87 (c0 : Int) : RUN E 87 [D.int c0] =
 some [D.bool (bif decide (97 ≤ c0) then decide (c0 ≤ 122) else false)] := (RUN_eq _ _ _).trans (by kernel_rfl)
/-! masthead/tmpl.isWord -/
theorem enter88 (c0 : Int) : RUN E 88 [D.int c0] =
 opt (RUN E 87 [D.int c0]) fun ρ0 =>
 opt (cond (bif D.toBool (List.getD ρ0 0 D.no) then false else true)
 (RUN E 110 [D.int c0])
 (some [])) fun ρ1 =>
 some [D.bool (bif bif D.toBool (List.getD ρ0 0 D.no) then true else D.toBool (List.getD ρ1 0 D.no) then true else decide (c0 = 95))] := (RUN_eq _ _ _).trans (by kernel_rfl)
/-! (*masthead/mastref1.scanner).term -/
def h97a (p0c0 : List UInt8) (p0c1 : Int) (p0c2 : Bool) (v2c0 : Int) (v2c1 : List UInt8) (v2c2 : Int) (v2c3 : Bool) (v2c4 : Int) (v2c5 : List UInt8) (x3 : D) (x700136s : List D) : St := mkSt 108 [(0, SV.bptr 0 53 0 (KT.agg 53)), (2, SV.bptr 2 28 0 (KT.agg 28)), (3, SV.bptr 3 28 0 (KT.agg 28))] [(0, Obj.box 53 (BC.cells [SV.val KT.str (D.str p0c0), SV.val (KT.int IntKind.i64) (D.int p0c1), SV.val KT.bool (D.bool p0c2)])), (2, Obj.box 28 (BC.cells [SV.val (KT.int IntKind.i64) (D.int v2c0), SV.val KT.str (D.str v2c1), SV.val (KT.int IntKind.i64) (D.int v2c2), SV.val KT.bool (D.bool v2c3), SV.val (KT.int IntKind.i64) (D.int v2c4), SV.val KT.str (D.str v2c5), SV.nil, SV.nil, SV.own 700136])), (3, Obj.box 28 (BC.whole x3)), (700136, Obj.arr 28 x700136s)]
noncomputable def L97a (p0c0 : List UInt8) (p0c1 : Int) (p0c2 : Bool) (v2c0 : Int) (v2c1 : List UInt8) (v2c2 : Int) (v2c3 : Bool) (v2c4 : Int) (v2c5 : List UInt8) (x3 : D) (x700136s : List D) : R := LOOP E (RUN E) 97 Tryz.f97 [1, 1, 0, 0] (h97a p0c0 p0c1 p0c2 v2c0 v2c1 v2c2 v2c3 v2c4 v2c5 x3 x700136s)
def h97ax (p0c0 : List UInt8) (p0c1 : Int) (p0c2 : Bool) (v2c0 : Int) (v2c1 : List UInt8) (v2c2 : Int) (v2c3 : Bool) (v2c4 : Int) (v2c5 : List UInt8) (x3c0 : Int) (x3c1 : List UInt8) (x3c2 : Int) (x3c3 : Bool) (x3c4 : Int) (x3c5 : List UInt8) (x700136s : List D) (x700200s : List D) : St := mkSt 108 [(0, SV.bptr 0 53 0 (KT.agg 53)), (2, SV.bptr 2 28 0 (KT.agg 28)), (3, SV.bptr 3 28 0 (KT.agg 28))] [(0, Obj.box 53 (BC.cells [SV.val KT.str (D.str p0c0), SV.val (KT.int IntKind.i64) (D.int p0c1), SV.val KT.bool (D.bool p0c2)])), (2, Obj.box 28 (BC.cells [SV.val (KT.int IntKind.i64) (D.int v2c0), SV.val KT.str (D.str v2c1), SV.val (KT.int IntKind.i64) (D.int v2c2), SV.val KT.bool (D.bool v2c3), SV.val (KT.int IntKind.i64) (D.int v2c4), SV.val KT.str (D.str v2c5), SV.nil, SV.nil, SV.own 700136])), (3, Obj.box 28 (BC.cells [SV.val (KT.int IntKind.i64) (D.int x3c0), SV.val KT.str (D.str x3c1), SV.val (KT.int IntKind.i64) (D.int x3c2), SV.val KT.bool (D.bool x3c3), SV.val (KT.int IntKind.i64) (D.int x3c4), SV.val KT.str (D.str x3c5), SV.nil, SV.nil, SV.own 700200])), (700136, Obj.arr 28 x700136s), (700200, Obj.arr 28 x700200s)]
noncomputable def L97ax (p0c0 : List UInt8) (p0c1 : Int) (p0c2 : Bool) (v2c0 : Int) (v2c1 : List UInt8) (v2c2 : Int) (v2c3 : Bool) (v2c4 : Int) (v2c5 : List UInt8) (x3c0 : Int) (x3c1 : List UInt8) (x3c2 : Int) (x3c3 : Bool) (x3c4 : Int) (x3c5 : List UInt8) (x700136s : List D) (x700200s : List D) : R := LOOP E (RUN E) 97 Tryz.f97 [1, 1, 0, 0] (h97ax p0c0 p0c1 p0c2 v2c0 v2c1 v2c2 v2c3 v2c4 v2c5 x3c0 x3c1 x3c2 x3c3 x3c4 x3c5 x700136s x700200s)
theorem enter97 (p0c0 : List UInt8) (p0c1 : Int) (p0c2 : Bool) : RUN E 97 [D.agg [D.str p0c0, D.int p0c1, D.bool p0c2]] =
 opt (RUN E 129 [D.agg [D.str p0c0, D.int p0c1, D.bool p0c2]]) fun ρ0 =>
 L97a (D.toStr (D.cell (List.getD ρ0 1 D.no) 0)) (D.toInt (D.cell (List.getD ρ0 1 D.no) 1)) (D.toBool (D.cell (List.getD ρ0 1 D.no) 2)) 0 [] 0 false 0 [] (List.getD ρ0 0 D.no) [] := (RUN_eq _ _ _).trans (by kernel_rfl)
theorem round97a (p0c0 : List UInt8) (p0c1 : Int) (p0c2 : Bool) (v2c0 : Int) (v2c1 : List UInt8) (v2c2 : Int) (v2c3 : Bool) (v2c4 : Int) (v2c5 : List UInt8) (x3 : D) (x700136s : List D) : L97a p0c0 p0c1 p0c2 v2c0 v2c1 v2c2 v2c3 v2c4 v2c5 x3 x700136s =
 cond (bif p0c2 then false else true)
 (cond (bif inb p0c1 (List.length p0c0) then true else bif bif decide (IntKind.wrap IntKind.i64 (p0c1 + 1) < (↑(List.length p0c0) : Int)) then true else false then false else true)
 (cond (bif inb (IntKind.wrap IntKind.i64 (p0c1 + 1)) (List.length p0c0) then true else bif bif bif decide (IntKind.wrap IntKind.i64 (p0c1 + 1) < (↑(List.length p0c0) : Int)) then decide ((↑(UInt8.toNat (List.getD p0c0 (Int.toNat p0c1) 0)) : Int) = 46) else false then true else false then false else true)
 (cond (bif inb (IntKind.wrap IntKind.i64 (p0c1 + 1)) (List.length p0c0) then true else bif bif bif bif decide (IntKind.wrap IntKind.i64 (p0c1 + 1) < (↑(List.length p0c0) : Int)) then decide ((↑(UInt8.toNat (List.getD p0c0 (Int.toNat p0c1) 0)) : Int) = 46) else false then decide (97 ≤ (↑(UInt8.toNat (List.getD p0c0 (Int.toNat (IntKind.wrap IntKind.i64 (p0c1 + 1))) 0)) : Int)) else false then true else false then false else true)
 (cond (bif bif bif decide (IntKind.wrap IntKind.i64 (p0c1 + 1) < (↑(List.length p0c0) : Int)) then decide ((↑(UInt8.toNat (List.getD p0c0 (Int.toNat p0c1) 0)) : Int) = 46) else false then decide (97 ≤ (↑(UInt8.toNat (List.getD p0c0 (Int.toNat (IntKind.wrap IntKind.i64 (p0c1 + 1))) 0)) : Int)) else false then decide ((↑(UInt8.toNat (List.getD p0c0 (Int.toNat (IntKind.wrap IntKind.i64 (p0c1 + 1))) 0)) : Int) ≤ 122) else false)
 (opt (RUN E 48 [D.agg [D.str p0c0, D.int (IntKind.wrap IntKind.i64 (p0c1 + 1)), D.bool p0c2]]) fun ρ5 =>
 opt (RUN E 58 [D.str (D.toStr (List.getD ρ5 0 D.no))]) fun ρ6 =>
 cond (bif D.toBool (List.getD ρ6 0 D.no) then false else true)
 (opt (RUN E 130 [D.agg [D.str (D.toStr (D.cell (List.getD ρ5 1 D.no) 0)), D.int (D.toInt (D.cell (List.getD ρ5 1 D.no) 1)), D.bool (D.toBool (D.cell (List.getD ρ5 1 D.no) 2))]]) fun ρ8 =>
 some [List.getD ρ8 0 D.no, D.agg [D.str (D.toStr (D.cell (List.getD ρ8 1 D.no) 0)), D.int (D.toInt (D.cell (List.getD ρ8 1 D.no) 1)), D.bool (D.toBool (D.cell (List.getD ρ8 1 D.no) 2))]])
 (L97ax (D.toStr (D.cell (List.getD ρ5 1 D.no) 0)) (IntKind.wrap IntKind.i64 (D.toInt (D.cell (List.getD ρ5 1 D.no) 1) + (↑(List.length (D.toStr (List.getD ρ5 0 D.no))) : Int))) (D.toBool (D.cell (List.getD ρ5 1 D.no) 2)) v2c0 v2c1 v2c2 v2c3 v2c4 v2c5 4 (D.toStr (List.getD ρ5 0 D.no)) 0 false 0 [] x700136s [x3]))
 (opt (RUN E 98 [D.agg [D.str p0c0, D.int p0c1, D.bool p0c2], D.str (([91] : List UInt8))]) fun ρ5 =>
 cond (D.toBool (List.getD ρ5 0 D.no))
 (opt (RUN E 27 [D.agg [D.str (D.toStr (D.cell (List.getD ρ5 1 D.no) 0)), D.int (D.toInt (D.cell (List.getD ρ5 1 D.no) 1)), D.bool (D.toBool (D.cell (List.getD ρ5 1 D.no) 2))], D.int 9, D.str (([111, 114] : List UInt8))]) fun ρ7 =>
 opt (RUN E 28 [D.agg [D.str (D.toStr (D.cell (List.getD ρ7 1 D.no) 0)), D.int (D.toInt (D.cell (List.getD ρ7 1 D.no) 1)), D.bool (D.toBool (D.cell (List.getD ρ7 1 D.no) 2))]]) fun ρ8 =>
 opt (RUN E 98 [D.agg [D.str (D.toStr (D.cell (List.getD ρ8 0 D.no) 0)), D.int (D.toInt (D.cell (List.getD ρ8 0 D.no) 1)), D.bool (D.toBool (D.cell (List.getD ρ8 0 D.no) 2))], D.str (([93] : List UInt8))]) fun ρ9 =>
 cond (bif D.toBool (List.getD ρ9 0 D.no) then false else true)
 (opt (RUN E 130 [D.agg [D.str (D.toStr (D.cell (List.getD ρ9 1 D.no) 0)), D.int (D.toInt (D.cell (List.getD ρ9 1 D.no) 1)), D.bool (D.toBool (D.cell (List.getD ρ9 1 D.no) 2))]]) fun ρ11 =>
 some [List.getD ρ11 0 D.no, D.agg [D.str (D.toStr (D.cell (List.getD ρ11 1 D.no) 0)), D.int (D.toInt (D.cell (List.getD ρ11 1 D.no) 1)), D.bool (D.toBool (D.cell (List.getD ρ11 1 D.no) 2))]])
 (L97ax (D.toStr (D.cell (List.getD ρ9 1 D.no) 0)) (D.toInt (D.cell (List.getD ρ9 1 D.no) 1)) (D.toBool (D.cell (List.getD ρ9 1 D.no) 2)) v2c0 v2c1 v2c2 v2c3 v2c4 v2c5 5 [] 0 false 0 [] x700136s [x3, List.getD ρ7 0 D.no]))
 (some [x3, D.agg [D.str (D.toStr (D.cell (List.getD ρ5 1 D.no) 0)), D.int (D.toInt (D.cell (List.getD ρ5 1 D.no) 1)), D.bool (D.toBool (D.cell (List.getD ρ5 1 D.no) 2))]])))
 (none))
 (none))
 (none))
 (some [x3, D.agg [D.str p0c0, D.int p0c1, D.bool p0c2]]) := (LOOP_eq _ _ _ _ _ _).trans (by kernel_rfl)
theorem round97ax (p0c0 : List UInt8) (p0c1 : Int) (p0c2 : Bool) (v2c0 : Int) (v2c1 : List UInt8) (v2c2 : Int) (v2c3 : Bool) (v2c4 : Int) (v2c5 : List UInt8) (x3c0 : Int) (x3c1 : List UInt8) (x3c2 : Int) (x3c3 : Bool) (x3c4 : Int) (x3c5 : List UInt8) (x700136s : List D) (x700200s : List D) : L97ax p0c0 p0c1 p0c2 v2c0 v2c1 v2c2 v2c3 v2c4 v2c5 x3c0 x3c1 x3c2 x3c3 x3c4 x3c5 x700136s x700200s =
 cond (bif p0c2 then false else true)
 (cond (bif inb p0c1 (List.length p0c0) then true else bif bif decide (IntKind.wrap IntKind.i64 (p0c1 + 1) < (↑(List.length p0c0) : Int)) then true else false then false else true)
 (cond (bif inb (IntKind.wrap IntKind.i64 (p0c1 + 1)) (List.length p0c0) then true else bif bif bif decide (IntKind.wrap IntKind.i64 (p0c1 + 1) < (↑(List.length p0c0) : Int)) then decide ((↑(UInt8.toNat (List.getD p0c0 (Int.toNat p0c1) 0)) : Int) = 46) else false then true else false then false else true)
 (cond (bif inb (IntKind.wrap IntKind.i64 (p0c1 + 1)) (List.length p0c0) then true else bif bif bif bif decide (IntKind.wrap IntKind.i64 (p0c1 + 1) < (↑(List.length p0c0) : Int)) then decide ((↑(UInt8.toNat (List.getD p0c0 (Int.toNat p0c1) 0)) : Int) = 46) else false then decide (97 ≤ (↑(UInt8.toNat (List.getD p0c0 (Int.toNat (IntKind.wrap IntKind.i64 (p0c1 + 1))) 0)) : Int)) else false then true else false then false else true)
 (cond (bif bif bif decide (IntKind.wrap IntKind.i64 (p0c1 + 1) < (↑(List.length p0c0) : Int)) then decide ((↑(UInt8.toNat (List.getD p0c0 (Int.toNat p0c1) 0)) : Int) = 46) else false then decide (97 ≤ (↑(UInt8.toNat (List.getD p0c0 (Int.toNat (IntKind.wrap IntKind.i64 (p0c1 + 1))) 0)) : Int)) else false then decide ((↑(UInt8.toNat (List.getD p0c0 (Int.toNat (IntKind.wrap IntKind.i64 (p0c1 + 1))) 0)) : Int) ≤ 122) else false)
 (opt (RUN E 48 [D.agg [D.str p0c0, D.int (IntKind.wrap IntKind.i64 (p0c1 + 1)), D.bool p0c2]]) fun ρ5 =>
 opt (RUN E 58 [D.str (D.toStr (List.getD ρ5 0 D.no))]) fun ρ6 =>
 cond (bif D.toBool (List.getD ρ6 0 D.no) then false else true)
 (opt (RUN E 130 [D.agg [D.str (D.toStr (D.cell (List.getD ρ5 1 D.no) 0)), D.int (D.toInt (D.cell (List.getD ρ5 1 D.no) 1)), D.bool (D.toBool (D.cell (List.getD ρ5 1 D.no) 2))]]) fun ρ8 =>
 some [List.getD ρ8 0 D.no, D.agg [D.str (D.toStr (D.cell (List.getD ρ8 1 D.no) 0)), D.int (D.toInt (D.cell (List.getD ρ8 1 D.no) 1)), D.bool (D.toBool (D.cell (List.getD ρ8 1 D.no) 2))]])
 (L97ax (D.toStr (D.cell (List.getD ρ5 1 D.no) 0)) (IntKind.wrap IntKind.i64 (D.toInt (D.cell (List.getD ρ5 1 D.no) 1) + (↑(List.length (D.toStr (List.getD ρ5 0 D.no))) : Int))) (D.toBool (D.cell (List.getD ρ5 1 D.no) 2)) v2c0 v2c1 v2c2 v2c3 v2c4 v2c5 4 (D.toStr (List.getD ρ5 0 D.no)) 0 false 0 [] x700136s [D.agg [D.int x3c0, D.str x3c1, D.int x3c2, D.bool x3c3, D.int x3c4, D.str x3c5, D.list [], D.list [], D.list x700200s]]))
 (opt (RUN E 98 [D.agg [D.str p0c0, D.int p0c1, D.bool p0c2], D.str (([91] : List UInt8))]) fun ρ5 =>
 cond (D.toBool (List.getD ρ5 0 D.no))
 (opt (RUN E 27 [D.agg [D.str (D.toStr (D.cell (List.getD ρ5 1 D.no) 0)), D.int (D.toInt (D.cell (List.getD ρ5 1 D.no) 1)), D.bool (D.toBool (D.cell (List.getD ρ5 1 D.no) 2))], D.int 9, D.str (([111, 114] : List UInt8))]) fun ρ7 =>
 opt (RUN E 28 [D.agg [D.str (D.toStr (D.cell (List.getD ρ7 1 D.no) 0)), D.int (D.toInt (D.cell (List.getD ρ7 1 D.no) 1)), D.bool (D.toBool (D.cell (List.getD ρ7 1 D.no) 2))]]) fun ρ8 =>
 opt (RUN E 98 [D.agg [D.str (D.toStr (D.cell (List.getD ρ8 0 D.no) 0)), D.int (D.toInt (D.cell (List.getD ρ8 0 D.no) 1)), D.bool (D.toBool (D.cell (List.getD ρ8 0 D.no) 2))], D.str (([93] : List UInt8))]) fun ρ9 =>
 cond (bif D.toBool (List.getD ρ9 0 D.no) then false else true)
 (opt (RUN E 130 [D.agg [D.str (D.toStr (D.cell (List.getD ρ9 1 D.no) 0)), D.int (D.toInt (D.cell (List.getD ρ9 1 D.no) 1)), D.bool (D.toBool (D.cell (List.getD ρ9 1 D.no) 2))]]) fun ρ11 =>
 some [List.getD ρ11 0 D.no, D.agg [D.str (D.toStr (D.cell (List.getD ρ11 1 D.no) 0)), D.int (D.toInt (D.cell (List.getD ρ11 1 D.no) 1)), D.bool (D.toBool (D.cell (List.getD ρ11 1 D.no) 2))]])
 (L97ax (D.toStr (D.cell (List.getD ρ9 1 D.no) 0)) (D.toInt (D.cell (List.getD ρ9 1 D.no) 1)) (D.toBool (D.cell (List.getD ρ9 1 D.no) 2)) v2c0 v2c1 v2c2 v2c3 v2c4 v2c5 5 [] 0 false 0 [] x700136s [D.agg [D.int x3c0, D.str x3c1, D.int x3c2, D.bool x3c3, D.int x3c4, D.str x3c5, D.list [], D.list [], D.list x700200s], List.getD ρ7 0 D.no]))
 (some [D.agg [D.int x3c0, D.str x3c1, D.int x3c2, D.bool x3c3, D.int x3c4, D.str x3c5, D.list [], D.list [], D.list x700200s], D.agg [D.str (D.toStr (D.cell (List.getD ρ5 1 D.no) 0)), D.int (D.toInt (D.cell (List.getD ρ5 1 D.no) 1)), D.bool (D.toBool (D.cell (List.getD ρ5 1 D.no) 2))]])))
 (none))
 (none))
 (none))
 (some [D.agg [D.int x3c0, D.str x3c1, D.int x3c2, D.bool x3c3, D.int x3c4, D.str x3c5, D.list [], D.list [], D.list x700200s], D.agg [D.str p0c0, D.int p0c1, D.bool p0c2]]) := (LOOP_eq _ _ _ _ _ _).trans (by kernel_rfl)
/-! (*masthead/mastref1.scanner).is -/
theorem enter98 (p0c0 : List UInt8) (p0c1 : Int) (p0c2 : Bool) (t1 : List UInt8) : RUN E 98 [D.agg [D.str p0c0, D.int p0c1, D.bool p0c2], D.str t1] =
 cond (cutOk (List.length p0c0) (some p0c1) none)
 (opt (RUN E 131 [D.str (cutL p0c0 (some p0c1) none), D.str t1]) fun ρ1 =>
 cond (D.toBool (List.getD ρ1 0 D.no))
 (some [D.bool true, D.agg [D.str p0c0, D.int (IntKind.wrap IntKind.i64 (p0c1 + (↑(List.length t1) : Int))), D.bool p0c2]])
 (some [D.bool false, D.agg [D.str p0c0, D.int p0c1, D.bool p0c2]]))
 (none) := (RUN_eq _ _ _).trans (by kernel_rfl)
/-! masthead/mastref1.isDigit -/
theorem enter99 (c0 : Int) : RUN E 99 [D.int c0] =
 some [D.bool (bif decide (48 ≤ c0) then decide (c0 ≤ 57) else false)] := (RUN_eq _ _ _).trans (by kernel_rfl)
/-! strings.genSplit -/
def h100a (s0 : List UInt8) (sep1 : List UInt8) (sepSave2 : Int) (n3 : Int) : St := mkSt 66 [(0, SV.val KT.str (D.str s0)), (1, SV.val KT.str (D.str sep1)), (2, SV.val (KT.int IntKind.i64) (D.int sepSave2)), (3, SV.val (KT.int IntKind.i64) (D.int n3))] []
noncomputable def C100a (s0 : List UInt8) (sep1 : List UInt8) (sepSave2 : Int) (n3 : Int) : R := PART E (RUN E) 100 Tryz.f100 [1, 1, 1, 1] (h100a s0 sep1 sepSave2 n3)
def h100b (s0 : List UInt8) (sep1 : List UInt8) (sepSave2 : Int) (n3 : Int) (i10 : Int) (a9s : List D) : St := mkSt 66 [(0, SV.val KT.str (D.str s0)), (1, SV.val KT.str (D.str sep1)), (2, SV.val (KT.int IntKind.i64) (D.int sepSave2)), (3, SV.val (KT.int IntKind.i64) (D.int n3)), (9, SV.own 9), (10, SV.val (KT.int IntKind.i64) (D.int i10))] [(9, Obj.arr 9 a9s)]
noncomputable def L100b (s0 : List UInt8) (sep1 : List UInt8) (sepSave2 : Int) (n3 : Int) (i10 : Int) (a9s : List D) : R := LOOP E (RUN E) 100 Tryz.f100 [1, 1, 1, 1, 1, 1, 1, 1, 0, 0] (h100b s0 sep1 sepSave2 n3 i10 a9s)
theorem enter100 (s0 : List UInt8) (sep1 : List UInt8) (sepSave2 : Int) (n3 : Int) : RUN E 100 [D.str s0, D.str sep1, D.int sepSave2, D.int n3] =
 cond (decide (n3 = 0))
 (some [D.list []])
 (cond (decide (sep1 = ([] : List UInt8)))
 (opt (RUN E 132 [D.str s0, D.int n3]) fun ρ2 =>
 some [D.list (D.toList (List.getD ρ2 0 D.no))])
 (cond (decide (n3 < 0))
 (opt (RUN E 62 [D.str s0, D.str sep1]) fun ρ3 =>
 C100a s0 sep1 sepSave2 (IntKind.wrap IntKind.i64 (D.toInt (List.getD ρ3 0 D.no) + 1)))
 (C100a s0 sep1 sepSave2 n3))) := (RUN_eq _ _ _).trans (by kernel_rfl)
theorem round100a (s0 : List UInt8) (sep1 : List UInt8) (sepSave2 : Int) (n3 : Int) : C100a s0 sep1 sepSave2 n3 =
 cond (bif decide (0 ≤ mmInt false n3 (IntKind.wrap IntKind.i64 ((↑(List.length s0) : Int) + 1))) then bif decide (mmInt false n3 (IntKind.wrap IntKind.i64 ((↑(List.length s0) : Int) + 1)) ≤ mmInt false n3 (IntKind.wrap IntKind.i64 ((↑(List.length s0) : Int) + 1))) then (fun (_ : Unit) => decide (mmInt false n3 (IntKind.wrap IntKind.i64 ((↑(List.length s0) : Int) + 1)) ≤ (↑lim : Int))) () else false else false)
 (L100b s0 sep1 sepSave2 (IntKind.wrap IntKind.i64 (mmInt false n3 (IntKind.wrap IntKind.i64 ((↑(List.length s0) : Int) + 1)) - 1)) 0 (List.replicate (Int.toNat (mmInt false n3 (IntKind.wrap IntKind.i64 ((↑(List.length s0) : Int) + 1)))) (D.str [])))
 (none) := (PART_eq _ _ _ _ _ _).trans (by kernel_rfl)
theorem round100b (s0 : List UInt8) (sep1 : List UInt8) (sepSave2 : Int) (n3 : Int) (i10 : Int) (a9s : List D) : L100b s0 sep1 sepSave2 n3 i10 a9s =
 cond (decide (i10 < n3))
 (opt (RUN E 63 [D.str s0, D.str sep1]) fun ρ1 =>
 cond (decide (D.toInt (List.getD ρ1 0 D.no) < 0))
 (cond (inb i10 (List.length a9s))
 (cond (cutOk (List.length (List.set a9s (Int.toNat i10) (D.str s0))) none (some (IntKind.wrap IntKind.i64 (i10 + 1))))
 (some [D.list (cutL (List.set a9s (Int.toNat i10) (D.str s0)) none (some (IntKind.wrap IntKind.i64 (i10 + 1))))])
 (none))
 (none))
 (cond (cutOk (List.length s0) none (some (IntKind.wrap IntKind.i64 (D.toInt (List.getD ρ1 0 D.no) + sepSave2))))
 (cond (inb i10 (List.length a9s))
 (cond (cutOk (List.length s0) (some (IntKind.wrap IntKind.i64 (D.toInt (List.getD ρ1 0 D.no) + (↑(List.length sep1) : Int)))) none)
 (L100b (cutL s0 (some (IntKind.wrap IntKind.i64 (D.toInt (List.getD ρ1 0 D.no) + (↑(List.length sep1) : Int)))) none) sep1 sepSave2 n3 (IntKind.wrap IntKind.i64 (i10 + 1)) (List.set a9s (Int.toNat i10) (D.str (cutL s0 none (some (IntKind.wrap IntKind.i64 (D.toInt (List.getD ρ1 0 D.no) + sepSave2)))))))
 (none))
 (none))
 (none)))
 (cond (inb i10 (List.length a9s))
 (cond (cutOk (List.length (List.set a9s (Int.toNat i10) (D.str s0))) none (some (IntKind.wrap IntKind.i64 (i10 + 1))))
 (some [D.list (cutL (List.set a9s (Int.toNat i10) (D.str s0)) none (some (IntKind.wrap IntKind.i64 (i10 + 1))))])
 (none))
 (none)) := (LOOP_eq _ _ _ _ _ _).trans (by kernel_rfl)
/-! (*masthead/tmpl.parser).term -/
def h109a (p0c0 : List UInt8) (p0c1 : Int) (p0c2 : Bool) (v2c0 : Int) (v2c1 : List UInt8) (v2c2 : Int) (v2c3 : Bool) (v2c4 : Int) (v2c5 : List UInt8) (x3 : D) (x700136s : List D) : St := mkSt 83 [(0, SV.bptr 0 48 0 (KT.agg 48)), (2, SV.bptr 2 28 0 (KT.agg 28)), (3, SV.bptr 3 28 0 (KT.agg 28))] [(0, Obj.box 48 (BC.cells [SV.val KT.str (D.str p0c0), SV.val (KT.int IntKind.i64) (D.int p0c1), SV.val KT.bool (D.bool p0c2)])), (2, Obj.box 28 (BC.cells [SV.val (KT.int IntKind.i64) (D.int v2c0), SV.val KT.str (D.str v2c1), SV.val (KT.int IntKind.i64) (D.int v2c2), SV.val KT.bool (D.bool v2c3), SV.val (KT.int IntKind.i64) (D.int v2c4), SV.val KT.str (D.str v2c5), SV.nil, SV.nil, SV.own 700136])), (3, Obj.box 28 (BC.whole x3)), (700136, Obj.arr 28 x700136s)]
noncomputable def L109a (p0c0 : List UInt8) (p0c1 : Int) (p0c2 : Bool) (v2c0 : Int) (v2c1 : List UInt8) (v2c2 : Int) (v2c3 : Bool) (v2c4 : Int) (v2c5 : List UInt8) (x3 : D) (x700136s : List D) : R := LOOP E (RUN E) 109 Tryz.f109 [1, 1, 1, 0, 0] (h109a p0c0 p0c1 p0c2 v2c0 v2c1 v2c2 v2c3 v2c4 v2c5 x3 x700136s)
def h109ax (p0c0 : List UInt8) (p0c1 : Int) (p0c2 : Bool) (v2c0 : Int) (v2c1 : List UInt8) (v2c2 : Int) (v2c3 : Bool) (v2c4 : Int) (v2c5 : List UInt8) (x3c0 : Int) (x3c1 : List UInt8) (x3c2 : Int) (x3c3 : Bool) (x3c4 : Int) (x3c5 : List UInt8) (x700136s : List D) (x700200s : List D) : St := mkSt 83 [(0, SV.bptr 0 48 0 (KT.agg 48)), (2, SV.bptr 2 28 0 (KT.agg 28)), (3, SV.bptr 3 28 0 (KT.agg 28))] [(0, Obj.box 48 (BC.cells [SV.val KT.str (D.str p0c0), SV.val (KT.int IntKind.i64) (D.int p0c1), SV.val KT.bool (D.bool p0c2)])), (2, Obj.box 28 (BC.cells [SV.val (KT.int IntKind.i64) (D.int v2c0), SV.val KT.str (D.str v2c1), SV.val (KT.int IntKind.i64) (D.int v2c2), SV.val KT.bool (D.bool v2c3), SV.val (KT.int IntKind.i64) (D.int v2c4), SV.val KT.str (D.str v2c5), SV.nil, SV.nil, SV.own 700136])), (3, Obj.box 28 (BC.cells [SV.val (KT.int IntKind.i64) (D.int x3c0), SV.val KT.str (D.str x3c1), SV.val (KT.int IntKind.i64) (D.int x3c2), SV.val KT.bool (D.bool x3c3), SV.val (KT.int IntKind.i64) (D.int x3c4), SV.val KT.str (D.str x3c5), SV.nil, SV.nil, SV.own 700200])), (700136, Obj.arr 28 x700136s), (700200, Obj.arr 28 x700200s)]
noncomputable def L109ax (p0c0 : List UInt8) (p0c1 : Int) (p0c2 : Bool) (v2c0 : Int) (v2c1 : List UInt8) (v2c2 : Int) (v2c3 : Bool) (v2c4 : Int) (v2c5 : List UInt8) (x3c0 : Int) (x3c1 : List UInt8) (x3c2 : Int) (x3c3 : Bool) (x3c4 : Int) (x3c5 : List UInt8) (x700136s : List D) (x700200s : List D) : R := LOOP E (RUN E) 109 Tryz.f109 [1, 1, 1, 0, 0] (h109ax p0c0 p0c1 p0c2 v2c0 v2c1 v2c2 v2c3 v2c4 v2c5 x3c0 x3c1 x3c2 x3c3 x3c4 x3c5 x700136s x700200s)
theorem enter109 (p0c0 : List UInt8) (p0c1 : Int) (p0c2 : Bool) : RUN E 109 [D.agg [D.str p0c0, D.int p0c1, D.bool p0c2]] =
 opt (RUN E 24 [D.agg [D.str p0c0, D.int p0c1, D.bool p0c2]]) fun ρ0 =>
 opt (RUN E 136 [D.agg [D.str (D.toStr (D.cell (List.getD ρ0 0 D.no) 0)), D.int (D.toInt (D.cell (List.getD ρ0 0 D.no) 1)), D.bool (D.toBool (D.cell (List.getD ρ0 0 D.no) 2))]]) fun ρ1 =>
 L109a (D.toStr (D.cell (List.getD ρ1 1 D.no) 0)) (D.toInt (D.cell (List.getD ρ1 1 D.no) 1)) (D.toBool (D.cell (List.getD ρ1 1 D.no) 2)) 0 [] 0 false 0 [] (List.getD ρ1 0 D.no) [] := (RUN_eq _ _ _).trans (by kernel_rfl)
theorem round109a (p0c0 : List UInt8) (p0c1 : Int) (p0c2 : Bool) (v2c0 : Int) (v2c1 : List UInt8) (v2c2 : Int) (v2c3 : Bool) (v2c4 : Int) (v2c5 : List UInt8) (x3 : D) (x700136s : List D) : L109a p0c0 p0c1 p0c2 v2c0 v2c1 v2c2 v2c3 v2c4 v2c5 x3 x700136s =
 cond (bif p0c2 then false else true)
 (opt (RUN E 137 [D.agg [D.str p0c0, D.int p0c1, D.bool p0c2]]) fun ρ1 =>
 cond (decide (D.toInt (List.getD ρ1 0 D.no) = 46))
 (opt (RUN E 69 [D.agg [D.str (D.toStr (D.cell (List.getD ρ1 1 D.no) 0)), D.int (IntKind.wrap IntKind.i64 (D.toInt (D.cell (List.getD ρ1 1 D.no) 1) + 1)), D.bool (D.toBool (D.cell (List.getD ρ1 1 D.no) 2))]]) fun ρ3 =>
 opt (RUN E 74 [D.str (D.toStr (List.getD ρ3 0 D.no))]) fun ρ4 =>
 cond (bif D.toBool (List.getD ρ4 0 D.no) then false else true)
 (opt (RUN E 138 [D.agg [D.str (D.toStr (D.cell (List.getD ρ3 1 D.no) 0)), D.int (D.toInt (D.cell (List.getD ρ3 1 D.no) 1)), D.bool (D.toBool (D.cell (List.getD ρ3 1 D.no) 2))]]) fun ρ6 =>
 some [List.getD ρ6 0 D.no, D.agg [D.str (D.toStr (D.cell (List.getD ρ6 1 D.no) 0)), D.int (D.toInt (D.cell (List.getD ρ6 1 D.no) 1)), D.bool (D.toBool (D.cell (List.getD ρ6 1 D.no) 2))]])
 (L109ax (D.toStr (D.cell (List.getD ρ3 1 D.no) 0)) (IntKind.wrap IntKind.i64 (D.toInt (D.cell (List.getD ρ3 1 D.no) 1) + (↑(List.length (D.toStr (List.getD ρ3 0 D.no))) : Int))) (D.toBool (D.cell (List.getD ρ3 1 D.no) 2)) v2c0 v2c1 v2c2 v2c3 v2c4 v2c5 4 (D.toStr (List.getD ρ3 0 D.no)) 0 false 0 [] x700136s [x3]))
 (cond (decide (D.toInt (List.getD ρ1 0 D.no) = 91))
 (opt (RUN E 23 [D.agg [D.str (D.toStr (D.cell (List.getD ρ1 1 D.no) 0)), D.int (IntKind.wrap IntKind.i64 (D.toInt (D.cell (List.getD ρ1 1 D.no) 1) + 1)), D.bool (D.toBool (D.cell (List.getD ρ1 1 D.no) 2))]]) fun ρ4 =>
 opt (RUN E 24 [D.agg [D.str (D.toStr (D.cell (List.getD ρ4 1 D.no) 0)), D.int (D.toInt (D.cell (List.getD ρ4 1 D.no) 1)), D.bool (D.toBool (D.cell (List.getD ρ4 1 D.no) 2))]]) fun ρ5 =>
 cond (bif D.toBool (D.cell (List.getD ρ5 0 D.no) 2) then false else true)
 (opt (RUN E 137 [D.agg [D.str (D.toStr (D.cell (List.getD ρ5 0 D.no) 0)), D.int (D.toInt (D.cell (List.getD ρ5 0 D.no) 1)), D.bool (D.toBool (D.cell (List.getD ρ5 0 D.no) 2))]]) fun ρ7 =>
 cond (bif D.toBool (D.cell (List.getD ρ5 0 D.no) 2) then true else bif decide (D.toInt (List.getD ρ7 0 D.no) = 93) then false else true)
 (opt (RUN E 138 [D.agg [D.str (D.toStr (D.cell (List.getD ρ7 1 D.no) 0)), D.int (D.toInt (D.cell (List.getD ρ7 1 D.no) 1)), D.bool (D.toBool (D.cell (List.getD ρ7 1 D.no) 2))]]) fun ρ9 =>
 some [List.getD ρ9 0 D.no, D.agg [D.str (D.toStr (D.cell (List.getD ρ9 1 D.no) 0)), D.int (D.toInt (D.cell (List.getD ρ9 1 D.no) 1)), D.bool (D.toBool (D.cell (List.getD ρ9 1 D.no) 2))]])
 (L109ax (D.toStr (D.cell (List.getD ρ7 1 D.no) 0)) (IntKind.wrap IntKind.i64 (D.toInt (D.cell (List.getD ρ7 1 D.no) 1) + 1)) (D.toBool (D.cell (List.getD ρ7 1 D.no) 2)) v2c0 v2c1 v2c2 v2c3 v2c4 v2c5 5 [] 0 false 0 [] x700136s [x3, List.getD ρ4 0 D.no]))
 (cond (bif D.toBool (D.cell (List.getD ρ5 0 D.no) 2) then true else true)
 (opt (RUN E 138 [D.agg [D.str (D.toStr (D.cell (List.getD ρ5 0 D.no) 0)), D.int (D.toInt (D.cell (List.getD ρ5 0 D.no) 1)), D.bool (D.toBool (D.cell (List.getD ρ5 0 D.no) 2))]]) fun ρ8 =>
 some [List.getD ρ8 0 D.no, D.agg [D.str (D.toStr (D.cell (List.getD ρ8 1 D.no) 0)), D.int (D.toInt (D.cell (List.getD ρ8 1 D.no) 1)), D.bool (D.toBool (D.cell (List.getD ρ8 1 D.no) 2))]])
 (L109ax (D.toStr (D.cell (List.getD ρ5 0 D.no) 0)) (IntKind.wrap IntKind.i64 (D.toInt (D.cell (List.getD ρ5 0 D.no) 1) + 1)) (D.toBool (D.cell (List.getD ρ5 0 D.no) 2)) v2c0 v2c1 v2c2 v2c3 v2c4 v2c5 5 [] 0 false 0 [] x700136s [x3, List.getD ρ4 0 D.no])))
 (some [x3, D.agg [D.str (D.toStr (D.cell (List.getD ρ1 1 D.no) 0)), D.int (D.toInt (D.cell (List.getD ρ1 1 D.no) 1)), D.bool (D.toBool (D.cell (List.getD ρ1 1 D.no) 2))]])))
 (some [x3, D.agg [D.str p0c0, D.int p0c1, D.bool p0c2]]) := (LOOP_eq _ _ _ _ _ _).trans (by kernel_rfl)
theorem round109ax (p0c0 : List UInt8) (p0c1 : Int) (p0c2 : Bool) (v2c0 : Int) (v2c1 : List UInt8) (v2c2 : Int) (v2c3 : Bool) (v2c4 : Int) (v2c5 : List UInt8) (x3c0 : Int) (x3c1 : List UInt8) (x3c2 : Int) (x3c3 : Bool) (x3c4 : Int) (x3c5 : List UInt8) (x700136s : List D) (x700200s : List D) : L109ax p0c0 p0c1 p0c2 v2c0 v2c1 v2c2 v2c3 v2c4 v2c5 x3c0 x3c1 x3c2 x3c3 x3c4 x3c5 x700136s x700200s =
 cond (bif p0c2 then false else true)
 (opt (RUN E 137 [D.agg [D.str p0c0, D.int p0c1, D.bool p0c2]]) fun ρ1 =>
 cond (decide (D.toInt (List.getD ρ1 0 D.no) = 46))
 (opt (RUN E 69 [D.agg [D.str (D.toStr (D.cell (List.getD ρ1 1 D.no) 0)), D.int (IntKind.wrap IntKind.i64 (D.toInt (D.cell (List.getD ρ1 1 D.no) 1) + 1)), D.bool (D.toBool (D.cell (List.getD ρ1 1 D.no) 2))]]) fun ρ3 =>
 opt (RUN E 74 [D.str (D.toStr (List.getD ρ3 0 D.no))]) fun ρ4 =>
 cond (bif D.toBool (List.getD ρ4 0 D.no) then false else true)
 (opt (RUN E 138 [D.agg [D.str (D.toStr (D.cell (List.getD ρ3 1 D.no) 0)), D.int (D.toInt (D.cell (List.getD ρ3 1 D.no) 1)), D.bool (D.toBool (D.cell (List.getD ρ3 1 D.no) 2))]]) fun ρ6 =>
 some [List.getD ρ6 0 D.no, D.agg [D.str (D.toStr (D.cell (List.getD ρ6 1 D.no) 0)), D.int (D.toInt (D.cell (List.getD ρ6 1 D.no) 1)), D.bool (D.toBool (D.cell (List.getD ρ6 1 D.no) 2))]])
 (L109ax (D.toStr (D.cell (List.getD ρ3 1 D.no) 0)) (IntKind.wrap IntKind.i64 (D.toInt (D.cell (List.getD ρ3 1 D.no) 1) + (↑(List.length (D.toStr (List.getD ρ3 0 D.no))) : Int))) (D.toBool (D.cell (List.getD ρ3 1 D.no) 2)) v2c0 v2c1 v2c2 v2c3 v2c4 v2c5 4 (D.toStr (List.getD ρ3 0 D.no)) 0 false 0 [] x700136s [D.agg [D.int x3c0, D.str x3c1, D.int x3c2, D.bool x3c3, D.int x3c4, D.str x3c5, D.list [], D.list [], D.list x700200s]]))
 (cond (decide (D.toInt (List.getD ρ1 0 D.no) = 91))
 (opt (RUN E 23 [D.agg [D.str (D.toStr (D.cell (List.getD ρ1 1 D.no) 0)), D.int (IntKind.wrap IntKind.i64 (D.toInt (D.cell (List.getD ρ1 1 D.no) 1) + 1)), D.bool (D.toBool (D.cell (List.getD ρ1 1 D.no) 2))]]) fun ρ4 =>
 opt (RUN E 24 [D.agg [D.str (D.toStr (D.cell (List.getD ρ4 1 D.no) 0)), D.int (D.toInt (D.cell (List.getD ρ4 1 D.no) 1)), D.bool (D.toBool (D.cell (List.getD ρ4 1 D.no) 2))]]) fun ρ5 =>
 cond (bif D.toBool (D.cell (List.getD ρ5 0 D.no) 2) then false else true)
 (opt (RUN E 137 [D.agg [D.str (D.toStr (D.cell (List.getD ρ5 0 D.no) 0)), D.int (D.toInt (D.cell (List.getD ρ5 0 D.no) 1)), D.bool (D.toBool (D.cell (List.getD ρ5 0 D.no) 2))]]) fun ρ7 =>
 cond (bif D.toBool (D.cell (List.getD ρ5 0 D.no) 2) then true else bif decide (D.toInt (List.getD ρ7 0 D.no) = 93) then false else true)
 (opt (RUN E 138 [D.agg [D.str (D.toStr (D.cell (List.getD ρ7 1 D.no) 0)), D.int (D.toInt (D.cell (List.getD ρ7 1 D.no) 1)), D.bool (D.toBool (D.cell (List.getD ρ7 1 D.no) 2))]]) fun ρ9 =>
 some [List.getD ρ9 0 D.no, D.agg [D.str (D.toStr (D.cell (List.getD ρ9 1 D.no) 0)), D.int (D.toInt (D.cell (List.getD ρ9 1 D.no) 1)), D.bool (D.toBool (D.cell (List.getD ρ9 1 D.no) 2))]])
 (L109ax (D.toStr (D.cell (List.getD ρ7 1 D.no) 0)) (IntKind.wrap IntKind.i64 (D.toInt (D.cell (List.getD ρ7 1 D.no) 1) + 1)) (D.toBool (D.cell (List.getD ρ7 1 D.no) 2)) v2c0 v2c1 v2c2 v2c3 v2c4 v2c5 5 [] 0 false 0 [] x700136s [D.agg [D.int x3c0, D.str x3c1, D.int x3c2, D.bool x3c3, D.int x3c4, D.str x3c5, D.list [], D.list [], D.list x700200s], List.getD ρ4 0 D.no]))
 (cond (bif D.toBool (D.cell (List.getD ρ5 0 D.no) 2) then true else true)
 (opt (RUN E 138 [D.agg [D.str (D.toStr (D.cell (List.getD ρ5 0 D.no) 0)), D.int (D.toInt (D.cell (List.getD ρ5 0 D.no) 1)), D.bool (D.toBool (D.cell (List.getD ρ5 0 D.no) 2))]]) fun ρ8 =>
 some [List.getD ρ8 0 D.no, D.agg [D.str (D.toStr (D.cell (List.getD ρ8 1 D.no) 0)), D.int (D.toInt (D.cell (List.getD ρ8 1 D.no) 1)), D.bool (D.toBool (D.cell (List.getD ρ8 1 D.no) 2))]])
 (L109ax (D.toStr (D.cell (List.getD ρ5 0 D.no) 0)) (IntKind.wrap IntKind.i64 (D.toInt (D.cell (List.getD ρ5 0 D.no) 1) + 1)) (D.toBool (D.cell (List.getD ρ5 0 D.no) 2)) v2c0 v2c1 v2c2 v2c3 v2c4 v2c5 5 [] 0 false 0 [] x700136s [D.agg [D.int x3c0, D.str x3c1, D.int x3c2, D.bool x3c3, D.int x3c4, D.str x3c5, D.list [], D.list [], D.list x700200s], List.getD ρ4 0 D.no])))
 (some [D.agg [D.int x3c0, D.str x3c1, D.int x3c2, D.bool x3c3, D.int x3c4, D.str x3c5, D.list [], D.list [], D.list x700200s], D.agg [D.str (D.toStr (D.cell (List.getD ρ1 1 D.no) 0)), D.int (D.toInt (D.cell (List.getD ρ1 1 D.no) 1)), D.bool (D.toBool (D.cell (List.getD ρ1 1 D.no) 2))]])))
 (some [D.agg [D.int x3c0, D.str x3c1, D.int x3c2, D.bool x3c3, D.int x3c4, D.str x3c5, D.list [], D.list [], D.list x700200s], D.agg [D.str p0c0, D.int p0c1, D.bool p0c2]]) := (LOOP_eq _ _ _ _ _ _).trans (by kernel_rfl)
/-! masthead/tmpl.isDigit -/
theorem enter110 (c0 : Int) : RUN E 110 [D.int c0] =
 some [D.bool (bif decide (48 ≤ c0) then decide (c0 ≤ 57) else false)] := (RUN_eq _ _ _).trans (by kernel_rfl)
/-! (*masthead/mastref1.scanner).primary -/
theorem enter129 (p0c0 : List UInt8) (p0c1 : Int) (p0c2 : Bool) : RUN E 129 [D.agg [D.str p0c0, D.int p0c1, D.bool p0c2]] =
 opt (RUN E 28 [D.agg [D.str p0c0, D.int p0c1, D.bool p0c2]]) fun ρ0 =>
 cond (decide ((↑(List.length (D.toStr (D.cell (List.getD ρ0 0 D.no) 0))) : Int) ≤ D.toInt (D.cell (List.getD ρ0 0 D.no) 1)))
 (opt (RUN E 130 [D.agg [D.str (D.toStr (D.cell (List.getD ρ0 0 D.no) 0)), D.int (D.toInt (D.cell (List.getD ρ0 0 D.no) 1)), D.bool (D.toBool (D.cell (List.getD ρ0 0 D.no) 2))]]) fun ρ2 =>
 some [List.getD ρ2 0 D.no, D.agg [D.str (D.toStr (D.cell (List.getD ρ2 1 D.no) 0)), D.int (D.toInt (D.cell (List.getD ρ2 1 D.no) 1)), D.bool (D.toBool (D.cell (List.getD ρ2 1 D.no) 2))]])
 (cond (inb (D.toInt (D.cell (List.getD ρ0 0 D.no) 1)) (List.length (D.toStr (D.cell (List.getD ρ0 0 D.no) 0))))
 (cond (decide ((↑(UInt8.toNat (List.getD (D.toStr (D.cell (List.getD ρ0 0 D.no) 0)) (Int.toNat (D.toInt (D.cell (List.getD ρ0 0 D.no) 1))) 0)) : Int) = 34))
 (opt (RUN E 152 [D.agg [D.str (D.toStr (D.cell (List.getD ρ0 0 D.no) 0)), D.int (D.toInt (D.cell (List.getD ρ0 0 D.no) 1)), D.bool (D.toBool (D.cell (List.getD ρ0 0 D.no) 2))]]) fun ρ4 =>
 some [List.getD ρ4 0 D.no, D.agg [D.str (D.toStr (D.cell (List.getD ρ4 1 D.no) 0)), D.int (D.toInt (D.cell (List.getD ρ4 1 D.no) 1)), D.bool (D.toBool (D.cell (List.getD ρ4 1 D.no) 2))]])
 (opt (cond (bif decide ((↑(UInt8.toNat (List.getD (D.toStr (D.cell (List.getD ρ0 0 D.no) 0)) (Int.toNat (D.toInt (D.cell (List.getD ρ0 0 D.no) 1))) 0)) : Int) = 45) then false else true)
 (RUN E 99 [D.int (↑(UInt8.toNat (List.getD (D.toStr (D.cell (List.getD ρ0 0 D.no) 0)) (Int.toNat (D.toInt (D.cell (List.getD ρ0 0 D.no) 1))) 0)) : Int)])
 (some [])) fun ρ4 =>
 cond (bif decide ((↑(UInt8.toNat (List.getD (D.toStr (D.cell (List.getD ρ0 0 D.no) 0)) (Int.toNat (D.toInt (D.cell (List.getD ρ0 0 D.no) 1))) 0)) : Int) = 45) then true else D.toBool (List.getD ρ4 0 D.no))
 (opt (RUN E 153 [D.agg [D.str (D.toStr (D.cell (List.getD ρ0 0 D.no) 0)), D.int (D.toInt (D.cell (List.getD ρ0 0 D.no) 1)), D.bool (D.toBool (D.cell (List.getD ρ0 0 D.no) 2))]]) fun ρ6 =>
 some [List.getD ρ6 0 D.no, D.agg [D.str (D.toStr (D.cell (List.getD ρ6 1 D.no) 0)), D.int (D.toInt (D.cell (List.getD ρ6 1 D.no) 1)), D.bool (D.toBool (D.cell (List.getD ρ6 1 D.no) 2))]])
 (cond (decide ((↑(UInt8.toNat (List.getD (D.toStr (D.cell (List.getD ρ0 0 D.no) 0)) (Int.toNat (D.toInt (D.cell (List.getD ρ0 0 D.no) 1))) 0)) : Int) = 46))
 (opt (RUN E 48 [D.agg [D.str (D.toStr (D.cell (List.getD ρ0 0 D.no) 0)), D.int (IntKind.wrap IntKind.i64 (D.toInt (D.cell (List.getD ρ0 0 D.no) 1) + 1)), D.bool (D.toBool (D.cell (List.getD ρ0 0 D.no) 2))]]) fun ρ7 =>
 opt (cond (bif bif decide (D.toStr (List.getD ρ7 0 D.no) = ([] : List UInt8)) then false else true then true else false)
 (RUN E 58 [D.str (D.toStr (List.getD ρ7 0 D.no))])
 (some [])) fun ρ8 =>
 cond (bif bif decide (D.toStr (List.getD ρ7 0 D.no) = ([] : List UInt8)) then false else true then D.toBool (List.getD ρ8 0 D.no) else false)
 (some [D.agg [D.int 4, D.str (D.toStr (List.getD ρ7 0 D.no)), D.int 0, D.bool false, D.int 0, D.str [], D.list [], D.list [], D.list [D.agg [D.int 2, D.str [], D.int 0, D.bool false, D.int 0, D.str [], D.list [], D.list [], D.list []]]], D.agg [D.str (D.toStr (D.cell (List.getD ρ7 1 D.no) 0)), D.int (IntKind.wrap IntKind.i64 (D.toInt (D.cell (List.getD ρ7 1 D.no) 1) + (↑(List.length (D.toStr (List.getD ρ7 0 D.no))) : Int))), D.bool (D.toBool (D.cell (List.getD ρ7 1 D.no) 2))]])
 (some [D.agg [D.int 2, D.str [], D.int 0, D.bool false, D.int 0, D.str [], D.list [], D.list [], D.list []], D.agg [D.str (D.toStr (D.cell (List.getD ρ7 1 D.no) 0)), D.int (D.toInt (D.cell (List.getD ρ7 1 D.no) 1)), D.bool (D.toBool (D.cell (List.getD ρ7 1 D.no) 2))]]))
 (cond (decide ((↑(UInt8.toNat (List.getD (D.toStr (D.cell (List.getD ρ0 0 D.no) 0)) (Int.toNat (D.toInt (D.cell (List.getD ρ0 0 D.no) 1))) 0)) : Int) = 36))
 (opt (RUN E 48 [D.agg [D.str (D.toStr (D.cell (List.getD ρ0 0 D.no) 0)), D.int (IntKind.wrap IntKind.i64 (D.toInt (D.cell (List.getD ρ0 0 D.no) 1) + 1)), D.bool (D.toBool (D.cell (List.getD ρ0 0 D.no) 2))]]) fun ρ8 =>
 opt (RUN E 58 [D.str (D.toStr (List.getD ρ8 0 D.no))]) fun ρ9 =>
 cond (bif D.toBool (List.getD ρ9 0 D.no) then false else true)
 (opt (RUN E 130 [D.agg [D.str (D.toStr (D.cell (List.getD ρ8 1 D.no) 0)), D.int (D.toInt (D.cell (List.getD ρ8 1 D.no) 1)), D.bool (D.toBool (D.cell (List.getD ρ8 1 D.no) 2))]]) fun ρ11 =>
 some [List.getD ρ11 0 D.no, D.agg [D.str (D.toStr (D.cell (List.getD ρ11 1 D.no) 0)), D.int (D.toInt (D.cell (List.getD ρ11 1 D.no) 1)), D.bool (D.toBool (D.cell (List.getD ρ11 1 D.no) 2))]])
 (some [D.agg [D.int 3, D.str (D.toStr (List.getD ρ8 0 D.no)), D.int 0, D.bool false, D.int 0, D.str [], D.list [], D.list [], D.list []], D.agg [D.str (D.toStr (D.cell (List.getD ρ8 1 D.no) 0)), D.int (IntKind.wrap IntKind.i64 (D.toInt (D.cell (List.getD ρ8 1 D.no) 1) + (↑(List.length (D.toStr (List.getD ρ8 0 D.no))) : Int))), D.bool (D.toBool (D.cell (List.getD ρ8 1 D.no) 2))]]))
 (opt (RUN E 98 [D.agg [D.str (D.toStr (D.cell (List.getD ρ0 0 D.no) 0)), D.int (D.toInt (D.cell (List.getD ρ0 0 D.no) 1)), D.bool (D.toBool (D.cell (List.getD ρ0 0 D.no) 2))], D.str (([40] : List UInt8))]) fun ρ8 =>
 cond (D.toBool (List.getD ρ8 0 D.no))
 (opt (RUN E 27 [D.agg [D.str (D.toStr (D.cell (List.getD ρ8 1 D.no) 0)), D.int (D.toInt (D.cell (List.getD ρ8 1 D.no) 1)), D.bool (D.toBool (D.cell (List.getD ρ8 1 D.no) 2))], D.int 9, D.str (([111, 114] : List UInt8))]) fun ρ10 =>
 opt (RUN E 28 [D.agg [D.str (D.toStr (D.cell (List.getD ρ10 1 D.no) 0)), D.int (D.toInt (D.cell (List.getD ρ10 1 D.no) 1)), D.bool (D.toBool (D.cell (List.getD ρ10 1 D.no) 2))]]) fun ρ11 =>
 opt (RUN E 98 [D.agg [D.str (D.toStr (D.cell (List.getD ρ11 0 D.no) 0)), D.int (D.toInt (D.cell (List.getD ρ11 0 D.no) 1)), D.bool (D.toBool (D.cell (List.getD ρ11 0 D.no) 2))], D.str (([41] : List UInt8))]) fun ρ12 =>
 cond (bif D.toBool (List.getD ρ12 0 D.no) then false else true)
 (opt (RUN E 130 [D.agg [D.str (D.toStr (D.cell (List.getD ρ12 1 D.no) 0)), D.int (D.toInt (D.cell (List.getD ρ12 1 D.no) 1)), D.bool (D.toBool (D.cell (List.getD ρ12 1 D.no) 2))]]) fun ρ14 =>
 some [List.getD ρ14 0 D.no, D.agg [D.str (D.toStr (D.cell (List.getD ρ14 1 D.no) 0)), D.int (D.toInt (D.cell (List.getD ρ14 1 D.no) 1)), D.bool (D.toBool (D.cell (List.getD ρ14 1 D.no) 2))]])
 (some [List.getD ρ10 0 D.no, D.agg [D.str (D.toStr (D.cell (List.getD ρ12 1 D.no) 0)), D.int (D.toInt (D.cell (List.getD ρ12 1 D.no) 1)), D.bool (D.toBool (D.cell (List.getD ρ12 1 D.no) 2))]]))
 (opt (RUN E 154 [D.agg [D.str (D.toStr (D.cell (List.getD ρ8 1 D.no) 0)), D.int (D.toInt (D.cell (List.getD ρ8 1 D.no) 1)), D.bool (D.toBool (D.cell (List.getD ρ8 1 D.no) 2))]]) fun ρ10 =>
 some [List.getD ρ10 0 D.no, D.agg [D.str (D.toStr (D.cell (List.getD ρ10 1 D.no) 0)), D.int (D.toInt (D.cell (List.getD ρ10 1 D.no) 1)), D.bool (D.toBool (D.cell (List.getD ρ10 1 D.no) 2))]]))))))
 (none)) := (RUN_eq _ _ _).trans (by kernel_rfl)
/-! masthead/mastref1.IsName -/
def h58a (s0 : List UInt8) (i3 : Int) : St := mkSt 45 [(0, SV.val KT.str (D.str s0)), (3, SV.val (KT.int IntKind.i64) (D.int i3))] []
noncomputable def L58a (s0 : List UInt8) (i3 : Int) : R := LOOP E (RUN E) 58 Tryz.f58 [1, 1, 0, 1, 0] (h58a s0 i3)
def h58b (s0 : List UInt8) (v35 : List D) (v36 : Int) (v37 : Int) : St := mkSt 45 [(0, SV.val KT.str (D.str s0)), (35, SV.val (KT.slice 9) (D.list v35)), (36, SV.val (KT.int IntKind.i64) (D.int v36)), (37, SV.val (KT.int IntKind.i64) (D.int v37))] []
noncomputable def L58b (s0 : List UInt8) (v35 : List D) (v36 : Int) (v37 : Int) : R := LOOP E (RUN E) 58 Tryz.f58 [1, 1, 1, 0, 1, 0] (h58b s0 v35 v36 v37)
theorem enter58 (s0 : List UInt8) : RUN E 58 [D.str s0] =
 cond (bif inb 0 (List.length s0) then true else bif bif bif decide ((↑(List.length s0) : Int) < 1) then true else decide (20 < (↑(List.length s0) : Int)) then false else true then false else true)
 (cond (bif inb 0 (List.length s0) then true else bif bif bif bif decide ((↑(List.length s0) : Int) < 1) then true else decide (20 < (↑(List.length s0) : Int)) then true else decide ((↑(UInt8.toNat (List.getD s0 0 0)) : Int) < 97) then false else true then false else true)
 (cond (bif bif bif decide ((↑(List.length s0) : Int) < 1) then true else decide (20 < (↑(List.length s0) : Int)) then true else decide ((↑(UInt8.toNat (List.getD s0 0 0)) : Int) < 97) then true else decide (122 < (↑(UInt8.toNat (List.getD s0 0 0)) : Int)))
 (some [D.bool false])
 (L58a s0 0))
 (none))
 (none) := (RUN_eq _ _ _).trans (by kernel_rfl)
theorem round58a (s0 : List UInt8) (i3 : Int) : L58a s0 i3 =
 cond (decide (i3 < (↑(List.length s0) : Int)))
 (cond (inb i3 (List.length s0))
 (opt (RUN E 72 [D.int (↑(UInt8.toNat (List.getD s0 (Int.toNat i3) 0)) : Int)]) fun ρ2 =>
 cond (bif D.toBool (List.getD ρ2 0 D.no) then false else true)
 (some [D.bool false])
 (L58a s0 (IntKind.wrap IntKind.i64 (i3 + 1))))
 (none))
 (opt (RUN E 73 [D.str (([105, 102, 32, 101, 97, 99, 104, 32, 119, 105, 116, 104, 32, 108, 101, 116, 32, 99, 97, 108, 108, 32, 101, 108, 115, 101, 32, 101, 110, 100, 32, 105, 110, 32, 97, 110, 100, 32, 111, 114, 32, 110, 111, 116, 32, 116, 114, 117, 101, 32, 102, 97, 108, 115, 101, 32, 110, 105, 108] : List UInt8)), D.str (([32] : List UInt8))]) fun ρ1 =>
 L58b s0 (D.toList (List.getD ρ1 0 D.no)) ((↑(List.length (D.toList (List.getD ρ1 0 D.no))) : Int)) 0) := (LOOP_eq _ _ _ _ _ _).trans (by kernel_rfl)
theorem round58b (s0 : List UInt8) (v35 : List D) (v36 : Int) (v37 : Int) : L58b s0 v35 v36 v37 =
 cond (decide (v37 < v36))
 (cond (inb v37 (List.length v35))
 (cond (decide (s0 = D.toStr (List.getD v35 (Int.toNat v37) D.no)))
 (some [D.bool false])
 (L58b s0 v35 v36 (IntKind.wrap IntKind.i64 (v37 + 1))))
 (none))
 (some [D.bool true]) := (LOOP_eq _ _ _ _ _ _).trans (by kernel_rfl)
/-! (*masthead/mastref1.scanner).fail -/
theorem enter130 (p0c0 : List UInt8) (p0c1 : Int) (p0c2 : Bool) : RUN E 130 [D.agg [D.str p0c0, D.int p0c1, D.bool p0c2]] =
 some [D.agg [D.int 0, D.str [], D.int 0, D.bool false, D.int 0, D.str [], D.list [], D.list [], D.list []], D.agg [D.str p0c0, D.int (↑(List.length p0c0) : Int), D.bool true]] := (RUN_eq _ _ _).trans (by kernel_rfl)
/-! strings.HasPrefix -/
theorem enter131 (s0 : List UInt8) (prefix1 : List UInt8) : RUN E 131 [D.str s0, D.str prefix1] =
 opt (RUN E 155 [D.str s0, D.str prefix1]) fun ρ0 =>
 some [D.bool (D.toBool (List.getD ρ0 0 D.no))] := (RUN_eq _ _ _).trans (by kernel_rfl)
/-! (*masthead/tmpl.parser).primary -/
theorem enter136 (p0c0 : List UInt8) (p0c1 : Int) (p0c2 : Bool) : RUN E 136 [D.agg [D.str p0c0, D.int p0c1, D.bool p0c2]] =
 opt (RUN E 137 [D.agg [D.str p0c0, D.int p0c1, D.bool p0c2]]) fun ρ0 =>
 cond (decide (D.toInt (List.getD ρ0 0 D.no) = 34))
 (opt (RUN E 156 [D.agg [D.str (D.toStr (D.cell (List.getD ρ0 1 D.no) 0)), D.int (D.toInt (D.cell (List.getD ρ0 1 D.no) 1)), D.bool (D.toBool (D.cell (List.getD ρ0 1 D.no) 2))]]) fun ρ2 =>
 some [List.getD ρ2 0 D.no, D.agg [D.str (D.toStr (D.cell (List.getD ρ2 1 D.no) 0)), D.int (D.toInt (D.cell (List.getD ρ2 1 D.no) 1)), D.bool (D.toBool (D.cell (List.getD ρ2 1 D.no) 2))]])
 (opt (cond (bif decide (D.toInt (List.getD ρ0 0 D.no) = 45) then false else true)
 (RUN E 110 [D.int (D.toInt (List.getD ρ0 0 D.no))])
 (some [])) fun ρ2 =>
 cond (bif decide (D.toInt (List.getD ρ0 0 D.no) = 45) then true else D.toBool (List.getD ρ2 0 D.no))
 (opt (RUN E 157 [D.agg [D.str (D.toStr (D.cell (List.getD ρ0 1 D.no) 0)), D.int (D.toInt (D.cell (List.getD ρ0 1 D.no) 1)), D.bool (D.toBool (D.cell (List.getD ρ0 1 D.no) 2))]]) fun ρ4 =>
 some [List.getD ρ4 0 D.no, D.agg [D.str (D.toStr (D.cell (List.getD ρ4 1 D.no) 0)), D.int (D.toInt (D.cell (List.getD ρ4 1 D.no) 1)), D.bool (D.toBool (D.cell (List.getD ρ4 1 D.no) 2))]])
 (cond (decide (D.toInt (List.getD ρ0 0 D.no) = 46))
 (opt (RUN E 69 [D.agg [D.str (D.toStr (D.cell (List.getD ρ0 1 D.no) 0)), D.int (IntKind.wrap IntKind.i64 (D.toInt (D.cell (List.getD ρ0 1 D.no) 1) + 1)), D.bool (D.toBool (D.cell (List.getD ρ0 1 D.no) 2))]]) fun ρ5 =>
 opt (RUN E 74 [D.str (D.toStr (List.getD ρ5 0 D.no))]) fun ρ6 =>
 cond (D.toBool (List.getD ρ6 0 D.no))
 (some [D.agg [D.int 4, D.str (D.toStr (List.getD ρ5 0 D.no)), D.int 0, D.bool false, D.int 0, D.str [], D.list [], D.list [], D.list [D.agg [D.int 2, D.str [], D.int 0, D.bool false, D.int 0, D.str [], D.list [], D.list [], D.list []]]], D.agg [D.str (D.toStr (D.cell (List.getD ρ5 1 D.no) 0)), D.int (IntKind.wrap IntKind.i64 (D.toInt (D.cell (List.getD ρ5 1 D.no) 1) + (↑(List.length (D.toStr (List.getD ρ5 0 D.no))) : Int))), D.bool (D.toBool (D.cell (List.getD ρ5 1 D.no) 2))]])
 (some [D.agg [D.int 2, D.str [], D.int 0, D.bool false, D.int 0, D.str [], D.list [], D.list [], D.list []], D.agg [D.str (D.toStr (D.cell (List.getD ρ5 1 D.no) 0)), D.int (D.toInt (D.cell (List.getD ρ5 1 D.no) 1)), D.bool (D.toBool (D.cell (List.getD ρ5 1 D.no) 2))]]))
 (cond (decide (D.toInt (List.getD ρ0 0 D.no) = 36))
 (opt (RUN E 69 [D.agg [D.str (D.toStr (D.cell (List.getD ρ0 1 D.no) 0)), D.int (IntKind.wrap IntKind.i64 (D.toInt (D.cell (List.getD ρ0 1 D.no) 1) + 1)), D.bool (D.toBool (D.cell (List.getD ρ0 1 D.no) 2))]]) fun ρ6 =>
 opt (RUN E 74 [D.str (D.toStr (List.getD ρ6 0 D.no))]) fun ρ7 =>
 cond (bif D.toBool (List.getD ρ7 0 D.no) then false else true)
 (opt (RUN E 138 [D.agg [D.str (D.toStr (D.cell (List.getD ρ6 1 D.no) 0)), D.int (D.toInt (D.cell (List.getD ρ6 1 D.no) 1)), D.bool (D.toBool (D.cell (List.getD ρ6 1 D.no) 2))]]) fun ρ9 =>
 some [List.getD ρ9 0 D.no, D.agg [D.str (D.toStr (D.cell (List.getD ρ9 1 D.no) 0)), D.int (D.toInt (D.cell (List.getD ρ9 1 D.no) 1)), D.bool (D.toBool (D.cell (List.getD ρ9 1 D.no) 2))]])
 (some [D.agg [D.int 3, D.str (D.toStr (List.getD ρ6 0 D.no)), D.int 0, D.bool false, D.int 0, D.str [], D.list [], D.list [], D.list []], D.agg [D.str (D.toStr (D.cell (List.getD ρ6 1 D.no) 0)), D.int (IntKind.wrap IntKind.i64 (D.toInt (D.cell (List.getD ρ6 1 D.no) 1) + (↑(List.length (D.toStr (List.getD ρ6 0 D.no))) : Int))), D.bool (D.toBool (D.cell (List.getD ρ6 1 D.no) 2))]]))
 (cond (decide (D.toInt (List.getD ρ0 0 D.no) = 40))
 (opt (RUN E 23 [D.agg [D.str (D.toStr (D.cell (List.getD ρ0 1 D.no) 0)), D.int (IntKind.wrap IntKind.i64 (D.toInt (D.cell (List.getD ρ0 1 D.no) 1) + 1)), D.bool (D.toBool (D.cell (List.getD ρ0 1 D.no) 2))]]) fun ρ7 =>
 opt (RUN E 24 [D.agg [D.str (D.toStr (D.cell (List.getD ρ7 1 D.no) 0)), D.int (D.toInt (D.cell (List.getD ρ7 1 D.no) 1)), D.bool (D.toBool (D.cell (List.getD ρ7 1 D.no) 2))]]) fun ρ8 =>
 cond (bif D.toBool (D.cell (List.getD ρ8 0 D.no) 2) then false else true)
 (opt (RUN E 137 [D.agg [D.str (D.toStr (D.cell (List.getD ρ8 0 D.no) 0)), D.int (D.toInt (D.cell (List.getD ρ8 0 D.no) 1)), D.bool (D.toBool (D.cell (List.getD ρ8 0 D.no) 2))]]) fun ρ10 =>
 cond (bif D.toBool (D.cell (List.getD ρ8 0 D.no) 2) then true else bif decide (D.toInt (List.getD ρ10 0 D.no) = 41) then false else true)
 (opt (RUN E 138 [D.agg [D.str (D.toStr (D.cell (List.getD ρ10 1 D.no) 0)), D.int (D.toInt (D.cell (List.getD ρ10 1 D.no) 1)), D.bool (D.toBool (D.cell (List.getD ρ10 1 D.no) 2))]]) fun ρ12 =>
 some [List.getD ρ12 0 D.no, D.agg [D.str (D.toStr (D.cell (List.getD ρ12 1 D.no) 0)), D.int (D.toInt (D.cell (List.getD ρ12 1 D.no) 1)), D.bool (D.toBool (D.cell (List.getD ρ12 1 D.no) 2))]])
 (some [List.getD ρ7 0 D.no, D.agg [D.str (D.toStr (D.cell (List.getD ρ10 1 D.no) 0)), D.int (IntKind.wrap IntKind.i64 (D.toInt (D.cell (List.getD ρ10 1 D.no) 1) + 1)), D.bool (D.toBool (D.cell (List.getD ρ10 1 D.no) 2))]]))
 (cond (bif D.toBool (D.cell (List.getD ρ8 0 D.no) 2) then true else true)
 (opt (RUN E 138 [D.agg [D.str (D.toStr (D.cell (List.getD ρ8 0 D.no) 0)), D.int (D.toInt (D.cell (List.getD ρ8 0 D.no) 1)), D.bool (D.toBool (D.cell (List.getD ρ8 0 D.no) 2))]]) fun ρ11 =>
 some [List.getD ρ11 0 D.no, D.agg [D.str (D.toStr (D.cell (List.getD ρ11 1 D.no) 0)), D.int (D.toInt (D.cell (List.getD ρ11 1 D.no) 1)), D.bool (D.toBool (D.cell (List.getD ρ11 1 D.no) 2))]])
 (some [List.getD ρ7 0 D.no, D.agg [D.str (D.toStr (D.cell (List.getD ρ8 0 D.no) 0)), D.int (IntKind.wrap IntKind.i64 (D.toInt (D.cell (List.getD ρ8 0 D.no) 1) + 1)), D.bool (D.toBool (D.cell (List.getD ρ8 0 D.no) 2))]])))
 (opt (RUN E 158 [D.agg [D.str (D.toStr (D.cell (List.getD ρ0 1 D.no) 0)), D.int (D.toInt (D.cell (List.getD ρ0 1 D.no) 1)), D.bool (D.toBool (D.cell (List.getD ρ0 1 D.no) 2))]]) fun ρ7 =>
 some [List.getD ρ7 0 D.no, D.agg [D.str (D.toStr (D.cell (List.getD ρ7 1 D.no) 0)), D.int (D.toInt (D.cell (List.getD ρ7 1 D.no) 1)), D.bool (D.toBool (D.cell (List.getD ρ7 1 D.no) 2))]]))))) := (RUN_eq _ _ _).trans (by kernel_rfl)
/-! (*masthead/tmpl.parser).peek -/
theorem enter137 (p0c0 : List UInt8) (p0c1 : Int) (p0c2 : Bool) : RUN E 137 [D.agg [D.str p0c0, D.int p0c1, D.bool p0c2]] =
 cond (decide (p0c1 < (↑(List.length p0c0) : Int)))
 (cond (inb p0c1 (List.length p0c0))
 (some [D.int (↑(UInt8.toNat (List.getD p0c0 (Int.toNat p0c1) 0)) : Int), D.agg [D.str p0c0, D.int p0c1, D.bool p0c2]])
 (none))
 (some [D.int 0, D.agg [D.str p0c0, D.int p0c1, D.bool p0c2]]) := (RUN_eq _ _ _).trans (by kernel_rfl)
/-! masthead/tmpl.isName -/
def h74a (s0 : List UInt8) (i3 : Int) : St := mkSt 44 [(0, SV.val KT.str (D.str s0)), (3, SV.val (KT.int IntKind.i64) (D.int i3))] []
noncomputable def L74a (s0 : List UInt8) (i3 : Int) : R := LOOP E (RUN E) 74 Tryz.f74 [1, 1, 0, 1, 0] (h74a s0 i3)
theorem enter74 (s0 : List UInt8) : RUN E 74 [D.str s0] =
 cond (bif inb 0 (List.length s0) then true else bif bif bif decide (s0 = ([] : List UInt8)) then true else decide (20 < (↑(List.length s0) : Int)) then false else true then false else true)
 (opt (cond (bif bif decide (s0 = ([] : List UInt8)) then true else decide (20 < (↑(List.length s0) : Int)) then false else true)
 (RUN E 87 [D.int (↑(UInt8.toNat (List.getD s0 0 0)) : Int)])
 (some [])) fun ρ1 =>
 cond (bif bif decide (s0 = ([] : List UInt8)) then true else decide (20 < (↑(List.length s0) : Int)) then true else bif D.toBool (List.getD ρ1 0 D.no) then false else true)
 (some [D.bool false])
 (L74a s0 0))
 (none) := (RUN_eq _ _ _).trans (by kernel_rfl)
theorem round74a (s0 : List UInt8) (i3 : Int) : L74a s0 i3 =
 cond (decide (i3 < (↑(List.length s0) : Int)))
 (cond (inb i3 (List.length s0))
 (opt (RUN E 88 [D.int (↑(UInt8.toNat (List.getD s0 (Int.toNat i3) 0)) : Int)]) fun ρ2 =>
 cond (bif D.toBool (List.getD ρ2 0 D.no) then false else true)
 (some [D.bool false])
 (L74a s0 (IntKind.wrap IntKind.i64 (i3 + 1))))
 (none))
 (cond (decide (s0 = ([105, 102] : List UInt8)))
 (cond (decide (s0 = ([105, 102] : List UInt8)))
 (some [D.bool false])
 (some [D.bool true]))
 (cond (decide (s0 = ([101, 97, 99, 104] : List UInt8)))
 (cond (decide (s0 = ([101, 97, 99, 104] : List UInt8)))
 (some [D.bool false])
 (some [D.bool true]))
 (cond (decide (s0 = ([119, 105, 116, 104] : List UInt8)))
 (cond (decide (s0 = ([119, 105, 116, 104] : List UInt8)))
 (some [D.bool false])
 (some [D.bool true]))
 (cond (decide (s0 = ([108, 101, 116] : List UInt8)))
 (cond (decide (s0 = ([108, 101, 116] : List UInt8)))
 (some [D.bool false])
 (some [D.bool true]))
 (cond (decide (s0 = ([99, 97, 108, 108] : List UInt8)))
 (cond (decide (s0 = ([99, 97, 108, 108] : List UInt8)))
 (some [D.bool false])
 (some [D.bool true]))
 (cond (decide (s0 = ([101, 108, 115, 101] : List UInt8)))
 (cond (decide (s0 = ([101, 108, 115, 101] : List UInt8)))
 (some [D.bool false])
 (some [D.bool true]))
 (cond (decide (s0 = ([101, 110, 100] : List UInt8)))
 (cond (decide (s0 = ([101, 110, 100] : List UInt8)))
 (some [D.bool false])
 (some [D.bool true]))
 (cond (decide (s0 = ([105, 110] : List UInt8)))
 (cond (decide (s0 = ([105, 110] : List UInt8)))
 (some [D.bool false])
 (some [D.bool true]))
 (cond (decide (s0 = ([97, 110, 100] : List UInt8)))
 (cond (decide (s0 = ([97, 110, 100] : List UInt8)))
 (some [D.bool false])
 (some [D.bool true]))
 (cond (decide (s0 = ([111, 114] : List UInt8)))
 (cond (decide (s0 = ([111, 114] : List UInt8)))
 (some [D.bool false])
 (some [D.bool true]))
 (cond (decide (s0 = ([110, 111, 116] : List UInt8)))
 (cond (decide (s0 = ([110, 111, 116] : List UInt8)))
 (some [D.bool false])
 (some [D.bool true]))
 (cond (decide (s0 = ([116, 114, 117, 101] : List UInt8)))
 (cond (decide (s0 = ([116, 114, 117, 101] : List UInt8)))
 (some [D.bool false])
 (some [D.bool true]))
 (cond (decide (s0 = ([102, 97, 108, 115, 101] : List UInt8)))
 (cond (decide (s0 = ([102, 97, 108, 115, 101] : List UInt8)))
 (some [D.bool false])
 (some [D.bool true]))
 (cond (decide (s0 = ([110, 105, 108] : List UInt8)))
 (some [D.bool false])
 (some [D.bool true]))))))))))))))) := (LOOP_eq _ _ _ _ _ _).trans (by kernel_rfl)
/-! (*masthead/tmpl.parser).fail -/
theorem enter138 (p0c0 : List UInt8) (p0c1 : Int) (p0c2 : Bool) : RUN E 138 [D.agg [D.str p0c0, D.int p0c1, D.bool p0c2]] =
 some [D.agg [D.int 0, D.str [], D.int 0, D.bool false, D.int 0, D.str [], D.list [], D.list [], D.list []], D.agg [D.str p0c0, D.int p0c1, D.bool true]] := (RUN_eq _ _ _).trans (by kernel_rfl)
/-! (*masthead/mastref1.scanner).str -/
def h152a (out3 : List UInt8) (p0c0 : List UInt8) (p0c1 : Int) (p0c2 : Bool) (v2c0 : Int) (v2c1 : List UInt8) (v2c2 : Int) (v2c3 : Bool) (v2c4 : Int) (v2c5 : List UInt8) (x700136s : List D) : St := mkSt 128 [(0, SV.bptr 0 53 0 (KT.agg 53)), (2, SV.bptr 2 28 0 (KT.agg 28)), (3, SV.val KT.str (D.str out3))] [(0, Obj.box 53 (BC.cells [SV.val KT.str (D.str p0c0), SV.val (KT.int IntKind.i64) (D.int p0c1), SV.val KT.bool (D.bool p0c2)])), (2, Obj.box 28 (BC.cells [SV.val (KT.int IntKind.i64) (D.int v2c0), SV.val KT.str (D.str v2c1), SV.val (KT.int IntKind.i64) (D.int v2c2), SV.val KT.bool (D.bool v2c3), SV.val (KT.int IntKind.i64) (D.int v2c4), SV.val KT.str (D.str v2c5), SV.nil, SV.nil, SV.own 700136])), (700136, Obj.arr 28 x700136s)]
noncomputable def L152a (out3 : List UInt8) (p0c0 : List UInt8) (p0c1 : Int) (p0c2 : Bool) (v2c0 : Int) (v2c1 : List UInt8) (v2c2 : Int) (v2c3 : Bool) (v2c4 : Int) (v2c5 : List UInt8) (x700136s : List D) : R := LOOP E (RUN E) 152 Tryz.f152 [1, 1, 0, 1, 0] (h152a out3 p0c0 p0c1 p0c2 v2c0 v2c1 v2c2 v2c3 v2c4 v2c5 x700136s)
theorem enter152 (p0c0 : List UInt8) (p0c1 : Int) (p0c2 : Bool) : RUN E 152 [D.agg [D.str p0c0, D.int p0c1, D.bool p0c2]] =
 L152a (([] : List UInt8)) p0c0 (IntKind.wrap IntKind.i64 (p0c1 + 1)) p0c2 0 [] 0 false 0 [] [] := (RUN_eq _ _ _).trans (by kernel_rfl)
theorem round152a (out3 : List UInt8) (p0c0 : List UInt8) (p0c1 : Int) (p0c2 : Bool) (v2c0 : Int) (v2c1 : List UInt8) (v2c2 : Int) (v2c3 : Bool) (v2c4 : Int) (v2c5 : List UInt8) (x700136s : List D) : L152a out3 p0c0 p0c1 p0c2 v2c0 v2c1 v2c2 v2c3 v2c4 v2c5 x700136s =
 cond (decide (p0c1 < (↑(List.length p0c0) : Int)))
 (cond (inb p0c1 (List.length p0c0))
 (cond (decide ((↑(UInt8.toNat (List.getD p0c0 (Int.toNat p0c1) 0)) : Int) = 34))
 (opt (RUN E 163 [D.agg [D.int 3, D.bool false, D.int 0, D.str out3, D.list [], D.list []]]) fun ρ3 =>
 some [List.getD ρ3 0 D.no, D.agg [D.str p0c0, D.int (IntKind.wrap IntKind.i64 (p0c1 + 1)), D.bool p0c2]])
 (cond (decide ((↑(UInt8.toNat (List.getD p0c0 (Int.toNat p0c1) 0)) : Int) = 10))
 (opt (RUN E 130 [D.agg [D.str p0c0, D.int p0c1, D.bool p0c2]]) fun ρ4 =>
 some [List.getD ρ4 0 D.no, D.agg [D.str (D.toStr (D.cell (List.getD ρ4 1 D.no) 0)), D.int (D.toInt (D.cell (List.getD ρ4 1 D.no) 1)), D.bool (D.toBool (D.cell (List.getD ρ4 1 D.no) 2))]])
 (cond (decide ((↑(UInt8.toNat (List.getD p0c0 (Int.toNat p0c1) 0)) : Int) = 92))
 (cond (decide ((↑(List.length p0c0) : Int) ≤ IntKind.wrap IntKind.i64 (p0c1 + 1)))
 (opt (RUN E 130 [D.agg [D.str p0c0, D.int (IntKind.wrap IntKind.i64 (p0c1 + 1)), D.bool p0c2]]) fun ρ6 =>
 some [List.getD ρ6 0 D.no, D.agg [D.str (D.toStr (D.cell (List.getD ρ6 1 D.no) 0)), D.int (D.toInt (D.cell (List.getD ρ6 1 D.no) 1)), D.bool (D.toBool (D.cell (List.getD ρ6 1 D.no) 2))]])
 (cond (inb (IntKind.wrap IntKind.i64 (p0c1 + 1)) (List.length p0c0))
 (cond (decide ((↑(UInt8.toNat (List.getD p0c0 (Int.toNat (IntKind.wrap IntKind.i64 (p0c1 + 1))) 0)) : Int) = 34))
 (cond (decide ((↑(UInt8.toNat (List.getD p0c0 (Int.toNat (IntKind.wrap IntKind.i64 (p0c1 + 1))) 0)) : Int) = 34))
 (cond (cutOk (List.length p0c0) (some (IntKind.wrap IntKind.i64 (p0c1 + 1))) (some (IntKind.wrap IntKind.i64 (IntKind.wrap IntKind.i64 (p0c1 + 1) + 1))))
 (cond (decide (List.length out3 + List.length (cutL p0c0 (some (IntKind.wrap IntKind.i64 (p0c1 + 1))) (some (IntKind.wrap IntKind.i64 (IntKind.wrap IntKind.i64 (p0c1 + 1) + 1)))) ≤ lim))
 (L152a (out3 ++ cutL p0c0 (some (IntKind.wrap IntKind.i64 (p0c1 + 1))) (some (IntKind.wrap IntKind.i64 (IntKind.wrap IntKind.i64 (p0c1 + 1) + 1)))) p0c0 (IntKind.wrap IntKind.i64 (IntKind.wrap IntKind.i64 (p0c1 + 1) + 1)) p0c2 v2c0 v2c1 v2c2 v2c3 v2c4 v2c5 x700136s)
 (none))
 (none))
 (cond (decide ((↑(UInt8.toNat (List.getD p0c0 (Int.toNat (IntKind.wrap IntKind.i64 (p0c1 + 1))) 0)) : Int) = 110))
 (cond (decide (List.length out3 + List.length (([10] : List UInt8)) ≤ lim))
 (L152a (out3 ++ ([10] : List UInt8)) p0c0 (IntKind.wrap IntKind.i64 (IntKind.wrap IntKind.i64 (p0c1 + 1) + 1)) p0c2 v2c0 v2c1 v2c2 v2c3 v2c4 v2c5 x700136s)
 (none))
 (opt (RUN E 130 [D.agg [D.str p0c0, D.int (IntKind.wrap IntKind.i64 (p0c1 + 1)), D.bool p0c2]]) fun ρ10 =>
 some [List.getD ρ10 0 D.no, D.agg [D.str (D.toStr (D.cell (List.getD ρ10 1 D.no) 0)), D.int (D.toInt (D.cell (List.getD ρ10 1 D.no) 1)), D.bool (D.toBool (D.cell (List.getD ρ10 1 D.no) 2))]])))
 (cond (decide ((↑(UInt8.toNat (List.getD p0c0 (Int.toNat (IntKind.wrap IntKind.i64 (p0c1 + 1))) 0)) : Int) = 92))
 (cond (cutOk (List.length p0c0) (some (IntKind.wrap IntKind.i64 (p0c1 + 1))) (some (IntKind.wrap IntKind.i64 (IntKind.wrap IntKind.i64 (p0c1 + 1) + 1))))
 (cond (decide (List.length out3 + List.length (cutL p0c0 (some (IntKind.wrap IntKind.i64 (p0c1 + 1))) (some (IntKind.wrap IntKind.i64 (IntKind.wrap IntKind.i64 (p0c1 + 1) + 1)))) ≤ lim))
 (L152a (out3 ++ cutL p0c0 (some (IntKind.wrap IntKind.i64 (p0c1 + 1))) (some (IntKind.wrap IntKind.i64 (IntKind.wrap IntKind.i64 (p0c1 + 1) + 1)))) p0c0 (IntKind.wrap IntKind.i64 (IntKind.wrap IntKind.i64 (p0c1 + 1) + 1)) p0c2 v2c0 v2c1 v2c2 v2c3 v2c4 v2c5 x700136s)
 (none))
 (none))
 (cond (decide ((↑(UInt8.toNat (List.getD p0c0 (Int.toNat (IntKind.wrap IntKind.i64 (p0c1 + 1))) 0)) : Int) = 110))
 (cond (decide (List.length out3 + List.length (([10] : List UInt8)) ≤ lim))
 (L152a (out3 ++ ([10] : List UInt8)) p0c0 (IntKind.wrap IntKind.i64 (IntKind.wrap IntKind.i64 (p0c1 + 1) + 1)) p0c2 v2c0 v2c1 v2c2 v2c3 v2c4 v2c5 x700136s)
 (none))
 (opt (RUN E 130 [D.agg [D.str p0c0, D.int (IntKind.wrap IntKind.i64 (p0c1 + 1)), D.bool p0c2]]) fun ρ10 =>
 some [List.getD ρ10 0 D.no, D.agg [D.str (D.toStr (D.cell (List.getD ρ10 1 D.no) 0)), D.int (D.toInt (D.cell (List.getD ρ10 1 D.no) 1)), D.bool (D.toBool (D.cell (List.getD ρ10 1 D.no) 2))]]))))
 (none)))
 (cond (cutOk (List.length p0c0) (some p0c1) (some (IntKind.wrap IntKind.i64 (p0c1 + 1))))
 (cond (decide (List.length out3 + List.length (cutL p0c0 (some p0c1) (some (IntKind.wrap IntKind.i64 (p0c1 + 1)))) ≤ lim))
 (L152a (out3 ++ cutL p0c0 (some p0c1) (some (IntKind.wrap IntKind.i64 (p0c1 + 1)))) p0c0 (IntKind.wrap IntKind.i64 (p0c1 + 1)) p0c2 v2c0 v2c1 v2c2 v2c3 v2c4 v2c5 x700136s)
 (none))
 (none)))))
 (none))
 (opt (RUN E 130 [D.agg [D.str p0c0, D.int p0c1, D.bool p0c2]]) fun ρ1 =>
 some [List.getD ρ1 0 D.no, D.agg [D.str (D.toStr (D.cell (List.getD ρ1 1 D.no) 0)), D.int (D.toInt (D.cell (List.getD ρ1 1 D.no) 1)), D.bool (D.toBool (D.cell (List.getD ρ1 1 D.no) 2))]]) := (LOOP_eq _ _ _ _ _ _).trans (by kernel_rfl)
/-! (*masthead/mastref1.scanner).number -/
def h153a (k3 : Int) (p0c0 : List UInt8) (p0c1 : Int) (p0c2 : Bool) (v2c0 : Int) (v2c1 : List UInt8) (v2c2 : Int) (v2c3 : Bool) (v2c4 : Int) (v2c5 : List UInt8) (x700136s : List D) : St := mkSt 100 [(0, SV.bptr 0 53 0 (KT.agg 53)), (2, SV.bptr 2 28 0 (KT.agg 28)), (3, SV.val (KT.int IntKind.i64) (D.int k3))] [(0, Obj.box 53 (BC.cells [SV.val KT.str (D.str p0c0), SV.val (KT.int IntKind.i64) (D.int p0c1), SV.val KT.bool (D.bool p0c2)])), (2, Obj.box 28 (BC.cells [SV.val (KT.int IntKind.i64) (D.int v2c0), SV.val KT.str (D.str v2c1), SV.val (KT.int IntKind.i64) (D.int v2c2), SV.val KT.bool (D.bool v2c3), SV.val (KT.int IntKind.i64) (D.int v2c4), SV.val KT.str (D.str v2c5), SV.nil, SV.nil, SV.own 700136])), (700136, Obj.arr 28 x700136s)]
noncomputable def C153a (k3 : Int) (p0c0 : List UInt8) (p0c1 : Int) (p0c2 : Bool) (v2c0 : Int) (v2c1 : List UInt8) (v2c2 : Int) (v2c3 : Bool) (v2c4 : Int) (v2c5 : List UInt8) (x700136s : List D) : R := PART E (RUN E) 153 Tryz.f153 [1, 1, 1] (h153a k3 p0c0 p0c1 p0c2 v2c0 v2c1 v2c2 v2c3 v2c4 v2c5 x700136s)
def h153b (k3 : Int) (from4 : Int) (p0c0 : List UInt8) (p0c1 : Int) (p0c2 : Bool) (v2c0 : Int) (v2c1 : List UInt8) (v2c2 : Int) (v2c3 : Bool) (v2c4 : Int) (v2c5 : List UInt8) (x700136s : List D) : St := mkSt 100 [(0, SV.bptr 0 53 0 (KT.agg 53)), (2, SV.bptr 2 28 0 (KT.agg 28)), (3, SV.val (KT.int IntKind.i64) (D.int k3)), (4, SV.val (KT.int IntKind.i64) (D.int from4))] [(0, Obj.box 53 (BC.cells [SV.val KT.str (D.str p0c0), SV.val (KT.int IntKind.i64) (D.int p0c1), SV.val KT.bool (D.bool p0c2)])), (2, Obj.box 28 (BC.cells [SV.val (KT.int IntKind.i64) (D.int v2c0), SV.val KT.str (D.str v2c1), SV.val (KT.int IntKind.i64) (D.int v2c2), SV.val KT.bool (D.bool v2c3), SV.val (KT.int IntKind.i64) (D.int v2c4), SV.val KT.str (D.str v2c5), SV.nil, SV.nil, SV.own 700136])), (700136, Obj.arr 28 x700136s)]
noncomputable def L153b (k3 : Int) (from4 : Int) (p0c0 : List UInt8) (p0c1 : Int) (p0c2 : Bool) (v2c0 : Int) (v2c1 : List UInt8) (v2c2 : Int) (v2c3 : Bool) (v2c4 : Int) (v2c5 : List UInt8) (x700136s : List D) : R := LOOP E (RUN E) 153 Tryz.f153 [1, 1, 1, 1, 0, 0] (h153b k3 from4 p0c0 p0c1 p0c2 v2c0 v2c1 v2c2 v2c3 v2c4 v2c5 x700136s)
theorem enter153 (p0c0 : List UInt8) (p0c1 : Int) (p0c2 : Bool) : RUN E 153 [D.agg [D.str p0c0, D.int p0c1, D.bool p0c2]] =
 cond (inb p0c1 (List.length p0c0))
 (cond (decide ((↑(UInt8.toNat (List.getD p0c0 (Int.toNat p0c1) 0)) : Int) = 45))
 (C153a (IntKind.wrap IntKind.i64 (p0c1 + 1)) p0c0 p0c1 p0c2 0 [] 0 false 0 [] [])
 (C153a p0c1 p0c0 p0c1 p0c2 0 [] 0 false 0 [] []))
 (none) := (RUN_eq _ _ _).trans (by kernel_rfl)
theorem round153a (k3 : Int) (p0c0 : List UInt8) (p0c1 : Int) (p0c2 : Bool) (v2c0 : Int) (v2c1 : List UInt8) (v2c2 : Int) (v2c3 : Bool) (v2c4 : Int) (v2c5 : List UInt8) (x700136s : List D) : C153a k3 p0c0 p0c1 p0c2 v2c0 v2c1 v2c2 v2c3 v2c4 v2c5 x700136s =
 L153b k3 k3 p0c0 p0c1 p0c2 v2c0 v2c1 v2c2 v2c3 v2c4 v2c5 x700136s := (PART_eq _ _ _ _ _ _).trans (by kernel_rfl)
theorem round153b (k3 : Int) (from4 : Int) (p0c0 : List UInt8) (p0c1 : Int) (p0c2 : Bool) (v2c0 : Int) (v2c1 : List UInt8) (v2c2 : Int) (v2c3 : Bool) (v2c4 : Int) (v2c5 : List UInt8) (x700136s : List D) : L153b k3 from4 p0c0 p0c1 p0c2 v2c0 v2c1 v2c2 v2c3 v2c4 v2c5 x700136s =
 cond (bif inb k3 (List.length p0c0) then true else bif bif decide (k3 < (↑(List.length p0c0) : Int)) then true else false then false else true)
 (opt (cond (bif decide (k3 < (↑(List.length p0c0) : Int)) then true else false)
 (RUN E 99 [D.int (↑(UInt8.toNat (List.getD p0c0 (Int.toNat k3) 0)) : Int)])
 (some [])) fun ρ1 =>
 cond (bif decide (k3 < (↑(List.length p0c0) : Int)) then D.toBool (List.getD ρ1 0 D.no) else false)
 (L153b (IntKind.wrap IntKind.i64 (k3 + 1)) from4 p0c0 p0c1 p0c2 v2c0 v2c1 v2c2 v2c3 v2c4 v2c5 x700136s)
 (cond (cutOk (List.length p0c0) (some from4) (some k3))
 (cond (bif inb 0 (List.length (cutL p0c0 (some from4) (some k3))) then true else bif bif bif decide ((↑(List.length (cutL p0c0 (some from4) (some k3))) : Int) < 1) then true else decide (15 < (↑(List.length (cutL p0c0 (some from4) (some k3))) : Int)) then false else true then false else true)
 (cond (bif bif bif decide ((↑(List.length (cutL p0c0 (some from4) (some k3))) : Int) < 1) then true else decide (15 < (↑(List.length (cutL p0c0 (some from4) (some k3))) : Int)) then true else bif decide ((↑(UInt8.toNat (List.getD (cutL p0c0 (some from4) (some k3)) 0 0)) : Int) = 48) then decide (1 < (↑(List.length (cutL p0c0 (some from4) (some k3))) : Int)) else false then true else bif decide (cutL p0c0 (some from4) (some k3) = ([48] : List UInt8)) then decide (p0c1 < from4) else false)
 (opt (RUN E 130 [D.agg [D.str p0c0, D.int p0c1, D.bool p0c2]]) fun ρ6 =>
 some [List.getD ρ6 0 D.no, D.agg [D.str (D.toStr (D.cell (List.getD ρ6 1 D.no) 0)), D.int (D.toInt (D.cell (List.getD ρ6 1 D.no) 1)), D.bool (D.toBool (D.cell (List.getD ρ6 1 D.no) 2))]])
 (cond (cutOk (List.length p0c0) (some p0c1) (some k3))
 (opt (RUN E 164 [D.str (cutL p0c0 (some p0c1) (some k3))]) fun ρ7 =>
 opt (RUN E 163 [D.agg [D.int 2, D.bool false, D.int (D.toInt (List.getD ρ7 0 D.no)), D.str [], D.list [], D.list []]]) fun ρ8 =>
 some [List.getD ρ8 0 D.no, D.agg [D.str p0c0, D.int k3, D.bool p0c2]])
 (none)))
 (none))
 (none)))
 (none) := (LOOP_eq _ _ _ _ _ _).trans (by kernel_rfl)
/-! (*masthead/mastref1.scanner).named -/
def h154a (w3 : List UInt8) (p0c0 : List UInt8) (p0c1 : Int) (p0c2 : Bool) (v2c0 : Int) (v2c1 : List UInt8) (v2c2 : Int) (v2c3 : Bool) (v2c4 : Int) (v2c5 : List UInt8) (x700136s : List D) : St := mkSt 63 [(0, SV.bptr 0 53 0 (KT.agg 53)), (2, SV.bptr 2 28 0 (KT.agg 28)), (3, SV.val KT.str (D.str w3))] [(0, Obj.box 53 (BC.cells [SV.val KT.str (D.str p0c0), SV.val (KT.int IntKind.i64) (D.int p0c1), SV.val KT.bool (D.bool p0c2)])), (2, Obj.box 28 (BC.cells [SV.val (KT.int IntKind.i64) (D.int v2c0), SV.val KT.str (D.str v2c1), SV.val (KT.int IntKind.i64) (D.int v2c2), SV.val KT.bool (D.bool v2c3), SV.val (KT.int IntKind.i64) (D.int v2c4), SV.val KT.str (D.str v2c5), SV.nil, SV.nil, SV.own 700136])), (700136, Obj.arr 28 x700136s)]
noncomputable def C154a (w3 : List UInt8) (p0c0 : List UInt8) (p0c1 : Int) (p0c2 : Bool) (v2c0 : Int) (v2c1 : List UInt8) (v2c2 : Int) (v2c3 : Bool) (v2c4 : Int) (v2c5 : List UInt8) (x700136s : List D) : R := PART E (RUN E) 154 Tryz.f154 [1, 1, 1, 1] (h154a w3 p0c0 p0c1 p0c2 v2c0 v2c1 v2c2 v2c3 v2c4 v2c5 x700136s)
def h154b (p0c0 : List UInt8) (p0c1 : Int) (p0c2 : Bool) (v2c0 : Int) (v2c1 : List UInt8) (v2c2 : Int) (v2c3 : Bool) (v2c4 : Int) (v2c5 : List UInt8) (x4c0 : Int) (x4c1 : List UInt8) (x4c2 : Int) (x4c3 : Bool) (x4c4 : Int) (x4c5 : List UInt8) (x700136s : List D) (x700264s : List D) : St := mkSt 63 [(0, SV.bptr 0 53 0 (KT.agg 53)), (2, SV.bptr 2 28 0 (KT.agg 28)), (4, SV.bptr 4 28 0 (KT.agg 28))] [(0, Obj.box 53 (BC.cells [SV.val KT.str (D.str p0c0), SV.val (KT.int IntKind.i64) (D.int p0c1), SV.val KT.bool (D.bool p0c2)])), (2, Obj.box 28 (BC.cells [SV.val (KT.int IntKind.i64) (D.int v2c0), SV.val KT.str (D.str v2c1), SV.val (KT.int IntKind.i64) (D.int v2c2), SV.val KT.bool (D.bool v2c3), SV.val (KT.int IntKind.i64) (D.int v2c4), SV.val KT.str (D.str v2c5), SV.nil, SV.nil, SV.own 700136])), (4, Obj.box 28 (BC.cells [SV.val (KT.int IntKind.i64) (D.int x4c0), SV.val KT.str (D.str x4c1), SV.val (KT.int IntKind.i64) (D.int x4c2), SV.val KT.bool (D.bool x4c3), SV.val (KT.int IntKind.i64) (D.int x4c4), SV.val KT.str (D.str x4c5), SV.nil, SV.nil, SV.own 700264])), (700136, Obj.arr 28 x700136s), (700264, Obj.arr 28 x700264s)]
noncomputable def L154b (p0c0 : List UInt8) (p0c1 : Int) (p0c2 : Bool) (v2c0 : Int) (v2c1 : List UInt8) (v2c2 : Int) (v2c3 : Bool) (v2c4 : Int) (v2c5 : List UInt8) (x4c0 : Int) (x4c1 : List UInt8) (x4c2 : Int) (x4c3 : Bool) (x4c4 : Int) (x4c5 : List UInt8) (x700136s : List D) (x700264s : List D) : R := LOOP E (RUN E) 154 Tryz.f154 [1, 1, 1, 1, 1, 1, 0, 0] (h154b p0c0 p0c1 p0c2 v2c0 v2c1 v2c2 v2c3 v2c4 v2c5 x4c0 x4c1 x4c2 x4c3 x4c4 x4c5 x700136s x700264s)
theorem enter154 (p0c0 : List UInt8) (p0c1 : Int) (p0c2 : Bool) : RUN E 154 [D.agg [D.str p0c0, D.int p0c1, D.bool p0c2]] =
 opt (RUN E 48 [D.agg [D.str p0c0, D.int p0c1, D.bool p0c2]]) fun ρ0 =>
 cond (decide (D.toStr (List.getD ρ0 0 D.no) = ([116, 114, 117, 101] : List UInt8)))
 (cond (decide (D.toStr (List.getD ρ0 0 D.no) = ([116, 114, 117, 101] : List UInt8)))
 (opt (RUN E 163 [D.agg [D.int 1, D.bool (decide (D.toStr (List.getD ρ0 0 D.no) = ([116, 114, 117, 101] : List UInt8))), D.int 0, D.str [], D.list [], D.list []]]) fun ρ3 =>
 some [List.getD ρ3 0 D.no, D.agg [D.str (D.toStr (D.cell (List.getD ρ0 1 D.no) 0)), D.int (IntKind.wrap IntKind.i64 (D.toInt (D.cell (List.getD ρ0 1 D.no) 1) + (↑(List.length (D.toStr (List.getD ρ0 0 D.no))) : Int))), D.bool (D.toBool (D.cell (List.getD ρ0 1 D.no) 2))]])
 (cond (decide (D.toStr (List.getD ρ0 0 D.no) = ([110, 105, 108] : List UInt8)))
 (opt (RUN E 163 [D.agg [D.int 0, D.bool false, D.int 0, D.str [], D.list [], D.list []]]) fun ρ4 =>
 some [List.getD ρ4 0 D.no, D.agg [D.str (D.toStr (D.cell (List.getD ρ0 1 D.no) 0)), D.int (IntKind.wrap IntKind.i64 (D.toInt (D.cell (List.getD ρ0 1 D.no) 1) + (↑(List.length (D.toStr (List.getD ρ0 0 D.no))) : Int))), D.bool (D.toBool (D.cell (List.getD ρ0 1 D.no) 2))]])
 (C154a (D.toStr (List.getD ρ0 0 D.no)) (D.toStr (D.cell (List.getD ρ0 1 D.no) 0)) (IntKind.wrap IntKind.i64 (D.toInt (D.cell (List.getD ρ0 1 D.no) 1) + (↑(List.length (D.toStr (List.getD ρ0 0 D.no))) : Int))) (D.toBool (D.cell (List.getD ρ0 1 D.no) 2)) 0 [] 0 false 0 [] [])))
 (cond (decide (D.toStr (List.getD ρ0 0 D.no) = ([102, 97, 108, 115, 101] : List UInt8)))
 (opt (RUN E 163 [D.agg [D.int 1, D.bool (decide (D.toStr (List.getD ρ0 0 D.no) = ([116, 114, 117, 101] : List UInt8))), D.int 0, D.str [], D.list [], D.list []]]) fun ρ3 =>
 some [List.getD ρ3 0 D.no, D.agg [D.str (D.toStr (D.cell (List.getD ρ0 1 D.no) 0)), D.int (IntKind.wrap IntKind.i64 (D.toInt (D.cell (List.getD ρ0 1 D.no) 1) + (↑(List.length (D.toStr (List.getD ρ0 0 D.no))) : Int))), D.bool (D.toBool (D.cell (List.getD ρ0 1 D.no) 2))]])
 (cond (decide (D.toStr (List.getD ρ0 0 D.no) = ([110, 105, 108] : List UInt8)))
 (opt (RUN E 163 [D.agg [D.int 0, D.bool false, D.int 0, D.str [], D.list [], D.list []]]) fun ρ4 =>
 some [List.getD ρ4 0 D.no, D.agg [D.str (D.toStr (D.cell (List.getD ρ0 1 D.no) 0)), D.int (IntKind.wrap IntKind.i64 (D.toInt (D.cell (List.getD ρ0 1 D.no) 1) + (↑(List.length (D.toStr (List.getD ρ0 0 D.no))) : Int))), D.bool (D.toBool (D.cell (List.getD ρ0 1 D.no) 2))]])
 (C154a (D.toStr (List.getD ρ0 0 D.no)) (D.toStr (D.cell (List.getD ρ0 1 D.no) 0)) (IntKind.wrap IntKind.i64 (D.toInt (D.cell (List.getD ρ0 1 D.no) 1) + (↑(List.length (D.toStr (List.getD ρ0 0 D.no))) : Int))) (D.toBool (D.cell (List.getD ρ0 1 D.no) 2)) 0 [] 0 false 0 [] []))) := (RUN_eq _ _ _).trans (by kernel_rfl)
theorem round154a (w3 : List UInt8) (p0c0 : List UInt8) (p0c1 : Int) (p0c2 : Bool) (v2c0 : Int) (v2c1 : List UInt8) (v2c2 : Int) (v2c3 : Bool) (v2c4 : Int) (v2c5 : List UInt8) (x700136s : List D) : C154a w3 p0c0 p0c1 p0c2 v2c0 v2c1 v2c2 v2c3 v2c4 v2c5 x700136s =
 opt (RUN E 58 [D.str w3]) fun ρ0 =>
 cond (bif bif D.toBool (List.getD ρ0 0 D.no) then false else true then false else true)
 (opt (RUN E 98 [D.agg [D.str p0c0, D.int p0c1, D.bool p0c2], D.str (([40] : List UInt8))]) fun ρ2 =>
 cond (bif bif D.toBool (List.getD ρ0 0 D.no) then false else true then true else bif D.toBool (List.getD ρ2 0 D.no) then false else true)
 (opt (RUN E 130 [D.agg [D.str (D.toStr (D.cell (List.getD ρ2 1 D.no) 0)), D.int (D.toInt (D.cell (List.getD ρ2 1 D.no) 1)), D.bool (D.toBool (D.cell (List.getD ρ2 1 D.no) 2))]]) fun ρ4 =>
 some [List.getD ρ4 0 D.no, D.agg [D.str (D.toStr (D.cell (List.getD ρ4 1 D.no) 0)), D.int (D.toInt (D.cell (List.getD ρ4 1 D.no) 1)), D.bool (D.toBool (D.cell (List.getD ρ4 1 D.no) 2))]])
 (L154b (D.toStr (D.cell (List.getD ρ2 1 D.no) 0)) (D.toInt (D.cell (List.getD ρ2 1 D.no) 1)) (D.toBool (D.cell (List.getD ρ2 1 D.no) 2)) v2c0 v2c1 v2c2 v2c3 v2c4 v2c5 6 w3 0 false 0 [] x700136s []))
 (cond (bif bif D.toBool (List.getD ρ0 0 D.no) then false else true then true else true)
 (opt (RUN E 130 [D.agg [D.str p0c0, D.int p0c1, D.bool p0c2]]) fun ρ3 =>
 some [List.getD ρ3 0 D.no, D.agg [D.str (D.toStr (D.cell (List.getD ρ3 1 D.no) 0)), D.int (D.toInt (D.cell (List.getD ρ3 1 D.no) 1)), D.bool (D.toBool (D.cell (List.getD ρ3 1 D.no) 2))]])
 (L154b p0c0 p0c1 p0c2 v2c0 v2c1 v2c2 v2c3 v2c4 v2c5 6 w3 0 false 0 [] x700136s [])) := (PART_eq _ _ _ _ _ _).trans (by kernel_rfl)
theorem round154b (p0c0 : List UInt8) (p0c1 : Int) (p0c2 : Bool) (v2c0 : Int) (v2c1 : List UInt8) (v2c2 : Int) (v2c3 : Bool) (v2c4 : Int) (v2c5 : List UInt8) (x4c0 : Int) (x4c1 : List UInt8) (x4c2 : Int) (x4c3 : Bool) (x4c4 : Int) (x4c5 : List UInt8) (x700136s : List D) (x700264s : List D) : L154b p0c0 p0c1 p0c2 v2c0 v2c1 v2c2 v2c3 v2c4 v2c5 x4c0 x4c1 x4c2 x4c3 x4c4 x4c5 x700136s x700264s =
 cond (bif p0c2 then false else true)
 (opt (RUN E 27 [D.agg [D.str p0c0, D.int p0c1, D.bool p0c2], D.int 9, D.str (([111, 114] : List UInt8))]) fun ρ1 =>
 cond (fitL (List.length x700264s) (List.length [List.getD ρ1 0 D.no]))
 (opt (RUN E 28 [D.agg [D.str (D.toStr (D.cell (List.getD ρ1 1 D.no) 0)), D.int (D.toInt (D.cell (List.getD ρ1 1 D.no) 1)), D.bool (D.toBool (D.cell (List.getD ρ1 1 D.no) 2))]]) fun ρ3 =>
 opt (RUN E 98 [D.agg [D.str (D.toStr (D.cell (List.getD ρ3 0 D.no) 0)), D.int (D.toInt (D.cell (List.getD ρ3 0 D.no) 1)), D.bool (D.toBool (D.cell (List.getD ρ3 0 D.no) 2))], D.str (([41] : List UInt8))]) fun ρ4 =>
 cond (D.toBool (List.getD ρ4 0 D.no))
 (some [D.agg [D.int x4c0, D.str x4c1, D.int x4c2, D.bool x4c3, D.int x4c4, D.str x4c5, D.list [], D.list [], D.list (x700264s ++ [List.getD ρ1 0 D.no])], D.agg [D.str (D.toStr (D.cell (List.getD ρ4 1 D.no) 0)), D.int (D.toInt (D.cell (List.getD ρ4 1 D.no) 1)), D.bool (D.toBool (D.cell (List.getD ρ4 1 D.no) 2))]])
 (opt (RUN E 98 [D.agg [D.str (D.toStr (D.cell (List.getD ρ4 1 D.no) 0)), D.int (D.toInt (D.cell (List.getD ρ4 1 D.no) 1)), D.bool (D.toBool (D.cell (List.getD ρ4 1 D.no) 2))], D.str (([44] : List UInt8))]) fun ρ6 =>
 cond (bif D.toBool (List.getD ρ6 0 D.no) then false else true)
 (opt (RUN E 130 [D.agg [D.str (D.toStr (D.cell (List.getD ρ6 1 D.no) 0)), D.int (D.toInt (D.cell (List.getD ρ6 1 D.no) 1)), D.bool (D.toBool (D.cell (List.getD ρ6 1 D.no) 2))]]) fun ρ8 =>
 some [List.getD ρ8 0 D.no, D.agg [D.str (D.toStr (D.cell (List.getD ρ8 1 D.no) 0)), D.int (D.toInt (D.cell (List.getD ρ8 1 D.no) 1)), D.bool (D.toBool (D.cell (List.getD ρ8 1 D.no) 2))]])
 (L154b (D.toStr (D.cell (List.getD ρ6 1 D.no) 0)) (D.toInt (D.cell (List.getD ρ6 1 D.no) 1)) (D.toBool (D.cell (List.getD ρ6 1 D.no) 2)) v2c0 v2c1 v2c2 v2c3 v2c4 v2c5 x4c0 x4c1 x4c2 x4c3 x4c4 x4c5 x700136s (x700264s ++ [List.getD ρ1 0 D.no]))))
 (none))
 (some [D.agg [D.int x4c0, D.str x4c1, D.int x4c2, D.bool x4c3, D.int x4c4, D.str x4c5, D.list [], D.list [], D.list x700264s], D.agg [D.str p0c0, D.int p0c1, D.bool p0c2]]) := (LOOP_eq _ _ _ _ _ _).trans (by kernel_rfl)
/-! internal/stringslite.HasPrefix -/
theorem enter155 (s0 : List UInt8) (prefix1 : List UInt8) : RUN E 155 [D.str s0, D.str prefix1] =
 cond (bif cutOk (List.length s0) none (some (↑(List.length prefix1) : Int)) then true else bif bif decide ((↑(List.length prefix1) : Int) ≤ (↑(List.length s0) : Int)) then true else false then false else true)
 (some [D.bool (bif decide ((↑(List.length prefix1) : Int) ≤ (↑(List.length s0) : Int)) then decide (cutL s0 none (some (↑(List.length prefix1) : Int)) = prefix1) else false)])
 (none) := (RUN_eq _ _ _).trans (by kernel_rfl)
/-! (*masthead/tmpl.parser).text -/
def h156a (out3s : List D) (p0c0 : List UInt8) (p0c1 : Int) (p0c2 : Bool) (v2c0 : Int) (v2c1 : List UInt8) (v2c2 : Int) (v2c3 : Bool) (v2c4 : Int) (v2c5 : List UInt8) (x700136s : List D) : St := mkSt 88 [(0, SV.bptr 0 48 0 (KT.agg 48)), (2, SV.bptr 2 28 0 (KT.agg 28)), (3, SV.own 3)] [(3, Obj.arr 5 out3s), (0, Obj.box 48 (BC.cells [SV.val KT.str (D.str p0c0), SV.val (KT.int IntKind.i64) (D.int p0c1), SV.val KT.bool (D.bool p0c2)])), (2, Obj.box 28 (BC.cells [SV.val (KT.int IntKind.i64) (D.int v2c0), SV.val KT.str (D.str v2c1), SV.val (KT.int IntKind.i64) (D.int v2c2), SV.val KT.bool (D.bool v2c3), SV.val (KT.int IntKind.i64) (D.int v2c4), SV.val KT.str (D.str v2c5), SV.nil, SV.nil, SV.own 700136])), (700136, Obj.arr 28 x700136s)]
noncomputable def L156a (out3s : List D) (p0c0 : List UInt8) (p0c1 : Int) (p0c2 : Bool) (v2c0 : Int) (v2c1 : List UInt8) (v2c2 : Int) (v2c3 : Bool) (v2c4 : Int) (v2c5 : List UInt8) (x700136s : List D) : R := LOOP E (RUN E) 156 Tryz.f156 [1, 1, 0, 1, 0] (h156a out3s p0c0 p0c1 p0c2 v2c0 v2c1 v2c2 v2c3 v2c4 v2c5 x700136s)
theorem enter156 (p0c0 : List UInt8) (p0c1 : Int) (p0c2 : Bool) : RUN E 156 [D.agg [D.str p0c0, D.int p0c1, D.bool p0c2]] =
 L156a [] p0c0 (IntKind.wrap IntKind.i64 (p0c1 + 1)) p0c2 0 [] 0 false 0 [] [] := (RUN_eq _ _ _).trans (by kernel_rfl)
theorem round156a (out3s : List D) (p0c0 : List UInt8) (p0c1 : Int) (p0c2 : Bool) (v2c0 : Int) (v2c1 : List UInt8) (v2c2 : Int) (v2c3 : Bool) (v2c4 : Int) (v2c5 : List UInt8) (x700136s : List D) : L156a out3s p0c0 p0c1 p0c2 v2c0 v2c1 v2c2 v2c3 v2c4 v2c5 x700136s =
 cond (decide (p0c1 < (↑(List.length p0c0) : Int)))
 (cond (inb p0c1 (List.length p0c0))
 (cond (decide ((↑(UInt8.toNat (List.getD p0c0 (Int.toNat p0c1) 0)) : Int) = 34))
 (opt (RUN E 165 [D.agg [D.int 3, D.bool false, D.int 0, D.str (dBytes out3s), D.list [], D.list []]]) fun ρ3 =>
 some [List.getD ρ3 0 D.no, D.agg [D.str p0c0, D.int (IntKind.wrap IntKind.i64 (p0c1 + 1)), D.bool p0c2]])
 (cond (decide ((↑(UInt8.toNat (List.getD p0c0 (Int.toNat p0c1) 0)) : Int) = 10))
 (opt (RUN E 138 [D.agg [D.str p0c0, D.int p0c1, D.bool p0c2]]) fun ρ4 =>
 some [List.getD ρ4 0 D.no, D.agg [D.str (D.toStr (D.cell (List.getD ρ4 1 D.no) 0)), D.int (D.toInt (D.cell (List.getD ρ4 1 D.no) 1)), D.bool (D.toBool (D.cell (List.getD ρ4 1 D.no) 2))]])
 (cond (decide ((↑(UInt8.toNat (List.getD p0c0 (Int.toNat p0c1) 0)) : Int) = 92))
 (opt (RUN E 137 [D.agg [D.str p0c0, D.int (IntKind.wrap IntKind.i64 (p0c1 + 1)), D.bool p0c2]]) fun ρ5 =>
 cond (decide (D.toInt (List.getD ρ5 0 D.no) = 34))
 (cond (decide (D.toInt (List.getD ρ5 0 D.no) = 34))
 (opt (RUN E 137 [D.agg [D.str (D.toStr (D.cell (List.getD ρ5 1 D.no) 0)), D.int (D.toInt (D.cell (List.getD ρ5 1 D.no) 1)), D.bool (D.toBool (D.cell (List.getD ρ5 1 D.no) 2))]]) fun ρ8 =>
 cond (fitL (List.length out3s) (List.length [D.int (D.toInt (List.getD ρ8 0 D.no))]))
 (L156a (out3s ++ [D.int (D.toInt (List.getD ρ8 0 D.no))]) (D.toStr (D.cell (List.getD ρ8 1 D.no) 0)) (IntKind.wrap IntKind.i64 (D.toInt (D.cell (List.getD ρ8 1 D.no) 1) + 1)) (D.toBool (D.cell (List.getD ρ8 1 D.no) 2)) v2c0 v2c1 v2c2 v2c3 v2c4 v2c5 x700136s)
 (none))
 (cond (decide (D.toInt (List.getD ρ5 0 D.no) = 110))
 (cond (fitL (List.length out3s) (List.length [D.int 10]))
 (L156a (out3s ++ [D.int 10]) (D.toStr (D.cell (List.getD ρ5 1 D.no) 0)) (IntKind.wrap IntKind.i64 (D.toInt (D.cell (List.getD ρ5 1 D.no) 1) + 1)) (D.toBool (D.cell (List.getD ρ5 1 D.no) 2)) v2c0 v2c1 v2c2 v2c3 v2c4 v2c5 x700136s)
 (none))
 (opt (RUN E 138 [D.agg [D.str (D.toStr (D.cell (List.getD ρ5 1 D.no) 0)), D.int (D.toInt (D.cell (List.getD ρ5 1 D.no) 1)), D.bool (D.toBool (D.cell (List.getD ρ5 1 D.no) 2))]]) fun ρ9 =>
 some [List.getD ρ9 0 D.no, D.agg [D.str (D.toStr (D.cell (List.getD ρ9 1 D.no) 0)), D.int (D.toInt (D.cell (List.getD ρ9 1 D.no) 1)), D.bool (D.toBool (D.cell (List.getD ρ9 1 D.no) 2))]])))
 (cond (decide (D.toInt (List.getD ρ5 0 D.no) = 92))
 (opt (RUN E 137 [D.agg [D.str (D.toStr (D.cell (List.getD ρ5 1 D.no) 0)), D.int (D.toInt (D.cell (List.getD ρ5 1 D.no) 1)), D.bool (D.toBool (D.cell (List.getD ρ5 1 D.no) 2))]]) fun ρ8 =>
 cond (fitL (List.length out3s) (List.length [D.int (D.toInt (List.getD ρ8 0 D.no))]))
 (L156a (out3s ++ [D.int (D.toInt (List.getD ρ8 0 D.no))]) (D.toStr (D.cell (List.getD ρ8 1 D.no) 0)) (IntKind.wrap IntKind.i64 (D.toInt (D.cell (List.getD ρ8 1 D.no) 1) + 1)) (D.toBool (D.cell (List.getD ρ8 1 D.no) 2)) v2c0 v2c1 v2c2 v2c3 v2c4 v2c5 x700136s)
 (none))
 (cond (decide (D.toInt (List.getD ρ5 0 D.no) = 110))
 (cond (fitL (List.length out3s) (List.length [D.int 10]))
 (L156a (out3s ++ [D.int 10]) (D.toStr (D.cell (List.getD ρ5 1 D.no) 0)) (IntKind.wrap IntKind.i64 (D.toInt (D.cell (List.getD ρ5 1 D.no) 1) + 1)) (D.toBool (D.cell (List.getD ρ5 1 D.no) 2)) v2c0 v2c1 v2c2 v2c3 v2c4 v2c5 x700136s)
 (none))
 (opt (RUN E 138 [D.agg [D.str (D.toStr (D.cell (List.getD ρ5 1 D.no) 0)), D.int (D.toInt (D.cell (List.getD ρ5 1 D.no) 1)), D.bool (D.toBool (D.cell (List.getD ρ5 1 D.no) 2))]]) fun ρ9 =>
 some [List.getD ρ9 0 D.no, D.agg [D.str (D.toStr (D.cell (List.getD ρ9 1 D.no) 0)), D.int (D.toInt (D.cell (List.getD ρ9 1 D.no) 1)), D.bool (D.toBool (D.cell (List.getD ρ9 1 D.no) 2))]]))))
 (cond (fitL (List.length out3s) (List.length [D.int (↑(UInt8.toNat (List.getD p0c0 (Int.toNat p0c1) 0)) : Int)]))
 (L156a (out3s ++ [D.int (↑(UInt8.toNat (List.getD p0c0 (Int.toNat p0c1) 0)) : Int)]) p0c0 (IntKind.wrap IntKind.i64 (p0c1 + 1)) p0c2 v2c0 v2c1 v2c2 v2c3 v2c4 v2c5 x700136s)
 (none)))))
 (none))
 (opt (RUN E 138 [D.agg [D.str p0c0, D.int p0c1, D.bool p0c2]]) fun ρ1 =>
 some [List.getD ρ1 0 D.no, D.agg [D.str (D.toStr (D.cell (List.getD ρ1 1 D.no) 0)), D.int (D.toInt (D.cell (List.getD ρ1 1 D.no) 1)), D.bool (D.toBool (D.cell (List.getD ρ1 1 D.no) 2))]]) := (LOOP_eq _ _ _ _ _ _).trans (by kernel_rfl)
/-! (*masthead/tmpl.parser).named -/
def h158a (w3 : List UInt8) (p0c0 : List UInt8) (p0c1 : Int) (p0c2 : Bool) (v2c0 : Int) (v2c1 : List UInt8) (v2c2 : Int) (v2c3 : Bool) (v2c4 : Int) (v2c5 : List UInt8) (x700136s : List D) : St := mkSt 83 [(0, SV.bptr 0 48 0 (KT.agg 48)), (2, SV.bptr 2 28 0 (KT.agg 28)), (3, SV.val KT.str (D.str w3))] [(0, Obj.box 48 (BC.cells [SV.val KT.str (D.str p0c0), SV.val (KT.int IntKind.i64) (D.int p0c1), SV.val KT.bool (D.bool p0c2)])), (2, Obj.box 28 (BC.cells [SV.val (KT.int IntKind.i64) (D.int v2c0), SV.val KT.str (D.str v2c1), SV.val (KT.int IntKind.i64) (D.int v2c2), SV.val KT.bool (D.bool v2c3), SV.val (KT.int IntKind.i64) (D.int v2c4), SV.val KT.str (D.str v2c5), SV.nil, SV.nil, SV.own 700136])), (700136, Obj.arr 28 x700136s)]
noncomputable def C158a (w3 : List UInt8) (p0c0 : List UInt8) (p0c1 : Int) (p0c2 : Bool) (v2c0 : Int) (v2c1 : List UInt8) (v2c2 : Int) (v2c3 : Bool) (v2c4 : Int) (v2c5 : List UInt8) (x700136s : List D) : R := PART E (RUN E) 158 Tryz.f158 [1, 1, 1, 1] (h158a w3 p0c0 p0c1 p0c2 v2c0 v2c1 v2c2 v2c3 v2c4 v2c5 x700136s)
def h158b (p0c0 : List UInt8) (p0c1 : Int) (p0c2 : Bool) (v2c0 : Int) (v2c1 : List UInt8) (v2c2 : Int) (v2c3 : Bool) (v2c4 : Int) (v2c5 : List UInt8) (x4c0 : Int) (x4c1 : List UInt8) (x4c2 : Int) (x4c3 : Bool) (x4c4 : Int) (x4c5 : List UInt8) (x700136s : List D) (x700264s : List D) : St := mkSt 83 [(0, SV.bptr 0 48 0 (KT.agg 48)), (2, SV.bptr 2 28 0 (KT.agg 28)), (4, SV.bptr 4 28 0 (KT.agg 28))] [(0, Obj.box 48 (BC.cells [SV.val KT.str (D.str p0c0), SV.val (KT.int IntKind.i64) (D.int p0c1), SV.val KT.bool (D.bool p0c2)])), (2, Obj.box 28 (BC.cells [SV.val (KT.int IntKind.i64) (D.int v2c0), SV.val KT.str (D.str v2c1), SV.val (KT.int IntKind.i64) (D.int v2c2), SV.val KT.bool (D.bool v2c3), SV.val (KT.int IntKind.i64) (D.int v2c4), SV.val KT.str (D.str v2c5), SV.nil, SV.nil, SV.own 700136])), (4, Obj.box 28 (BC.cells [SV.val (KT.int IntKind.i64) (D.int x4c0), SV.val KT.str (D.str x4c1), SV.val (KT.int IntKind.i64) (D.int x4c2), SV.val KT.bool (D.bool x4c3), SV.val (KT.int IntKind.i64) (D.int x4c4), SV.val KT.str (D.str x4c5), SV.nil, SV.nil, SV.own 700264])), (700136, Obj.arr 28 x700136s), (700264, Obj.arr 28 x700264s)]
noncomputable def L158b (p0c0 : List UInt8) (p0c1 : Int) (p0c2 : Bool) (v2c0 : Int) (v2c1 : List UInt8) (v2c2 : Int) (v2c3 : Bool) (v2c4 : Int) (v2c5 : List UInt8) (x4c0 : Int) (x4c1 : List UInt8) (x4c2 : Int) (x4c3 : Bool) (x4c4 : Int) (x4c5 : List UInt8) (x700136s : List D) (x700264s : List D) : R := LOOP E (RUN E) 158 Tryz.f158 [1, 1, 1, 1, 1, 1, 0] (h158b p0c0 p0c1 p0c2 v2c0 v2c1 v2c2 v2c3 v2c4 v2c5 x4c0 x4c1 x4c2 x4c3 x4c4 x4c5 x700136s x700264s)
theorem enter158 (p0c0 : List UInt8) (p0c1 : Int) (p0c2 : Bool) : RUN E 158 [D.agg [D.str p0c0, D.int p0c1, D.bool p0c2]] =
 opt (RUN E 69 [D.agg [D.str p0c0, D.int p0c1, D.bool p0c2]]) fun ρ0 =>
 cond (decide (D.toStr (List.getD ρ0 0 D.no) = ([116, 114, 117, 101] : List UInt8)))
 (cond (decide (D.toStr (List.getD ρ0 0 D.no) = ([116, 114, 117, 101] : List UInt8)))
 (opt (RUN E 165 [D.agg [D.int 1, D.bool (decide (D.toStr (List.getD ρ0 0 D.no) = ([116, 114, 117, 101] : List UInt8))), D.int 0, D.str [], D.list [], D.list []]]) fun ρ3 =>
 some [List.getD ρ3 0 D.no, D.agg [D.str (D.toStr (D.cell (List.getD ρ0 1 D.no) 0)), D.int (IntKind.wrap IntKind.i64 (D.toInt (D.cell (List.getD ρ0 1 D.no) 1) + (↑(List.length (D.toStr (List.getD ρ0 0 D.no))) : Int))), D.bool (D.toBool (D.cell (List.getD ρ0 1 D.no) 2))]])
 (cond (decide (D.toStr (List.getD ρ0 0 D.no) = ([110, 105, 108] : List UInt8)))
 (opt (RUN E 165 [D.agg [D.int 0, D.bool false, D.int 0, D.str [], D.list [], D.list []]]) fun ρ4 =>
 some [List.getD ρ4 0 D.no, D.agg [D.str (D.toStr (D.cell (List.getD ρ0 1 D.no) 0)), D.int (IntKind.wrap IntKind.i64 (D.toInt (D.cell (List.getD ρ0 1 D.no) 1) + (↑(List.length (D.toStr (List.getD ρ0 0 D.no))) : Int))), D.bool (D.toBool (D.cell (List.getD ρ0 1 D.no) 2))]])
 (C158a (D.toStr (List.getD ρ0 0 D.no)) (D.toStr (D.cell (List.getD ρ0 1 D.no) 0)) (IntKind.wrap IntKind.i64 (D.toInt (D.cell (List.getD ρ0 1 D.no) 1) + (↑(List.length (D.toStr (List.getD ρ0 0 D.no))) : Int))) (D.toBool (D.cell (List.getD ρ0 1 D.no) 2)) 0 [] 0 false 0 [] [])))
 (cond (decide (D.toStr (List.getD ρ0 0 D.no) = ([102, 97, 108, 115, 101] : List UInt8)))
 (opt (RUN E 165 [D.agg [D.int 1, D.bool (decide (D.toStr (List.getD ρ0 0 D.no) = ([116, 114, 117, 101] : List UInt8))), D.int 0, D.str [], D.list [], D.list []]]) fun ρ3 =>
 some [List.getD ρ3 0 D.no, D.agg [D.str (D.toStr (D.cell (List.getD ρ0 1 D.no) 0)), D.int (IntKind.wrap IntKind.i64 (D.toInt (D.cell (List.getD ρ0 1 D.no) 1) + (↑(List.length (D.toStr (List.getD ρ0 0 D.no))) : Int))), D.bool (D.toBool (D.cell (List.getD ρ0 1 D.no) 2))]])
 (cond (decide (D.toStr (List.getD ρ0 0 D.no) = ([110, 105, 108] : List UInt8)))
 (opt (RUN E 165 [D.agg [D.int 0, D.bool false, D.int 0, D.str [], D.list [], D.list []]]) fun ρ4 =>
 some [List.getD ρ4 0 D.no, D.agg [D.str (D.toStr (D.cell (List.getD ρ0 1 D.no) 0)), D.int (IntKind.wrap IntKind.i64 (D.toInt (D.cell (List.getD ρ0 1 D.no) 1) + (↑(List.length (D.toStr (List.getD ρ0 0 D.no))) : Int))), D.bool (D.toBool (D.cell (List.getD ρ0 1 D.no) 2))]])
 (C158a (D.toStr (List.getD ρ0 0 D.no)) (D.toStr (D.cell (List.getD ρ0 1 D.no) 0)) (IntKind.wrap IntKind.i64 (D.toInt (D.cell (List.getD ρ0 1 D.no) 1) + (↑(List.length (D.toStr (List.getD ρ0 0 D.no))) : Int))) (D.toBool (D.cell (List.getD ρ0 1 D.no) 2)) 0 [] 0 false 0 [] []))) := (RUN_eq _ _ _).trans (by kernel_rfl)
theorem round158a (w3 : List UInt8) (p0c0 : List UInt8) (p0c1 : Int) (p0c2 : Bool) (v2c0 : Int) (v2c1 : List UInt8) (v2c2 : Int) (v2c3 : Bool) (v2c4 : Int) (v2c5 : List UInt8) (x700136s : List D) : C158a w3 p0c0 p0c1 p0c2 v2c0 v2c1 v2c2 v2c3 v2c4 v2c5 x700136s =
 opt (RUN E 74 [D.str w3]) fun ρ0 =>
 cond (bif bif D.toBool (List.getD ρ0 0 D.no) then false else true then false else true)
 (opt (RUN E 137 [D.agg [D.str p0c0, D.int p0c1, D.bool p0c2]]) fun ρ2 =>
 cond (bif bif D.toBool (List.getD ρ0 0 D.no) then false else true then true else bif decide (D.toInt (List.getD ρ2 0 D.no) = 40) then false else true)
 (opt (RUN E 138 [D.agg [D.str (D.toStr (D.cell (List.getD ρ2 1 D.no) 0)), D.int (D.toInt (D.cell (List.getD ρ2 1 D.no) 1)), D.bool (D.toBool (D.cell (List.getD ρ2 1 D.no) 2))]]) fun ρ4 =>
 some [List.getD ρ4 0 D.no, D.agg [D.str (D.toStr (D.cell (List.getD ρ4 1 D.no) 0)), D.int (D.toInt (D.cell (List.getD ρ4 1 D.no) 1)), D.bool (D.toBool (D.cell (List.getD ρ4 1 D.no) 2))]])
 (L158b (D.toStr (D.cell (List.getD ρ2 1 D.no) 0)) (D.toInt (D.cell (List.getD ρ2 1 D.no) 1)) (D.toBool (D.cell (List.getD ρ2 1 D.no) 2)) v2c0 v2c1 v2c2 v2c3 v2c4 v2c5 6 w3 0 false 0 [] x700136s []))
 (cond (bif bif D.toBool (List.getD ρ0 0 D.no) then false else true then true else true)
 (opt (RUN E 138 [D.agg [D.str p0c0, D.int p0c1, D.bool p0c2]]) fun ρ3 =>
 some [List.getD ρ3 0 D.no, D.agg [D.str (D.toStr (D.cell (List.getD ρ3 1 D.no) 0)), D.int (D.toInt (D.cell (List.getD ρ3 1 D.no) 1)), D.bool (D.toBool (D.cell (List.getD ρ3 1 D.no) 2))]])
 (L158b p0c0 p0c1 p0c2 v2c0 v2c1 v2c2 v2c3 v2c4 v2c5 6 w3 0 false 0 [] x700136s [])) := (PART_eq _ _ _ _ _ _).trans (by kernel_rfl)
theorem round158b (p0c0 : List UInt8) (p0c1 : Int) (p0c2 : Bool) (v2c0 : Int) (v2c1 : List UInt8) (v2c2 : Int) (v2c3 : Bool) (v2c4 : Int) (v2c5 : List UInt8) (x4c0 : Int) (x4c1 : List UInt8) (x4c2 : Int) (x4c3 : Bool) (x4c4 : Int) (x4c5 : List UInt8) (x700136s : List D) (x700264s : List D) : L158b p0c0 p0c1 p0c2 v2c0 v2c1 v2c2 v2c3 v2c4 v2c5 x4c0 x4c1 x4c2 x4c3 x4c4 x4c5 x700136s x700264s =
 opt (RUN E 23 [D.agg [D.str p0c0, D.int (IntKind.wrap IntKind.i64 (p0c1 + 1)), D.bool p0c2]]) fun ρ0 =>
 cond (fitL (List.length x700264s) (List.length [List.getD ρ0 0 D.no]))
 (opt (RUN E 24 [D.agg [D.str (D.toStr (D.cell (List.getD ρ0 1 D.no) 0)), D.int (D.toInt (D.cell (List.getD ρ0 1 D.no) 1)), D.bool (D.toBool (D.cell (List.getD ρ0 1 D.no) 2))]]) fun ρ2 =>
 cond (bif D.toBool (D.cell (List.getD ρ2 0 D.no) 2) then false else true)
 (opt (RUN E 137 [D.agg [D.str (D.toStr (D.cell (List.getD ρ2 0 D.no) 0)), D.int (D.toInt (D.cell (List.getD ρ2 0 D.no) 1)), D.bool (D.toBool (D.cell (List.getD ρ2 0 D.no) 2))]]) fun ρ4 =>
 cond (bif bif bif decide (D.toInt (List.getD ρ4 0 D.no) = 44) then false else true then true else false then bif D.toBool (D.cell (List.getD ρ2 0 D.no) 2) then false else true else false)
 (opt (RUN E 137 [D.agg [D.str (D.toStr (D.cell (List.getD ρ4 1 D.no) 0)), D.int (D.toInt (D.cell (List.getD ρ4 1 D.no) 1)), D.bool (D.toBool (D.cell (List.getD ρ4 1 D.no) 2))]]) fun ρ6 =>
 cond (bif D.toBool (D.cell (List.getD ρ2 0 D.no) 2) then true else bif bif decide (D.toInt (List.getD ρ4 0 D.no) = 44) then false else true then bif decide (D.toInt (List.getD ρ6 0 D.no) = 41) then false else true else false)
 (opt (RUN E 138 [D.agg [D.str (D.toStr (D.cell (List.getD ρ6 1 D.no) 0)), D.int (D.toInt (D.cell (List.getD ρ6 1 D.no) 1)), D.bool (D.toBool (D.cell (List.getD ρ6 1 D.no) 2))]]) fun ρ8 =>
 some [List.getD ρ8 0 D.no, D.agg [D.str (D.toStr (D.cell (List.getD ρ8 1 D.no) 0)), D.int (D.toInt (D.cell (List.getD ρ8 1 D.no) 1)), D.bool (D.toBool (D.cell (List.getD ρ8 1 D.no) 2))]])
 (opt (RUN E 137 [D.agg [D.str (D.toStr (D.cell (List.getD ρ6 1 D.no) 0)), D.int (D.toInt (D.cell (List.getD ρ6 1 D.no) 1)), D.bool (D.toBool (D.cell (List.getD ρ6 1 D.no) 2))]]) fun ρ8 =>
 cond (decide (D.toInt (List.getD ρ8 0 D.no) = 41))
 (some [D.agg [D.int x4c0, D.str x4c1, D.int x4c2, D.bool x4c3, D.int x4c4, D.str x4c5, D.list [], D.list [], D.list (x700264s ++ [List.getD ρ0 0 D.no])], D.agg [D.str (D.toStr (D.cell (List.getD ρ8 1 D.no) 0)), D.int (IntKind.wrap IntKind.i64 (D.toInt (D.cell (List.getD ρ8 1 D.no) 1) + 1)), D.bool (D.toBool (D.cell (List.getD ρ8 1 D.no) 2))]])
 (L158b (D.toStr (D.cell (List.getD ρ8 1 D.no) 0)) (D.toInt (D.cell (List.getD ρ8 1 D.no) 1)) (D.toBool (D.cell (List.getD ρ8 1 D.no) 2)) v2c0 v2c1 v2c2 v2c3 v2c4 v2c5 x4c0 x4c1 x4c2 x4c3 x4c4 x4c5 x700136s (x700264s ++ [List.getD ρ0 0 D.no]))))
 (cond (bif D.toBool (D.cell (List.getD ρ2 0 D.no) 2) then true else bif bif decide (D.toInt (List.getD ρ4 0 D.no) = 44) then false else true then true else false)
 (opt (RUN E 138 [D.agg [D.str (D.toStr (D.cell (List.getD ρ4 1 D.no) 0)), D.int (D.toInt (D.cell (List.getD ρ4 1 D.no) 1)), D.bool (D.toBool (D.cell (List.getD ρ4 1 D.no) 2))]]) fun ρ7 =>
 some [List.getD ρ7 0 D.no, D.agg [D.str (D.toStr (D.cell (List.getD ρ7 1 D.no) 0)), D.int (D.toInt (D.cell (List.getD ρ7 1 D.no) 1)), D.bool (D.toBool (D.cell (List.getD ρ7 1 D.no) 2))]])
 (opt (RUN E 137 [D.agg [D.str (D.toStr (D.cell (List.getD ρ4 1 D.no) 0)), D.int (D.toInt (D.cell (List.getD ρ4 1 D.no) 1)), D.bool (D.toBool (D.cell (List.getD ρ4 1 D.no) 2))]]) fun ρ7 =>
 cond (decide (D.toInt (List.getD ρ7 0 D.no) = 41))
 (some [D.agg [D.int x4c0, D.str x4c1, D.int x4c2, D.bool x4c3, D.int x4c4, D.str x4c5, D.list [], D.list [], D.list (x700264s ++ [List.getD ρ0 0 D.no])], D.agg [D.str (D.toStr (D.cell (List.getD ρ7 1 D.no) 0)), D.int (IntKind.wrap IntKind.i64 (D.toInt (D.cell (List.getD ρ7 1 D.no) 1) + 1)), D.bool (D.toBool (D.cell (List.getD ρ7 1 D.no) 2))]])
 (L158b (D.toStr (D.cell (List.getD ρ7 1 D.no) 0)) (D.toInt (D.cell (List.getD ρ7 1 D.no) 1)) (D.toBool (D.cell (List.getD ρ7 1 D.no) 2)) v2c0 v2c1 v2c2 v2c3 v2c4 v2c5 x4c0 x4c1 x4c2 x4c3 x4c4 x4c5 x700136s (x700264s ++ [List.getD ρ0 0 D.no])))))
 (cond (bif D.toBool (D.cell (List.getD ρ2 0 D.no) 2) then false else true)
 (opt (RUN E 137 [D.agg [D.str (D.toStr (D.cell (List.getD ρ2 0 D.no) 0)), D.int (D.toInt (D.cell (List.getD ρ2 0 D.no) 1)), D.bool (D.toBool (D.cell (List.getD ρ2 0 D.no) 2))]]) fun ρ5 =>
 cond (bif D.toBool (D.cell (List.getD ρ2 0 D.no) 2) then true else bif decide (D.toInt (List.getD ρ5 0 D.no) = 41) then false else true)
 (opt (RUN E 138 [D.agg [D.str (D.toStr (D.cell (List.getD ρ5 1 D.no) 0)), D.int (D.toInt (D.cell (List.getD ρ5 1 D.no) 1)), D.bool (D.toBool (D.cell (List.getD ρ5 1 D.no) 2))]]) fun ρ7 =>
 some [List.getD ρ7 0 D.no, D.agg [D.str (D.toStr (D.cell (List.getD ρ7 1 D.no) 0)), D.int (D.toInt (D.cell (List.getD ρ7 1 D.no) 1)), D.bool (D.toBool (D.cell (List.getD ρ7 1 D.no) 2))]])
 (opt (RUN E 137 [D.agg [D.str (D.toStr (D.cell (List.getD ρ5 1 D.no) 0)), D.int (D.toInt (D.cell (List.getD ρ5 1 D.no) 1)), D.bool (D.toBool (D.cell (List.getD ρ5 1 D.no) 2))]]) fun ρ7 =>
 cond (decide (D.toInt (List.getD ρ7 0 D.no) = 41))
 (some [D.agg [D.int x4c0, D.str x4c1, D.int x4c2, D.bool x4c3, D.int x4c4, D.str x4c5, D.list [], D.list [], D.list (x700264s ++ [List.getD ρ0 0 D.no])], D.agg [D.str (D.toStr (D.cell (List.getD ρ7 1 D.no) 0)), D.int (IntKind.wrap IntKind.i64 (D.toInt (D.cell (List.getD ρ7 1 D.no) 1) + 1)), D.bool (D.toBool (D.cell (List.getD ρ7 1 D.no) 2))]])
 (L158b (D.toStr (D.cell (List.getD ρ7 1 D.no) 0)) (D.toInt (D.cell (List.getD ρ7 1 D.no) 1)) (D.toBool (D.cell (List.getD ρ7 1 D.no) 2)) v2c0 v2c1 v2c2 v2c3 v2c4 v2c5 x4c0 x4c1 x4c2 x4c3 x4c4 x4c5 x700136s (x700264s ++ [List.getD ρ0 0 D.no]))))
 (cond (bif D.toBool (D.cell (List.getD ρ2 0 D.no) 2) then true else true)
 (opt (RUN E 138 [D.agg [D.str (D.toStr (D.cell (List.getD ρ2 0 D.no) 0)), D.int (D.toInt (D.cell (List.getD ρ2 0 D.no) 1)), D.bool (D.toBool (D.cell (List.getD ρ2 0 D.no) 2))]]) fun ρ6 =>
 some [List.getD ρ6 0 D.no, D.agg [D.str (D.toStr (D.cell (List.getD ρ6 1 D.no) 0)), D.int (D.toInt (D.cell (List.getD ρ6 1 D.no) 1)), D.bool (D.toBool (D.cell (List.getD ρ6 1 D.no) 2))]])
 (opt (RUN E 137 [D.agg [D.str (D.toStr (D.cell (List.getD ρ2 0 D.no) 0)), D.int (D.toInt (D.cell (List.getD ρ2 0 D.no) 1)), D.bool (D.toBool (D.cell (List.getD ρ2 0 D.no) 2))]]) fun ρ6 =>
 cond (decide (D.toInt (List.getD ρ6 0 D.no) = 41))
 (some [D.agg [D.int x4c0, D.str x4c1, D.int x4c2, D.bool x4c3, D.int x4c4, D.str x4c5, D.list [], D.list [], D.list (x700264s ++ [List.getD ρ0 0 D.no])], D.agg [D.str (D.toStr (D.cell (List.getD ρ6 1 D.no) 0)), D.int (IntKind.wrap IntKind.i64 (D.toInt (D.cell (List.getD ρ6 1 D.no) 1) + 1)), D.bool (D.toBool (D.cell (List.getD ρ6 1 D.no) 2))]])
 (L158b (D.toStr (D.cell (List.getD ρ6 1 D.no) 0)) (D.toInt (D.cell (List.getD ρ6 1 D.no) 1)) (D.toBool (D.cell (List.getD ρ6 1 D.no) 2)) v2c0 v2c1 v2c2 v2c3 v2c4 v2c5 x4c0 x4c1 x4c2 x4c3 x4c4 x4c5 x700136s (x700264s ++ [List.getD ρ0 0 D.no]))))))
 (none) := (LOOP_eq _ _ _ _ _ _).trans (by kernel_rfl)
/-! masthead/mastref1.constant -/
theorem enter163 (v0 : D) : RUN E 163 [v0] =
 some [D.agg [D.int 1, D.str [], D.int (D.toInt (D.cell v0 0)), D.bool (D.toBool (D.cell v0 1)), D.int (D.toInt (D.cell v0 2)), D.str (D.toStr (D.cell v0 3)), D.list (D.toList (D.cell v0 4)), D.list (D.toList (D.cell v0 5)), D.list []]] := (RUN_eq _ _ _).trans (by kernel_rfl)
/-! masthead/tmpl.constant -/
theorem enter165 (v0 : D) : RUN E 165 [v0] =
 some [D.agg [D.int 1, D.str [], D.int (D.toInt (D.cell v0 0)), D.bool (D.toBool (D.cell v0 1)), D.int (D.toInt (D.cell v0 2)), D.str (D.toStr (D.cell v0 3)), D.list (D.toList (D.cell v0 4)), D.list (D.toList (D.cell v0 5)), D.list []]] := (RUN_eq _ _ _).trans (by kernel_rfl)
end Go.Proofs.YtcmeincdmphaoaaGreatDoor.ex
