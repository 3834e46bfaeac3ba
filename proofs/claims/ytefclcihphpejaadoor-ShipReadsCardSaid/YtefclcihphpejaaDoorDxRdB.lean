/- A part of the proof. -/
import Derived.Test.YtefclcihphpejaaDoorDxRdA
set_option linter.unusedVariables false
set_option linter.unusedSimpArgs false
namespace Go.Proofs.YtefclcihphpejaaDoor.rd
open Go.Proofs.YtefclcihphpejaaDoor.DS

/-! masthead/mastlaw1.ShipReads -/
theorem enter4 (text0 : List UInt8) : RUN E 4 [D.str text0] =
 opt (RUN E 10 [D.str text0]) fun ρ0 =>
 opt (RUN E 11 [D.str text0]) fun ρ1 =>
 opt (cond (bif decide (D.toInt (List.getD ρ0 1 D.no) = D.toInt (List.getD ρ1 1 D.no)) then true else false)
 (RUN E 12 [List.getD ρ0 0 D.no, List.getD ρ1 0 D.no])
 (some [])) fun ρ2 =>
 some [D.bool (bif decide (D.toInt (List.getD ρ0 1 D.no) = D.toInt (List.getD ρ1 1 D.no)) then D.toBool (List.getD ρ2 0 D.no) else false)] := (RUN_eq _ _ _).trans (by kernel_rfl)
/-! masthead/ship.ReadIndex -/
def h10a (text0 : List UInt8) (x700128s : List D) (x700129s : List D) (x700130s : List D) (x700256s : List D) (x700257s : List D) (x700258s : List D) : St := mkSt 52 [(0, SV.val KT.str (D.str text0)), (2, SV.bptr 2 26 0 (KT.agg 26)), (4, SV.bptr 4 26 0 (KT.agg 26))] [(2, Obj.box 26 (BC.cells [SV.own 700128, SV.own 700129, SV.own 700130])), (4, Obj.box 26 (BC.cells [SV.own 700256, SV.own 700257, SV.own 700258])), (700128, Obj.arr 57 x700128s), (700129, Obj.arr 3 x700129s), (700130, Obj.arr 54 x700130s), (700256, Obj.arr 57 x700256s), (700257, Obj.arr 3 x700257s), (700258, Obj.arr 54 x700258s)]
noncomputable def L10a (text0 : List UInt8) (x700128s : List D) (x700129s : List D) (x700130s : List D) (x700256s : List D) (x700257s : List D) (x700258s : List D) : R := LOOP E (RUN E) 10 Tryd.f10 [1, 1, 1, 1, 0, 0] (h10a text0 x700128s x700129s x700130s x700256s x700257s x700258s)
def h10b (text0 : List UInt8) (ok8 : Bool) (x700128s : List D) (x700129s : List D) (x700130s : List D) (x700256s : List D) (x700257s : List D) (x700258s : List D) : St := mkSt 52 [(0, SV.val KT.str (D.str text0)), (2, SV.bptr 2 26 0 (KT.agg 26)), (4, SV.bptr 4 26 0 (KT.agg 26)), (8, SV.val KT.bool (D.bool ok8))] [(2, Obj.box 26 (BC.cells [SV.own 700128, SV.own 700129, SV.own 700130])), (4, Obj.box 26 (BC.cells [SV.own 700256, SV.own 700257, SV.own 700258])), (700128, Obj.arr 57 x700128s), (700129, Obj.arr 3 x700129s), (700130, Obj.arr 54 x700130s), (700256, Obj.arr 57 x700256s), (700257, Obj.arr 3 x700257s), (700258, Obj.arr 54 x700258s)]
noncomputable def C10b (text0 : List UInt8) (ok8 : Bool) (x700128s : List D) (x700129s : List D) (x700130s : List D) (x700256s : List D) (x700257s : List D) (x700258s : List D) : R := PART E (RUN E) 10 Tryd.f10 [1, 1, 1, 1, 0, 0, 0, 1, 0, 1, 1, 1, 1] (h10b text0 ok8 x700128s x700129s x700130s x700256s x700257s x700258s)
theorem enter10 (text0 : List UInt8) : RUN E 10 [D.str text0] =
 cond (decide (400000 < (↑(List.length text0) : Int)))
 (some [D.agg [D.list [], D.list [], D.list []], D.int 4])
 (opt (cond (bif bif decide (text0 = ([] : List UInt8)) then false else true then true else false)
 (RUN E 27 [D.str text0, D.str (([10] : List UInt8))])
 (some [])) fun ρ1 =>
 cond (bif bif decide (text0 = ([] : List UInt8)) then false else true then bif D.toBool (List.getD ρ1 0 D.no) then false else true else false)
 (some [D.agg [D.list [], D.list [], D.list []], D.int 8])
 (L10a text0 [] [] [] [] [] [])) := (RUN_eq _ _ _).trans (by kernel_rfl)
theorem round10a (text0 : List UInt8) (x700128s : List D) (x700129s : List D) (x700130s : List D) (x700256s : List D) (x700257s : List D) (x700258s : List D) : L10a text0 x700128s x700129s x700130s x700256s x700257s x700258s =
 cond (bif decide (text0 = ([] : List UInt8)) then false else true)
 (opt (RUN E 28 [D.str text0, D.str (([10] : List UInt8))]) fun ρ1 =>
 opt (RUN E 29 [D.str (D.toStr (List.getD ρ1 0 D.no)), D.str (([100, 111, 99, 32] : List UInt8))]) fun ρ2 =>
 cond (D.toBool (List.getD ρ2 0 D.no))
 (cond (cutOk (List.length (D.toStr (List.getD ρ1 0 D.no))) (some 4) none)
 (opt (RUN E 30 [D.agg [D.list x700256s, D.list x700257s, D.list x700258s], D.str (cutL (D.toStr (List.getD ρ1 0 D.no)) (some 4) none)]) fun ρ5 =>
 C10b (D.toStr (List.getD ρ1 1 D.no)) (D.toBool (List.getD ρ5 0 D.no)) x700128s x700129s x700130s (D.toList (D.cell (List.getD ρ5 1 D.no) 0)) (D.toList (D.cell (List.getD ρ5 1 D.no) 1)) (D.toList (D.cell (List.getD ρ5 1 D.no) 2)))
 (none))
 (opt (RUN E 29 [D.str (D.toStr (List.getD ρ1 0 D.no)), D.str (([116, 101, 114, 109, 32] : List UInt8))]) fun ρ4 =>
 cond (D.toBool (List.getD ρ4 0 D.no))
 (cond (cutOk (List.length (D.toStr (List.getD ρ1 0 D.no))) (some 5) none)
 (opt (RUN E 31 [D.agg [D.list x700256s, D.list x700257s, D.list x700258s], D.str (cutL (D.toStr (List.getD ρ1 0 D.no)) (some 5) none)]) fun ρ7 =>
 C10b (D.toStr (List.getD ρ1 1 D.no)) (D.toBool (List.getD ρ7 0 D.no)) x700128s x700129s x700130s (D.toList (D.cell (List.getD ρ7 1 D.no) 0)) (D.toList (D.cell (List.getD ρ7 1 D.no) 1)) (D.toList (D.cell (List.getD ρ7 1 D.no) 2)))
 (none))
 (C10b (D.toStr (List.getD ρ1 1 D.no)) false x700128s x700129s x700130s x700256s x700257s x700258s)))
 (opt (RUN E 20 [D.agg [D.list x700256s, D.list x700257s, D.list x700258s]]) fun ρ1 =>
 cond (bif decide (D.toInt (List.getD ρ1 0 D.no) = 0) then false else true)
 (some [D.agg [D.list [], D.list [], D.list []], D.int (D.toInt (List.getD ρ1 0 D.no))])
 (some [D.agg [D.list x700256s, D.list x700257s, D.list x700258s], D.int 0])) := (LOOP_eq _ _ _ _ _ _).trans (by kernel_rfl)
theorem round10b (text0 : List UInt8) (ok8 : Bool) (x700128s : List D) (x700129s : List D) (x700130s : List D) (x700256s : List D) (x700257s : List D) (x700258s : List D) : C10b text0 ok8 x700128s x700129s x700130s x700256s x700257s x700258s =
 cond (bif ok8 then false else true)
 (some [D.agg [D.list [], D.list [], D.list []], D.int 8])
 (L10a text0 x700128s x700129s x700130s x700256s x700257s x700258s) := (PART_eq _ _ _ _ _ _).trans (by kernel_rfl)
/-! masthead/mastref1.IndexRead -/
def h11a (v34 : List D) (v35 : Int) (v36 : Int) (x700128s : List D) (x700129s : List D) (x700130s : List D) (x700256s : List D) (x700257s : List D) (x700258s : List D) : St := mkSt 164 [(2, SV.bptr 2 26 0 (KT.agg 26)), (4, SV.bptr 4 26 0 (KT.agg 26)), (34, SV.val (KT.slice 9) (D.list v34)), (35, SV.val (KT.int IntKind.i64) (D.int v35)), (36, SV.val (KT.int IntKind.i64) (D.int v36))] [(2, Obj.box 26 (BC.cells [SV.own 700128, SV.own 700129, SV.own 700130])), (4, Obj.box 26 (BC.cells [SV.own 700256, SV.own 700257, SV.own 700258])), (700128, Obj.arr 57 x700128s), (700129, Obj.arr 3 x700129s), (700130, Obj.arr 54 x700130s), (700256, Obj.arr 57 x700256s), (700257, Obj.arr 3 x700257s), (700258, Obj.arr 54 x700258s)]
noncomputable def L11a (v34 : List D) (v35 : Int) (v36 : Int) (x700128s : List D) (x700129s : List D) (x700130s : List D) (x700256s : List D) (x700257s : List D) (x700258s : List D) : R := LOOP E (RUN E) 11 Tryd.f11 [1, 1, 1, 1, 0, 1, 0] (h11a v34 v35 v36 x700128s x700129s x700130s x700256s x700257s x700258s)
def h11c (ok7 : Bool) (v34 : List D) (v35 : Int) (v36 : Int) (x700128s : List D) (x700129s : List D) (x700130s : List D) (x700256s : List D) (x700257s : List D) (x700258s : List D) : St := mkSt 164 [(2, SV.bptr 2 26 0 (KT.agg 26)), (4, SV.bptr 4 26 0 (KT.agg 26)), (7, SV.val KT.bool (D.bool ok7)), (34, SV.val (KT.slice 9) (D.list v34)), (35, SV.val (KT.int IntKind.i64) (D.int v35)), (36, SV.val (KT.int IntKind.i64) (D.int v36))] [(2, Obj.box 26 (BC.cells [SV.own 700128, SV.own 700129, SV.own 700130])), (4, Obj.box 26 (BC.cells [SV.own 700256, SV.own 700257, SV.own 700258])), (700128, Obj.arr 57 x700128s), (700129, Obj.arr 3 x700129s), (700130, Obj.arr 54 x700130s), (700256, Obj.arr 57 x700256s), (700257, Obj.arr 3 x700257s), (700258, Obj.arr 54 x700258s)]
noncomputable def C11c (ok7 : Bool) (v34 : List D) (v35 : Int) (v36 : Int) (x700128s : List D) (x700129s : List D) (x700130s : List D) (x700256s : List D) (x700257s : List D) (x700258s : List D) : R := PART E (RUN E) 11 Tryd.f11 [1, 1, 1, 1, 0, 1, 0, 0, 1, 1, 0, 0, 1, 1, 1] (h11c ok7 v34 v35 v36 x700128s x700129s x700130s x700256s x700257s x700258s)
def h11b (ok7 : Bool) (v34 : List D) (v35 : Int) (v36 : Int) (v102 : List D) (v103 : Int) (v104 : Int) (t11c0 : List UInt8) (x700128s : List D) (x700129s : List D) (x700130s : List D) (x700256s : List D) (x700257s : List D) (x700258s : List D) (x700705s : List D) (x700706s : List D) : St := mkSt 164 [(2, SV.bptr 2 26 0 (KT.agg 26)), (4, SV.bptr 4 26 0 (KT.agg 26)), (7, SV.val KT.bool (D.bool ok7)), (11, SV.bptr 11 54 0 (KT.agg 54)), (34, SV.val (KT.slice 9) (D.list v34)), (35, SV.val (KT.int IntKind.i64) (D.int v35)), (36, SV.val (KT.int IntKind.i64) (D.int v36)), (102, SV.val (KT.slice 9) (D.list v102)), (103, SV.val (KT.int IntKind.i64) (D.int v103)), (104, SV.val (KT.int IntKind.i64) (D.int v104))] [(2, Obj.box 26 (BC.cells [SV.own 700128, SV.own 700129, SV.own 700130])), (4, Obj.box 26 (BC.cells [SV.own 700256, SV.own 700257, SV.own 700258])), (11, Obj.box 54 (BC.cells [SV.val KT.str (D.str t11c0), SV.own 700705, SV.own 700706])), (700128, Obj.arr 57 x700128s), (700129, Obj.arr 3 x700129s), (700130, Obj.arr 54 x700130s), (700256, Obj.arr 57 x700256s), (700257, Obj.arr 3 x700257s), (700258, Obj.arr 54 x700258s), (700705, Obj.arr 3 x700705s), (700706, Obj.arr 3 x700706s)]
noncomputable def L11b (ok7 : Bool) (v34 : List D) (v35 : Int) (v36 : Int) (v102 : List D) (v103 : Int) (v104 : Int) (t11c0 : List UInt8) (x700128s : List D) (x700129s : List D) (x700130s : List D) (x700256s : List D) (x700257s : List D) (x700258s : List D) (x700705s : List D) (x700706s : List D) : R := LOOP E (RUN E) 11 Tryd.f11 [1, 1, 1, 1, 0, 1, 0, 0, 1, 1, 0, 0, 1, 1, 0, 1, 1, 1, 0, 1, 1, 1, 0, 1, 0] (h11b ok7 v34 v35 v36 v102 v103 v104 t11c0 x700128s x700129s x700130s x700256s x700257s x700258s x700705s x700706s)
theorem enter11 (s0 : List UInt8) : RUN E 11 [D.str s0] =
 cond (decide (400000 < (↑(List.length s0) : Int)))
 (some [D.agg [D.list [], D.list [], D.list []], D.int 4])
 (opt (cond (bif bif decide (s0 = ([] : List UInt8)) then false else true then true else false)
 (RUN E 27 [D.str s0, D.str (([10] : List UInt8))])
 (some [])) fun ρ1 =>
 cond (bif bif decide (s0 = ([] : List UInt8)) then false else true then bif D.toBool (List.getD ρ1 0 D.no) then false else true else false)
 (some [D.agg [D.list [], D.list [], D.list []], D.int 8])
 (opt (RUN E 32 [D.str s0]) fun ρ3 =>
 L11a (D.toList (List.getD ρ3 0 D.no)) ((↑(List.length (D.toList (List.getD ρ3 0 D.no))) : Int)) 0 [] [] [] [] [] [])) := (RUN_eq _ _ _).trans (by kernel_rfl)
theorem round11a (v34 : List D) (v35 : Int) (v36 : Int) (x700128s : List D) (x700129s : List D) (x700130s : List D) (x700256s : List D) (x700257s : List D) (x700258s : List D) : L11a v34 v35 v36 x700128s x700129s x700130s x700256s x700257s x700258s =
 cond (decide (v36 < v35))
 (cond (inb v36 (List.length v34))
 (opt (RUN E 29 [D.str (D.toStr (List.getD v34 (Int.toNat v36) D.no)), D.str (([100, 111, 99, 32] : List UInt8))]) fun ρ2 =>
 cond (bif D.toBool (List.getD ρ2 0 D.no) then decide ((↑(List.length x700258s) : Int) = 0) else false)
 (opt (RUN E 33 [D.str (D.toStr (List.getD v34 (Int.toNat v36) D.no)), D.str (([32] : List UInt8)), D.int 4]) fun ρ4 =>
 cond (bif inb 1 (List.length (D.toList (List.getD ρ4 0 D.no))) then true else bif bif decide ((↑(List.length (D.toList (List.getD ρ4 0 D.no))) : Int) = 4) then true else false then false else true)
 (cond (bif decide ((↑(List.length (D.toList (List.getD ρ4 0 D.no))) : Int) = 4) then bif decide (D.toStr (List.getD (D.toList (List.getD ρ4 0 D.no)) 1 D.no) = ([] : List UInt8)) then false else true else false)
 (cond (inb 2 (List.length (D.toList (List.getD ρ4 0 D.no))))
 (opt (RUN E 34 [D.str (D.toStr (List.getD (D.toList (List.getD ρ4 0 D.no)) 2 D.no))]) fun ρ8 =>
 cond (inb 1 (List.length (D.toList (List.getD ρ4 0 D.no))))
 (cond (inb 3 (List.length (D.toList (List.getD ρ4 0 D.no))))
 (cond (fitL (List.length x700256s) (List.length [D.agg (setField KT.str (TI.cells { kt := KT.str, cells := [KT.str], fields := [], bytes := 16 }) (setField KT.str (TI.cells { kt := KT.str, cells := [KT.str], fields := [], bytes := 16 }) (List.map zeroD (TI.cells { kt := KT.agg 57, cells := [KT.str, KT.str, KT.str], fields := [(0, 9), (1, 9), (2, 9)], bytes := 48 })) (Prod.fst (0, 9)) (D.str (D.toStr (List.getD (D.toList (List.getD ρ4 0 D.no)) 1 D.no)))) (Prod.fst (1, 9)) (D.str (D.toStr (List.getD (D.toList (List.getD ρ4 0 D.no)) 3 D.no))))]))
 (cond (fitL (List.length x700257s) (List.length [D.int (D.toInt (List.getD ρ8 0 D.no))]))
 (C11c (D.toBool (List.getD ρ8 1 D.no)) v34 v35 v36 x700128s x700129s x700130s (x700256s ++ [D.agg (setField KT.str (TI.cells { kt := KT.str, cells := [KT.str], fields := [], bytes := 16 }) (setField KT.str (TI.cells { kt := KT.str, cells := [KT.str], fields := [], bytes := 16 }) (List.map zeroD (TI.cells { kt := KT.agg 57, cells := [KT.str, KT.str, KT.str], fields := [(0, 9), (1, 9), (2, 9)], bytes := 48 })) (Prod.fst (0, 9)) (D.str (D.toStr (List.getD (D.toList (List.getD ρ4 0 D.no)) 1 D.no)))) (Prod.fst (1, 9)) (D.str (D.toStr (List.getD (D.toList (List.getD ρ4 0 D.no)) 3 D.no))))]) (x700257s ++ [D.int (D.toInt (List.getD ρ8 0 D.no))]) x700258s)
 (none))
 (none))
 (none))
 (none))
 (none))
 (C11c false v34 v35 v36 x700128s x700129s x700130s x700256s x700257s x700258s))
 (none))
 (opt (RUN E 29 [D.str (D.toStr (List.getD v34 (Int.toNat v36) D.no)), D.str (([116, 101, 114, 109, 32] : List UInt8))]) fun ρ4 =>
 cond (D.toBool (List.getD ρ4 0 D.no))
 (opt (RUN E 35 [D.str (D.toStr (List.getD v34 (Int.toNat v36) D.no)), D.str (([32] : List UInt8))]) fun ρ6 =>
 cond (inb 1 (List.length (D.toList (List.getD ρ6 0 D.no))))
 (cond (inb 1 (List.length (D.toList (List.getD ρ6 0 D.no))))
 (cond (cutOk (List.length (D.toList (List.getD ρ6 0 D.no))) (some 2) none)
 (L11b (bif !decide (D.toStr (List.getD (D.toList (List.getD ρ6 0 D.no)) 1 D.no) = ([] : List UInt8)) then decide (2 < (↑(List.length (D.toList (List.getD ρ6 0 D.no))) : Int)) else false) v34 v35 v36 (cutL (D.toList (List.getD ρ6 0 D.no)) (some 2) none) ((↑(List.length (cutL (D.toList (List.getD ρ6 0 D.no)) (some 2) none)) : Int)) 0 (D.toStr (List.getD (D.toList (List.getD ρ6 0 D.no)) 1 D.no)) x700128s x700129s x700130s x700256s x700257s x700258s [] [])
 (none))
 (none))
 (none))
 (C11c false v34 v35 v36 x700128s x700129s x700130s x700256s x700257s x700258s)))
 (none))
 (opt (RUN E 8 [D.agg [D.list x700256s, D.list x700257s, D.list x700258s]]) fun ρ1 =>
 cond (bif decide (D.toInt (List.getD ρ1 0 D.no) = 0) then false else true)
 (some [D.agg [D.list [], D.list [], D.list []], D.int (D.toInt (List.getD ρ1 0 D.no))])
 (some [D.agg [D.list x700256s, D.list x700257s, D.list x700258s], D.int 0])) := (LOOP_eq _ _ _ _ _ _).trans (by kernel_rfl)
theorem round11c (ok7 : Bool) (v34 : List D) (v35 : Int) (v36 : Int) (x700128s : List D) (x700129s : List D) (x700130s : List D) (x700256s : List D) (x700257s : List D) (x700258s : List D) : C11c ok7 v34 v35 v36 x700128s x700129s x700130s x700256s x700257s x700258s =
 cond (bif ok7 then false else true)
 (some [D.agg [D.list [], D.list [], D.list []], D.int 8])
 (L11a v34 v35 (IntKind.wrap IntKind.i64 (v36 + 1)) x700128s x700129s x700130s x700256s x700257s x700258s) := (PART_eq _ _ _ _ _ _).trans (by kernel_rfl)
theorem round11b (ok7 : Bool) (v34 : List D) (v35 : Int) (v36 : Int) (v102 : List D) (v103 : Int) (v104 : Int) (t11c0 : List UInt8) (x700128s : List D) (x700129s : List D) (x700130s : List D) (x700256s : List D) (x700257s : List D) (x700258s : List D) (x700705s : List D) (x700706s : List D) : L11b ok7 v34 v35 v36 v102 v103 v104 t11c0 x700128s x700129s x700130s x700256s x700257s x700258s x700705s x700706s =
 cond (decide (v104 < v103))
 (cond (inb v104 (List.length v102))
 (opt (RUN E 36 [D.str (D.toStr (List.getD v102 (Int.toNat v104) D.no)), D.int 58]) fun ρ2 =>
 cond (decide (D.toInt (List.getD ρ2 0 D.no) < 0))
 (cond (fitL (List.length x700258s) (List.length [D.agg [D.str t11c0, D.list x700705s, D.list x700706s]]))
 (C11c false v34 v35 v36 x700128s x700129s x700130s x700256s x700257s (x700258s ++ [D.agg [D.str t11c0, D.list x700705s, D.list x700706s]]))
 (none))
 (cond (cutOk (List.length (D.toStr (List.getD v102 (Int.toNat v104) D.no))) none (some (D.toInt (List.getD ρ2 0 D.no))))
 (opt (RUN E 34 [D.str (cutL (D.toStr (List.getD v102 (Int.toNat v104) D.no)) none (some (D.toInt (List.getD ρ2 0 D.no))))]) fun ρ5 =>
 cond (cutOk (List.length (D.toStr (List.getD v102 (Int.toNat v104) D.no))) (some (IntKind.wrap IntKind.i64 (D.toInt (List.getD ρ2 0 D.no) + 1))) none)
 (opt (RUN E 34 [D.str (cutL (D.toStr (List.getD v102 (Int.toNat v104) D.no)) (some (IntKind.wrap IntKind.i64 (D.toInt (List.getD ρ2 0 D.no) + 1))) none)]) fun ρ7 =>
 cond (fitL (List.length x700705s) (List.length [D.int (D.toInt (List.getD ρ5 0 D.no))]))
 (cond (fitL (List.length x700706s) (List.length [D.int (D.toInt (List.getD ρ7 0 D.no))]))
 (L11b (bif bif ok7 then D.toBool (List.getD ρ5 1 D.no) else false then D.toBool (List.getD ρ7 1 D.no) else false) v34 v35 v36 v102 v103 (IntKind.wrap IntKind.i64 (v104 + 1)) t11c0 x700128s x700129s x700130s x700256s x700257s x700258s (x700705s ++ [D.int (D.toInt (List.getD ρ5 0 D.no))]) (x700706s ++ [D.int (D.toInt (List.getD ρ7 0 D.no))]))
 (none))
 (none))
 (none))
 (none)))
 (none))
 (cond (fitL (List.length x700258s) (List.length [D.agg [D.str t11c0, D.list x700705s, D.list x700706s]]))
 (C11c ok7 v34 v35 v36 x700128s x700129s x700130s x700256s x700257s (x700258s ++ [D.agg [D.str t11c0, D.list x700705s, D.list x700706s]]))
 (none)) := (LOOP_eq _ _ _ _ _ _).trans (by kernel_rfl)
/-! masthead/mastlaw1.sameIndex -/
def h12a (v32 : List D) (v33 : Int) (v34 : Int) (b3 : D) : St := mkSt 66 [(3, SV.bptr 3 26 0 (KT.agg 26)), (32, SV.val (KT.slice 54) (D.list v32)), (33, SV.val (KT.int IntKind.i64) (D.int v33)), (34, SV.val (KT.int IntKind.i64) (D.int v34))] [(3, Obj.box 26 (BC.whole b3))]
noncomputable def L12a (v32 : List D) (v33 : Int) (v34 : Int) (b3 : D) : R := LOOP E (RUN E) 12 Tryd.f12 [1, 1, 0, 1, 0] (h12a v32 v33 v34 b3)
theorem enter12 (a0 : D) (b1 : D) : RUN E 12 [a0, b1] =
 opt (RUN E 37 [D.list (D.toList (D.cell a0 0)), D.list (D.toList (D.cell b1 0))]) fun ρ0 =>
 opt (cond (bif bif D.toBool (List.getD ρ0 0 D.no) then false else true then false else true)
 (RUN E 38 [D.list (D.toList (D.cell a0 1)), D.list (D.toList (D.cell b1 1))])
 (some [])) fun ρ1 =>
 cond (bif bif bif D.toBool (List.getD ρ0 0 D.no) then false else true then true else bif D.toBool (List.getD ρ1 0 D.no) then false else true then true else bif decide ((↑(List.length (D.toList (D.cell a0 2))) : Int) = (↑(List.length (D.toList (D.cell b1 2))) : Int)) then false else true)
 (some [D.bool false])
 (L12a (D.toList (D.cell a0 2)) ((↑(List.length (D.toList (D.cell a0 2))) : Int)) 0 b1) := (RUN_eq _ _ _).trans (by kernel_rfl)
theorem round12a (v32 : List D) (v33 : Int) (v34 : Int) (b3 : D) : L12a v32 v33 v34 b3 =
 cond (decide (v34 < v33))
 (cond (inb v34 (List.length v32))
 (cond (inb v34 (List.length (D.toList (D.cell b3 2))))
 (opt (cond (bif bif decide (D.toStr (D.cell (List.getD v32 (Int.toNat v34) D.no) 0) = D.toStr (D.cell (List.getD (D.toList (D.cell b3 2)) (Int.toNat v34) D.no) 0)) then false else true then false else true)
 (RUN E 38 [D.list (D.toList (D.cell (List.getD v32 (Int.toNat v34) D.no) 1)), D.list (D.toList (D.cell (List.getD (D.toList (D.cell b3 2)) (Int.toNat v34) D.no) 1))])
 (some [])) fun ρ3 =>
 opt (cond (bif bif bif decide (D.toStr (D.cell (List.getD v32 (Int.toNat v34) D.no) 0) = D.toStr (D.cell (List.getD (D.toList (D.cell b3 2)) (Int.toNat v34) D.no) 0)) then false else true then true else bif D.toBool (List.getD ρ3 0 D.no) then false else true then false else true)
 (RUN E 38 [D.list (D.toList (D.cell (List.getD v32 (Int.toNat v34) D.no) 2)), D.list (D.toList (D.cell (List.getD (D.toList (D.cell b3 2)) (Int.toNat v34) D.no) 2))])
 (some [])) fun ρ4 =>
 cond (bif bif bif decide (D.toStr (D.cell (List.getD v32 (Int.toNat v34) D.no) 0) = D.toStr (D.cell (List.getD (D.toList (D.cell b3 2)) (Int.toNat v34) D.no) 0)) then false else true then true else bif D.toBool (List.getD ρ3 0 D.no) then false else true then true else bif D.toBool (List.getD ρ4 0 D.no) then false else true)
 (some [D.bool false])
 (L12a v32 v33 (IntKind.wrap IntKind.i64 (v34 + 1)) b3))
 (none))
 (none))
 (some [D.bool true]) := (LOOP_eq _ _ _ _ _ _).trans (by kernel_rfl)
/-! strings.HasSuffix -/
theorem enter27 (s0 : List UInt8) (suffix1 : List UInt8) : RUN E 27 [D.str s0, D.str suffix1] =
 opt (RUN E 62 [D.str s0, D.str suffix1]) fun ρ0 =>
 some [D.bool (D.toBool (List.getD ρ0 0 D.no))] := (RUN_eq _ _ _).trans (by kernel_rfl)
/-! strings.Cut -/
theorem enter28 (s0 : List UInt8) (sep1 : List UInt8) : RUN E 28 [D.str s0, D.str sep1] =
 opt (RUN E 63 [D.str s0, D.str sep1]) fun ρ0 =>
 some [D.str (D.toStr (List.getD ρ0 0 D.no)), D.str (D.toStr (List.getD ρ0 1 D.no)), D.bool (D.toBool (List.getD ρ0 2 D.no))] := (RUN_eq _ _ _).trans (by kernel_rfl)
/-! strings.HasPrefix -/
theorem enter29 (s0 : List UInt8) (prefix1 : List UInt8) : RUN E 29 [D.str s0, D.str prefix1] =
 opt (RUN E 64 [D.str s0, D.str prefix1]) fun ρ0 =>
 some [D.bool (D.toBool (List.getD ρ0 0 D.no))] := (RUN_eq _ _ _).trans (by kernel_rfl)
/-! masthead/ship.readDoc -/
theorem enter30 (x0c0 : List D) (x0c1 : List D) (x0c2 : List D) (s1 : List UInt8) : RUN E 30 [D.agg [D.list x0c0, D.list x0c1, D.list x0c2], D.str s1] =
 opt (RUN E 65 [D.str s1, D.int 32]) fun ρ0 =>
 cond (bif decide (D.toStr (List.getD ρ0 0 D.no) = ([] : List UInt8)) then true else decide (D.toStr (List.getD ρ0 1 D.no) = ([] : List UInt8)))
 (some [D.bool false, D.agg [D.list x0c0, D.list x0c1, D.list x0c2]])
 (cond (cutOk (List.length (D.toStr (List.getD ρ0 1 D.no))) (some 1) none)
 (opt (RUN E 65 [D.str (cutL (D.toStr (List.getD ρ0 1 D.no)) (some 1) none), D.int 32]) fun ρ3 =>
 opt (RUN E 66 [D.str (D.toStr (List.getD ρ3 0 D.no))]) fun ρ4 =>
 cond (bif bif bif D.toBool (List.getD ρ4 1 D.no) then false else true then true else decide (D.toStr (List.getD ρ3 1 D.no) = ([] : List UInt8)) then true else decide (0 < (↑(List.length x0c2) : Int)))
 (some [D.bool false, D.agg [D.list x0c0, D.list x0c1, D.list x0c2]])
 (cond (cutOk (List.length (D.toStr (List.getD ρ3 1 D.no))) (some 1) none)
 (cond (fitL (List.length x0c0) (List.length [D.agg (setField KT.str (TI.cells { kt := KT.str, cells := [KT.str], fields := [], bytes := 16 }) (setField KT.str (TI.cells { kt := KT.str, cells := [KT.str], fields := [], bytes := 16 }) (List.map zeroD (TI.cells { kt := KT.agg 57, cells := [KT.str, KT.str, KT.str], fields := [(0, 9), (1, 9), (2, 9)], bytes := 48 })) (Prod.fst (0, 9)) (D.str (D.toStr (List.getD ρ0 0 D.no)))) (Prod.fst (1, 9)) (D.str (cutL (D.toStr (List.getD ρ3 1 D.no)) (some 1) none)))]))
 (cond (fitL (List.length x0c1) (List.length [D.int (D.toInt (List.getD ρ4 0 D.no))]))
 (some [D.bool true, D.agg [D.list (x0c0 ++ [D.agg (setField KT.str (TI.cells { kt := KT.str, cells := [KT.str], fields := [], bytes := 16 }) (setField KT.str (TI.cells { kt := KT.str, cells := [KT.str], fields := [], bytes := 16 }) (List.map zeroD (TI.cells { kt := KT.agg 57, cells := [KT.str, KT.str, KT.str], fields := [(0, 9), (1, 9), (2, 9)], bytes := 48 })) (Prod.fst (0, 9)) (D.str (D.toStr (List.getD ρ0 0 D.no)))) (Prod.fst (1, 9)) (D.str (cutL (D.toStr (List.getD ρ3 1 D.no)) (some 1) none)))]), D.list (x0c1 ++ [D.int (D.toInt (List.getD ρ4 0 D.no))]), D.list x0c2]])
 (none))
 (none))
 (none)))
 (none)) := (RUN_eq _ _ _).trans (by kernel_rfl)
/-! masthead/ship.readTerm -/
def h31a (v23 : List D) (v24 : Int) (v25 : Int) (t6c0 : List UInt8) (x700000s : List D) (x700001s : List D) (x700002s : List D) (x700385s : List D) (x700386s : List D) : St := mkSt 83 [(0, SV.bptr 0 26 0 (KT.agg 26)), (6, SV.bptr 6 54 0 (KT.agg 54)), (23, SV.val (KT.slice 9) (D.list v23)), (24, SV.val (KT.int IntKind.i64) (D.int v24)), (25, SV.val (KT.int IntKind.i64) (D.int v25))] [(0, Obj.box 26 (BC.cells [SV.own 700000, SV.own 700001, SV.own 700002])), (6, Obj.box 54 (BC.cells [SV.val KT.str (D.str t6c0), SV.own 700385, SV.own 700386])), (700000, Obj.arr 57 x700000s), (700001, Obj.arr 3 x700001s), (700002, Obj.arr 54 x700002s), (700385, Obj.arr 3 x700385s), (700386, Obj.arr 3 x700386s)]
noncomputable def L31a (v23 : List D) (v24 : Int) (v25 : Int) (t6c0 : List UInt8) (x700000s : List D) (x700001s : List D) (x700002s : List D) (x700385s : List D) (x700386s : List D) : R := LOOP E (RUN E) 31 Tryd.f31 [1, 1, 1, 0, 1, 0] (h31a v23 v24 v25 t6c0 x700000s x700001s x700002s x700385s x700386s)
theorem enter31 (x0c0 : List D) (x0c1 : List D) (x0c2 : List D) (s1 : List UInt8) : RUN E 31 [D.agg [D.list x0c0, D.list x0c1, D.list x0c2], D.str s1] =
 opt (RUN E 35 [D.str s1, D.str (([32] : List UInt8))]) fun ρ0 =>
 cond (inb 0 (List.length (D.toList (List.getD ρ0 0 D.no))))
 (cond (cutOk (List.length (D.toList (List.getD ρ0 0 D.no))) (some 1) none)
 (L31a (cutL (D.toList (List.getD ρ0 0 D.no)) (some 1) none) ((↑(List.length (cutL (D.toList (List.getD ρ0 0 D.no)) (some 1) none)) : Int)) 0 (D.toStr (List.getD (D.toList (List.getD ρ0 0 D.no)) 0 D.no)) x0c0 x0c1 x0c2 [] [])
 (none))
 (none) := (RUN_eq _ _ _).trans (by kernel_rfl)
theorem round31a (v23 : List D) (v24 : Int) (v25 : Int) (t6c0 : List UInt8) (x700000s : List D) (x700001s : List D) (x700002s : List D) (x700385s : List D) (x700386s : List D) : L31a v23 v24 v25 t6c0 x700000s x700001s x700002s x700385s x700386s =
 cond (decide (v25 < v24))
 (cond (inb v25 (List.length v23))
 (opt (RUN E 28 [D.str (D.toStr (List.getD v23 (Int.toNat v25) D.no)), D.str (([58] : List UInt8))]) fun ρ2 =>
 opt (RUN E 66 [D.str (D.toStr (List.getD ρ2 0 D.no))]) fun ρ3 =>
 opt (RUN E 66 [D.str (D.toStr (List.getD ρ2 1 D.no))]) fun ρ4 =>
 cond (bif bif D.toBool (List.getD ρ3 1 D.no) then false else true then true else bif D.toBool (List.getD ρ4 1 D.no) then false else true)
 (some [D.bool false, D.agg [D.list x700000s, D.list x700001s, D.list x700002s]])
 (cond (fitL (List.length x700385s) (List.length [D.int (D.toInt (List.getD ρ3 0 D.no))]))
 (cond (fitL (List.length x700386s) (List.length [D.int (D.toInt (List.getD ρ4 0 D.no))]))
 (L31a v23 v24 (IntKind.wrap IntKind.i64 (v25 + 1)) t6c0 x700000s x700001s x700002s (x700385s ++ [D.int (D.toInt (List.getD ρ3 0 D.no))]) (x700386s ++ [D.int (D.toInt (List.getD ρ4 0 D.no))]))
 (none))
 (none)))
 (none))
 (cond (fitL (List.length x700002s) (List.length [D.agg [D.str t6c0, D.list x700385s, D.list x700386s]]))
 (some [D.bool (bif !decide (t6c0 = ([] : List UInt8)) then decide (0 < (↑(List.length x700385s) : Int)) else false), D.agg [D.list x700000s, D.list x700001s, D.list (x700002s ++ [D.agg [D.str t6c0, D.list x700385s, D.list x700386s]])]])
 (none)) := (LOOP_eq _ _ _ _ _ _).trans (by kernel_rfl)
/-! masthead/ship.indexFault -/
def h20a (v14 : List D) (v15 : Int) (v16 : Int) (x1 : D) : St := mkSt 62 [(1, SV.bptr 1 26 0 (KT.agg 26)), (14, SV.val (KT.slice 54) (D.list v14)), (15, SV.val (KT.int IntKind.i64) (D.int v15)), (16, SV.val (KT.int IntKind.i64) (D.int v16))] [(1, Obj.box 26 (BC.whole x1))]
noncomputable def L20a (v14 : List D) (v15 : Int) (v16 : Int) (x1 : D) : R := LOOP E (RUN E) 20 Tryd.f20 [1, 1, 0, 1, 0] (h20a v14 v15 v16 x1)
theorem enter20 (x0 : D) : RUN E 20 [x0] =
 opt (RUN E 50 [x0]) fun ρ0 =>
 cond (bif decide (D.toInt (List.getD ρ0 0 D.no) = 0) then false else true)
 (some [D.int (D.toInt (List.getD ρ0 0 D.no))])
 (L20a (D.toList (D.cell x0 2)) ((↑(List.length (D.toList (D.cell x0 2))) : Int)) 0 x0) := (RUN_eq _ _ _).trans (by kernel_rfl)
theorem round20a (v14 : List D) (v15 : Int) (v16 : Int) (x1 : D) : L20a v14 v15 v16 x1 =
 cond (decide (v16 < v15))
 (cond (inb v16 (List.length v14))
 (opt (RUN E 51 [D.str (D.toStr (D.cell (List.getD v14 (Int.toNat v16) D.no) 0))]) fun ρ2 =>
 cond (bif inb 0 (List.length (D.toList (List.getD ρ2 0 D.no))) then true else bif bif bif decide ((↑(List.length (D.toList (List.getD ρ2 0 D.no))) : Int) = 1) then false else true then false else true then false else true)
 (cond (bif bif decide ((↑(List.length (D.toList (List.getD ρ2 0 D.no))) : Int) = 1) then false else true then true else bif decide (D.toStr (List.getD (D.toList (List.getD ρ2 0 D.no)) 0 D.no) = D.toStr (D.cell (List.getD v14 (Int.toNat v16) D.no) 0)) then false else true)
 (some [D.int 1])
 (cond (bif inb (IntKind.wrap IntKind.i64 (v16 - 1)) (List.length (D.toList (D.cell x1 2))) then true else bif bif decide (0 < v16) then true else false then false else true)
 (cond (bif decide (0 < v16) then bif Op.bytesLess (D.toStr (D.cell (List.getD v14 (Int.toNat v16) D.no) 0)) (D.toStr (D.cell (List.getD (D.toList (D.cell x1 2)) (Int.toNat (IntKind.wrap IntKind.i64 (v16 - 1))) D.no) 0)) then true else (fun (_ : Unit) => decide (D.toStr (D.cell (List.getD v14 (Int.toNat v16) D.no) 0) = D.toStr (D.cell (List.getD (D.toList (D.cell x1 2)) (Int.toNat (IntKind.wrap IntKind.i64 (v16 - 1))) D.no) 0))) () else false)
 (some [D.int 5])
 (opt (RUN E 52 [List.getD v14 (Int.toNat v16) D.no, D.int (↑(List.length (D.toList (D.cell x1 0))) : Int)]) fun ρ7 =>
 cond (bif decide (D.toInt (List.getD ρ7 0 D.no) = 0) then false else true)
 (some [D.int (D.toInt (List.getD ρ7 0 D.no))])
 (L20a v14 v15 (IntKind.wrap IntKind.i64 (v16 + 1)) x1)))
 (none)))
 (none))
 (none))
 (opt (RUN E 21 [x1]) fun ρ1 =>
 cond (decide (400000 < (↑(List.length (D.toStr (List.getD ρ1 0 D.no))) : Int)))
 (some [D.int 4])
 (some [D.int 0])) := (LOOP_eq _ _ _ _ _ _).trans (by kernel_rfl)
/-! masthead/mastref1.LinesOf -/
theorem enter32 (s0 : List UInt8) : RUN E 32 [D.str s0] =
 opt (RUN E 27 [D.str s0, D.str (([10] : List UInt8))]) fun ρ0 =>
 cond (D.toBool (List.getD ρ0 0 D.no))
 (cond (cutOk (List.length s0) none (some (IntKind.wrap IntKind.i64 ((↑(List.length s0) : Int) - 1))))
 (opt (RUN E 35 [D.str (cutL s0 none (some (IntKind.wrap IntKind.i64 ((↑(List.length s0) : Int) - 1)))), D.str (([10] : List UInt8))]) fun ρ3 =>
 some [D.list (D.toList (List.getD ρ3 0 D.no))])
 (none))
 (cond (decide (s0 = ([] : List UInt8)))
 (some [D.list []])
 (opt (RUN E 35 [D.str s0, D.str (([10] : List UInt8))]) fun ρ3 =>
 some [D.list (D.toList (List.getD ρ3 0 D.no))])) := (RUN_eq _ _ _).trans (by kernel_rfl)
/-! strings.SplitN -/
theorem enter33 (s0 : List UInt8) (sep1 : List UInt8) (n2 : Int) : RUN E 33 [D.str s0, D.str sep1, D.int n2] =
 opt (RUN E 67 [D.str s0, D.str sep1, D.int 0, D.int n2]) fun ρ0 =>
 some [D.list (D.toList (List.getD ρ0 0 D.no))] := (RUN_eq _ _ _).trans (by kernel_rfl)
/-! masthead/mastref1.natural -/
def h34a (s0 : List UInt8) (n4 : Int) (i5 : Int) : St := mkSt 44 [(0, SV.val KT.str (D.str s0)), (4, SV.val (KT.int IntKind.i64) (D.int n4)), (5, SV.val (KT.int IntKind.i64) (D.int i5))] []
noncomputable def L34a (s0 : List UInt8) (n4 : Int) (i5 : Int) : R := LOOP E (RUN E) 34 Tryd.f34 [1, 1, 1, 0, 1, 0] (h34a s0 n4 i5)
theorem enter34 (s0 : List UInt8) : RUN E 34 [D.str s0] =
 cond (bif inb 0 (List.length s0) then true else bif bif bif decide (1 < (↑(List.length s0) : Int)) then true else false then bif bif decide ((↑(List.length s0) : Int) < 1) then true else decide (9 < (↑(List.length s0) : Int)) then false else true else false then false else true)
 (cond (bif bif decide ((↑(List.length s0) : Int) < 1) then true else decide (9 < (↑(List.length s0) : Int)) then true else bif decide (1 < (↑(List.length s0) : Int)) then decide ((↑(UInt8.toNat (List.getD s0 0 0)) : Int) = 48) else false)
 (some [D.int 0, D.bool false])
 (L34a s0 0 0))
 (none) := (RUN_eq _ _ _).trans (by kernel_rfl)
theorem round34a (s0 : List UInt8) (n4 : Int) (i5 : Int) : L34a s0 n4 i5 =
 cond (decide (i5 < (↑(List.length s0) : Int)))
 (cond (inb i5 (List.length s0))
 (opt (RUN E 58 [D.int (↑(UInt8.toNat (List.getD s0 (Int.toNat i5) 0)) : Int)]) fun ρ2 =>
 cond (bif D.toBool (List.getD ρ2 0 D.no) then false else true)
 (some [D.int 0, D.bool false])
 (cond (inb i5 (List.length s0))
 (L34a s0 (IntKind.wrap IntKind.i64 (IntKind.wrap IntKind.i64 (10 * n4) + IntKind.wrap IntKind.i64 (IntKind.wrap IntKind.u8 ((↑(UInt8.toNat (List.getD s0 (Int.toNat i5) 0)) : Int) - 48)))) (IntKind.wrap IntKind.i64 (i5 + 1)))
 (none)))
 (none))
 (some [D.int n4, D.bool true]) := (LOOP_eq _ _ _ _ _ _).trans (by kernel_rfl)
/-! strings.Split -/
theorem enter35 (s0 : List UInt8) (sep1 : List UInt8) : RUN E 35 [D.str s0, D.str sep1] =
 opt (RUN E 67 [D.str s0, D.str sep1, D.int 0, D.int (-1)]) fun ρ0 =>
 some [D.list (D.toList (List.getD ρ0 0 D.no))] := (RUN_eq _ _ _).trans (by kernel_rfl)
/-! masthead/mastref1.IndexError -/
def h8a (v25 : List D) (v26 : Int) (v27 : Int) (x1 : D) : St := mkSt 133 [(1, SV.bptr 1 26 0 (KT.agg 26)), (25, SV.val (KT.slice 3) (D.list v25)), (26, SV.val (KT.int IntKind.i64) (D.int v26)), (27, SV.val (KT.int IntKind.i64) (D.int v27))] [(1, Obj.box 26 (BC.whole x1))]
noncomputable def L8a (v25 : List D) (v26 : Int) (v27 : Int) (x1 : D) : R := LOOP E (RUN E) 8 Tryd.f8 [1, 1, 1, 0, 1, 0] (h8a v25 v26 v27 x1)
def h8b (v36 : List D) (v37 : Int) (v38 : Int) (x1 : D) : St := mkSt 133 [(1, SV.bptr 1 26 0 (KT.agg 26)), (36, SV.val (KT.slice 54) (D.list v36)), (37, SV.val (KT.int IntKind.i64) (D.int v37)), (38, SV.val (KT.int IntKind.i64) (D.int v38))] [(1, Obj.box 26 (BC.whole x1))]
noncomputable def L8b (v36 : List D) (v37 : Int) (v38 : Int) (x1 : D) : R := LOOP E (RUN E) 8 Tryd.f8 [1, 1, 1, 1, 0, 1, 0] (h8b v36 v37 v38 x1)
def h8c (v36 : List D) (v37 : Int) (v38 : Int) (v85 : List D) (v86 : Int) (v87 : Int) (x1 : D) (t7 : D) : St := mkSt 133 [(1, SV.bptr 1 26 0 (KT.agg 26)), (7, SV.bptr 7 54 0 (KT.agg 54)), (36, SV.val (KT.slice 54) (D.list v36)), (37, SV.val (KT.int IntKind.i64) (D.int v37)), (38, SV.val (KT.int IntKind.i64) (D.int v38)), (85, SV.val (KT.slice 3) (D.list v85)), (86, SV.val (KT.int IntKind.i64) (D.int v86)), (87, SV.val (KT.int IntKind.i64) (D.int v87))] [(1, Obj.box 26 (BC.whole x1)), (7, Obj.box 54 (BC.whole t7))]
noncomputable def L8c (v36 : List D) (v37 : Int) (v38 : Int) (v85 : List D) (v86 : Int) (v87 : Int) (x1 : D) (t7 : D) : R := LOOP E (RUN E) 8 Tryd.f8 [1, 1, 1, 1, 0, 1, 0, 0, 1, 1, 0, 0, 1, 1, 1, 1, 1, 0] (h8c v36 v37 v38 v85 v86 v87 x1 t7)
theorem enter8 (x0 : D) : RUN E 8 [x0] =
 opt (RUN E 22 [D.list (D.toList (D.cell x0 0)), D.bool false]) fun ρ0 =>
 cond (bif decide (D.toInt (List.getD ρ0 0 D.no) = 0) then false else true)
 (some [D.int (D.toInt (List.getD ρ0 0 D.no))])
 (cond (bif decide ((↑(List.length (D.toList (D.cell x0 1))) : Int) = (↑(List.length (D.toList (D.cell x0 0))) : Int)) then false else true)
 (some [D.int 1])
 (L8a (D.toList (D.cell x0 1)) ((↑(List.length (D.toList (D.cell x0 1))) : Int)) 0 x0)) := (RUN_eq _ _ _).trans (by kernel_rfl)
theorem round8a (v25 : List D) (v26 : Int) (v27 : Int) (x1 : D) : L8a v25 v26 v27 x1 =
 cond (decide (v27 < v26))
 (cond (inb v27 (List.length v25))
 (opt (RUN E 23 [D.int (D.toInt (List.getD v25 (Int.toNat v27) D.no)), D.int 200000]) fun ρ2 =>
 cond (bif D.toBool (List.getD ρ2 0 D.no) then false else true)
 (some [D.int 2])
 (L8a v25 v26 (IntKind.wrap IntKind.i64 (v27 + 1)) x1))
 (none))
 (L8b (D.toList (D.cell x1 2)) ((↑(List.length (D.toList (D.cell x1 2))) : Int)) 0 x1) := (LOOP_eq _ _ _ _ _ _).trans (by kernel_rfl)
theorem round8b (v36 : List D) (v37 : Int) (v38 : Int) (x1 : D) : L8b v36 v37 v38 x1 =
 cond (decide (v38 < v37))
 (cond (inb v38 (List.length v36))
 (opt (RUN E 24 [D.str (D.toStr (D.cell (List.getD v36 (Int.toNat v38) D.no) 0))]) fun ρ2 =>
 cond (bif inb 0 (List.length (D.toList (List.getD ρ2 0 D.no))) then true else bif bif bif decide ((↑(List.length (D.toList (List.getD ρ2 0 D.no))) : Int) = 1) then false else true then false else true then false else true)
 (cond (bif bif decide ((↑(List.length (D.toList (List.getD ρ2 0 D.no))) : Int) = 1) then false else true then true else bif decide (D.toStr (List.getD (D.toList (List.getD ρ2 0 D.no)) 0 D.no) = D.toStr (D.cell (List.getD v36 (Int.toNat v38) D.no) 0)) then false else true)
 (some [D.int 1])
 (cond (bif inb (IntKind.wrap IntKind.i64 (v38 - 1)) (List.length (D.toList (D.cell x1 2))) then true else bif bif decide (0 < v38) then true else false then false else true)
 (cond (bif decide (0 < v38) then bif Op.bytesLess (D.toStr (D.cell (List.getD v36 (Int.toNat v38) D.no) 0)) (D.toStr (D.cell (List.getD (D.toList (D.cell x1 2)) (Int.toNat (IntKind.wrap IntKind.i64 (v38 - 1))) D.no) 0)) then true else (fun (_ : Unit) => decide (D.toStr (D.cell (List.getD v36 (Int.toNat v38) D.no) 0) = D.toStr (D.cell (List.getD (D.toList (D.cell x1 2)) (Int.toNat (IntKind.wrap IntKind.i64 (v38 - 1))) D.no) 0))) () else false)
 (some [D.int 5])
 (cond (bif decide ((↑(List.length (D.toList (D.cell (List.getD v36 (Int.toNat v38) D.no) 1))) : Int) = 0) then true else bif decide ((↑(List.length (D.toList (D.cell (List.getD v36 (Int.toNat v38) D.no) 2))) : Int) = (↑(List.length (D.toList (D.cell (List.getD v36 (Int.toNat v38) D.no) 1))) : Int)) then false else true)
 (some [D.int 1])
 (L8c v36 v37 v38 (D.toList (D.cell (List.getD v36 (Int.toNat v38) D.no) 1)) ((↑(List.length (D.toList (D.cell (List.getD v36 (Int.toNat v38) D.no) 1))) : Int)) 0 x1 (List.getD v36 (Int.toNat v38) D.no))))
 (none)))
 (none))
 (none))
 (opt (RUN E 9 [x1]) fun ρ1 =>
 cond (decide (400000 < (↑(List.length (D.toStr (List.getD ρ1 0 D.no))) : Int)))
 (some [D.int 4])
 (some [D.int 0])) := (LOOP_eq _ _ _ _ _ _).trans (by kernel_rfl)
theorem round8c (v36 : List D) (v37 : Int) (v38 : Int) (v85 : List D) (v86 : Int) (v87 : Int) (x1 : D) (t7 : D) : L8c v36 v37 v38 v85 v86 v87 x1 t7 =
 cond (decide (v87 < v86))
 (cond (inb v87 (List.length v85))
 (cond (bif decide (D.toInt (List.getD v85 (Int.toNat v87) D.no) < 0) then true else decide ((↑(List.length (D.toList (D.cell x1 0))) : Int) ≤ D.toInt (List.getD v85 (Int.toNat v87) D.no)))
 (some [D.int 2])
 (cond (bif inb (IntKind.wrap IntKind.i64 (v87 - 1)) (List.length (D.toList (D.cell t7 1))) then true else bif bif decide (0 < v87) then true else false then false else true)
 (cond (bif decide (0 < v87) then decide (D.toInt (List.getD v85 (Int.toNat v87) D.no) ≤ D.toInt (List.getD (D.toList (D.cell t7 1)) (Int.toNat (IntKind.wrap IntKind.i64 (v87 - 1))) D.no)) else false)
 (some [D.int 5])
 (cond (inb v87 (List.length (D.toList (D.cell t7 2))))
 (cond (bif inb v87 (List.length (D.toList (D.cell t7 2))) then true else bif bif decide (D.toInt (List.getD (D.toList (D.cell t7 2)) (Int.toNat v87) D.no) < 1) then false else true then false else true)
 (cond (bif decide (D.toInt (List.getD (D.toList (D.cell t7 2)) (Int.toNat v87) D.no) < 1) then true else decide (600000 < D.toInt (List.getD (D.toList (D.cell t7 2)) (Int.toNat v87) D.no)))
 (some [D.int 2])
 (L8c v36 v37 v38 v85 v86 (IntKind.wrap IntKind.i64 (v87 + 1)) x1 t7))
 (none))
 (none)))
 (none)))
 (none))
 (L8b v36 v37 (IntKind.wrap IntKind.i64 (v38 + 1)) x1) := (LOOP_eq _ _ _ _ _ _).trans (by kernel_rfl)
/-! slices.Equal[[]masthead/ship.Doc,masthead/ship.Doc] -/
def h37a (s10 : List D) (s21 : List D) (v12 : Int) (v13 : Int) : St := mkSt 26 [(0, SV.val (KT.slice 57) (D.list s10)), (1, SV.val (KT.slice 57) (D.list s21)), (12, SV.val (KT.int IntKind.i64) (D.int v12)), (13, SV.val (KT.int IntKind.i64) (D.int v13))] []
noncomputable def L37a (s10 : List D) (s21 : List D) (v12 : Int) (v13 : Int) : R := LOOP E (RUN E) 37 Tryd.f37 [1, 1, 0, 1, 0] (h37a s10 s21 v12 v13)
theorem enter37 (s10 : List D) (s21 : List D) : RUN E 37 [D.list s10, D.list s21] =
 cond (bif decide ((↑(List.length s10) : Int) = (↑(List.length s21) : Int)) then false else true)
 (some [D.bool false])
 (L37a s10 s21 ((↑(List.length s10) : Int)) 0) := (RUN_eq _ _ _).trans (by kernel_rfl)
theorem round37a (s10 : List D) (s21 : List D) (v12 : Int) (v13 : Int) : L37a s10 s21 v12 v13 =
 cond (decide (v13 < v12))
 (cond (inb v13 (List.length s10))
 (cond (inb v13 (List.length s21))
 (cond (bif bif eqD KT.str (D.cell (List.getD s10 (Int.toNat v13) D.no) 0) (D.cell (List.getD s21 (Int.toNat v13) D.no) 0) then bif eqD KT.str (D.cell (List.getD s10 (Int.toNat v13) D.no) 1) (D.cell (List.getD s21 (Int.toNat v13) D.no) 1) then bif eqD KT.str (D.cell (List.getD s10 (Int.toNat v13) D.no) 2) (D.cell (List.getD s21 (Int.toNat v13) D.no) 2) then true else false else false else false then false else true)
 (some [D.bool false])
 (L37a s10 s21 v12 (IntKind.wrap IntKind.i64 (v13 + 1))))
 (none))
 (none))
 (some [D.bool true]) := (LOOP_eq _ _ _ _ _ _).trans (by kernel_rfl)
/-! slices.Equal[[]int,int] -/
def h38a (s10 : List D) (s21 : List D) (v12 : Int) (v13 : Int) : St := mkSt 26 [(0, SV.val (KT.slice 3) (D.list s10)), (1, SV.val (KT.slice 3) (D.list s21)), (12, SV.val (KT.int IntKind.i64) (D.int v12)), (13, SV.val (KT.int IntKind.i64) (D.int v13))] []
noncomputable def L38a (s10 : List D) (s21 : List D) (v12 : Int) (v13 : Int) : R := LOOP E (RUN E) 38 Tryd.f38 [1, 1, 0, 1, 0] (h38a s10 s21 v12 v13)
theorem enter38 (s10 : List D) (s21 : List D) : RUN E 38 [D.list s10, D.list s21] =
 cond (bif decide ((↑(List.length s10) : Int) = (↑(List.length s21) : Int)) then false else true)
 (some [D.bool false])
 (L38a s10 s21 ((↑(List.length s10) : Int)) 0) := (RUN_eq _ _ _).trans (by kernel_rfl)
theorem round38a (s10 : List D) (s21 : List D) (v12 : Int) (v13 : Int) : L38a s10 s21 v12 v13 =
 cond (decide (v13 < v12))
 (cond (inb v13 (List.length s10))
 (cond (inb v13 (List.length s21))
 (cond (bif decide (D.toInt (List.getD s10 (Int.toNat v13) D.no) = D.toInt (List.getD s21 (Int.toNat v13) D.no)) then false else true)
 (some [D.bool false])
 (L38a s10 s21 v12 (IntKind.wrap IntKind.i64 (v13 + 1))))
 (none))
 (none))
 (some [D.bool true]) := (LOOP_eq _ _ _ _ _ _).trans (by kernel_rfl)
/-! internal/stringslite.HasSuffix -/
theorem enter62 (s0 : List UInt8) (suffix1 : List UInt8) : RUN E 62 [D.str s0, D.str suffix1] =
 cond (bif cutOk (List.length s0) (some (IntKind.wrap IntKind.i64 ((↑(List.length s0) : Int) - (↑(List.length suffix1) : Int)))) none then true else bif bif decide ((↑(List.length suffix1) : Int) ≤ (↑(List.length s0) : Int)) then true else false then false else true)
 (some [D.bool (bif decide ((↑(List.length suffix1) : Int) ≤ (↑(List.length s0) : Int)) then decide (cutL s0 (some (IntKind.wrap IntKind.i64 ((↑(List.length s0) : Int) - (↑(List.length suffix1) : Int)))) none = suffix1) else false)])
 (none) := (RUN_eq _ _ _).trans (by kernel_rfl)
/-! internal/stringslite.Cut -/
theorem enter63 (s0 : List UInt8) (sep1 : List UInt8) : RUN E 63 [D.str s0, D.str sep1] =
 opt (RUN E 95 [D.str s0, D.str sep1]) fun ρ0 =>
 cond (decide (0 ≤ D.toInt (List.getD ρ0 0 D.no)))
 (cond (cutOk (List.length s0) none (some (D.toInt (List.getD ρ0 0 D.no))))
 (cond (cutOk (List.length s0) (some (IntKind.wrap IntKind.i64 (D.toInt (List.getD ρ0 0 D.no) + (↑(List.length sep1) : Int)))) none)
 (some [D.str (cutL s0 none (some (D.toInt (List.getD ρ0 0 D.no)))), D.str (cutL s0 (some (IntKind.wrap IntKind.i64 (D.toInt (List.getD ρ0 0 D.no) + (↑(List.length sep1) : Int)))) none), D.bool true])
 (none))
 (none))
 (some [D.str s0, D.str (([] : List UInt8)), D.bool false]) := (RUN_eq _ _ _).trans (by kernel_rfl)
/-! internal/stringslite.HasPrefix -/
theorem enter64 (s0 : List UInt8) (prefix1 : List UInt8) : RUN E 64 [D.str s0, D.str prefix1] =
 cond (bif cutOk (List.length s0) none (some (↑(List.length prefix1) : Int)) then true else bif bif decide ((↑(List.length prefix1) : Int) ≤ (↑(List.length s0) : Int)) then true else false then false else true)
 (some [D.bool (bif decide ((↑(List.length prefix1) : Int) ≤ (↑(List.length s0) : Int)) then decide (cutL s0 none (some (↑(List.length prefix1) : Int)) = prefix1) else false)])
 (none) := (RUN_eq _ _ _).trans (by kernel_rfl)
/-! masthead/ship.cutAt -/
theorem enter65 (s0 : List UInt8) (c1 : Int) : RUN E 65 [D.str s0, D.int c1] =
 opt (RUN E 36 [D.str s0, D.int c1]) fun ρ0 =>
 cond (decide (0 ≤ D.toInt (List.getD ρ0 0 D.no)))
 (cond (cutOk (List.length s0) none (some (D.toInt (List.getD ρ0 0 D.no))))
 (cond (cutOk (List.length s0) (some (D.toInt (List.getD ρ0 0 D.no))) none)
 (some [D.str (cutL s0 none (some (D.toInt (List.getD ρ0 0 D.no)))), D.str (cutL s0 (some (D.toInt (List.getD ρ0 0 D.no))) none)])
 (none))
 (none))
 (some [D.str s0, D.str (([] : List UInt8))]) := (RUN_eq _ _ _).trans (by kernel_rfl)
/-! masthead/ship.small -/
def h66a (s0 : List UInt8) (n4 : Int) (i5 : Int) : St := mkSt 42 [(0, SV.val KT.str (D.str s0)), (4, SV.val (KT.int IntKind.i64) (D.int n4)), (5, SV.val (KT.int IntKind.i64) (D.int i5))] []
noncomputable def L66a (s0 : List UInt8) (n4 : Int) (i5 : Int) : R := LOOP E (RUN E) 66 Tryd.f66 [1, 1, 1, 0, 1, 0] (h66a s0 n4 i5)
theorem enter66 (s0 : List UInt8) : RUN E 66 [D.str s0] =
 cond (bif inb 0 (List.length s0) then true else bif bif bif decide (s0 = ([] : List UInt8)) then true else decide (9 < (↑(List.length s0) : Int)) then false else true then false else true)
 (cond (bif bif decide (s0 = ([] : List UInt8)) then true else decide (9 < (↑(List.length s0) : Int)) then true else bif decide ((↑(UInt8.toNat (List.getD s0 0 0)) : Int) = 48) then bif decide (s0 = ([48] : List UInt8)) then false else true else false)
 (some [D.int 0, D.bool false])
 (L66a s0 0 0))
 (none) := (RUN_eq _ _ _).trans (by kernel_rfl)
theorem round66a (s0 : List UInt8) (n4 : Int) (i5 : Int) : L66a s0 n4 i5 =
 cond (decide (i5 < (↑(List.length s0) : Int)))
 (cond (inb i5 (List.length s0))
 (opt (RUN E 90 [D.int (↑(UInt8.toNat (List.getD s0 (Int.toNat i5) 0)) : Int)]) fun ρ2 =>
 cond (bif D.toBool (List.getD ρ2 0 D.no) then false else true)
 (some [D.int 0, D.bool false])
 (cond (inb i5 (List.length s0))
 (L66a s0 (IntKind.wrap IntKind.i64 (IntKind.wrap IntKind.i64 (10 * n4) + IntKind.wrap IntKind.i64 (IntKind.wrap IntKind.u8 ((↑(UInt8.toNat (List.getD s0 (Int.toNat i5) 0)) : Int) - 48)))) (IntKind.wrap IntKind.i64 (i5 + 1)))
 (none)))
 (none))
 (some [D.int n4, D.bool true]) := (LOOP_eq _ _ _ _ _ _).trans (by kernel_rfl)
/-! masthead/ship.docsFault -/
def h50a (v14 : List D) (v15 : Int) (v16 : Int) (x1 : D) : St := mkSt 76 [(1, SV.bptr 1 26 0 (KT.agg 26)), (14, SV.val (KT.slice 57) (D.list v14)), (15, SV.val (KT.int IntKind.i64) (D.int v15)), (16, SV.val (KT.int IntKind.i64) (D.int v16))] [(1, Obj.box 26 (BC.whole x1))]
noncomputable def L50a (v14 : List D) (v15 : Int) (v16 : Int) (x1 : D) : R := LOOP E (RUN E) 50 Tryd.f50 [1, 1, 0, 1, 0] (h50a v14 v15 v16 x1)
def h50b (v63 : List D) (v64 : Int) (v65 : Int) : St := mkSt 76 [(63, SV.val (KT.slice 3) (D.list v63)), (64, SV.val (KT.int IntKind.i64) (D.int v64)), (65, SV.val (KT.int IntKind.i64) (D.int v65))] []
noncomputable def L50b (v63 : List D) (v64 : Int) (v65 : Int) : R := LOOP E (RUN E) 50 Tryd.f50 [1, 1, 1, 1, 0, 1, 0] (h50b v63 v64 v65)
theorem enter50 (x0 : D) : RUN E 50 [x0] =
 cond (decide (120 < (↑(List.length (D.toList (D.cell x0 0))) : Int)))
 (some [D.int 4])
 (L50a (D.toList (D.cell x0 0)) ((↑(List.length (D.toList (D.cell x0 0))) : Int)) 0 x0) := (RUN_eq _ _ _).trans (by kernel_rfl)
theorem round50a (v14 : List D) (v15 : Int) (v16 : Int) (x1 : D) : L50a v14 v15 v16 x1 =
 cond (decide (v16 < v15))
 (cond (inb v16 (List.length v14))
 (opt (RUN E 87 [D.str (D.toStr (D.cell (List.getD v14 (Int.toNat v16) D.no) 0))]) fun ρ2 =>
 cond (bif decide (D.toInt (List.getD ρ2 1 D.no) = 0) then false else true)
 (some [D.int (D.toInt (List.getD ρ2 1 D.no))])
 (cond (bif inb (IntKind.wrap IntKind.i64 (v16 - 1)) (List.length (D.toList (D.cell x1 0))) then true else bif bif decide (0 < v16) then true else false then false else true)
 (cond (bif decide (0 < v16) then bif Op.bytesLess (D.toStr (D.cell (List.getD v14 (Int.toNat v16) D.no) 0)) (D.toStr (D.cell (List.getD (D.toList (D.cell x1 0)) (Int.toNat (IntKind.wrap IntKind.i64 (v16 - 1))) D.no) 0)) then true else (fun (_ : Unit) => decide (D.toStr (D.cell (List.getD v14 (Int.toNat v16) D.no) 0) = D.toStr (D.cell (List.getD (D.toList (D.cell x1 0)) (Int.toNat (IntKind.wrap IntKind.i64 (v16 - 1))) D.no) 0))) () else false)
 (some [D.int 5])
 (opt (RUN E 88 [D.str (D.toStr (D.cell (List.getD v14 (Int.toNat v16) D.no) 1))]) fun ρ6 =>
 cond (D.toBool (List.getD ρ6 0 D.no))
 (some [D.int 9])
 (cond (bif decide (D.toStr (D.cell (List.getD v14 (Int.toNat v16) D.no) 2) = ([] : List UInt8)) then false else true)
 (some [D.int 1])
 (L50a v14 v15 (IntKind.wrap IntKind.i64 (v16 + 1)) x1))))
 (none)))
 (none))
 (cond (bif decide ((↑(List.length (D.toList (D.cell x1 1))) : Int) = (↑(List.length (D.toList (D.cell x1 0))) : Int)) then false else true)
 (some [D.int 1])
 (L50b (D.toList (D.cell x1 1)) ((↑(List.length (D.toList (D.cell x1 1))) : Int)) 0)) := (LOOP_eq _ _ _ _ _ _).trans (by kernel_rfl)
theorem round50b (v63 : List D) (v64 : Int) (v65 : Int) : L50b v63 v64 v65 =
 cond (decide (v65 < v64))
 (cond (inb v65 (List.length v63))
 (cond (bif decide (D.toInt (List.getD v63 (Int.toNat v65) D.no) < 0) then true else decide (200000 < D.toInt (List.getD v63 (Int.toNat v65) D.no)))
 (some [D.int 2])
 (L50b v63 v64 (IntKind.wrap IntKind.i64 (v65 + 1))))
 (none))
 (some [D.int 0]) := (LOOP_eq _ _ _ _ _ _).trans (by kernel_rfl)
/-! masthead/ship.Words -/
def h51a (text0 : List UInt8) (i4 : Int) (out3s : List D) : St := mkSt 57 [(0, SV.val KT.str (D.str text0)), (3, SV.own 3), (4, SV.val (KT.int IntKind.i64) (D.int i4))] [(3, Obj.arr 9 out3s)]
noncomputable def L51a (text0 : List UInt8) (i4 : Int) (out3s : List D) : R := LOOP E (RUN E) 51 Tryd.f51 [1, 1, 0, 1, 0] (h51a text0 i4 out3s)
def h51b (text0 : List UInt8) (i4 : Int) (k5 : Int) (out3s : List D) : St := mkSt 57 [(0, SV.val KT.str (D.str text0)), (3, SV.own 3), (4, SV.val (KT.int IntKind.i64) (D.int i4)), (5, SV.val (KT.int IntKind.i64) (D.int k5))] [(3, Obj.arr 9 out3s)]
noncomputable def L51b (text0 : List UInt8) (i4 : Int) (k5 : Int) (out3s : List D) : R := LOOP E (RUN E) 51 Tryd.f51 [1, 1, 0, 1, 0, 0, 1, 0, 1, 0, 0] (h51b text0 i4 k5 out3s)
theorem enter51 (text0 : List UInt8) : RUN E 51 [D.str text0] =
 L51a text0 0 [] := (RUN_eq _ _ _).trans (by kernel_rfl)
theorem round51a (text0 : List UInt8) (i4 : Int) (out3s : List D) : L51a text0 i4 out3s =
 cond (decide (i4 < (↑(List.length text0) : Int)))
 (L51b text0 i4 i4 out3s)
 (some [D.list out3s]) := (LOOP_eq _ _ _ _ _ _).trans (by kernel_rfl)
theorem round51b (text0 : List UInt8) (i4 : Int) (k5 : Int) (out3s : List D) : L51b text0 i4 k5 out3s =
 cond (bif inb k5 (List.length text0) then true else bif bif decide (k5 < (↑(List.length text0) : Int)) then true else false then false else true)
 (opt (cond (bif decide (k5 < (↑(List.length text0) : Int)) then true else false)
 (RUN E 89 [D.int (↑(UInt8.toNat (List.getD text0 (Int.toNat k5) 0)) : Int)])
 (some [])) fun ρ1 =>
 cond (bif inb k5 (List.length text0) then true else bif bif bif D.toBool (List.getD ρ1 0 D.no) then false else true then bif decide (k5 < (↑(List.length text0) : Int)) then true else false else false then false else true)
 (opt (cond (bif bif D.toBool (List.getD ρ1 0 D.no) then false else true then bif decide (k5 < (↑(List.length text0) : Int)) then true else false else false)
 (RUN E 90 [D.int (↑(UInt8.toNat (List.getD text0 (Int.toNat k5) 0)) : Int)])
 (some [])) fun ρ3 =>
 cond (bif inb k5 (List.length text0) then true else bif bif bif bif D.toBool (List.getD ρ1 0 D.no) then true else D.toBool (List.getD ρ3 0 D.no) then false else true then bif decide (k5 < (↑(List.length text0) : Int)) then true else false else false then false else true)
 (cond (bif decide (k5 < (↑(List.length text0) : Int)) then bif bif D.toBool (List.getD ρ1 0 D.no) then true else D.toBool (List.getD ρ3 0 D.no) then true else decide (128 ≤ (↑(UInt8.toNat (List.getD text0 (Int.toNat k5) 0)) : Int)) else false)
 (L51b text0 i4 (IntKind.wrap IntKind.i64 (k5 + 1)) out3s)
 (cond (bif decide (i4 < k5) then decide (IntKind.wrap IntKind.i64 (k5 - i4) ≤ 30) else false)
 (cond (cutOk (List.length text0) (some i4) (some k5))
 (opt (RUN E 91 [D.str (cutL text0 (some i4) (some k5))]) fun ρ8 =>
 cond (fitL (List.length out3s) (List.length [D.str (D.toStr (List.getD ρ8 0 D.no))]))
 (L51a text0 (mmInt true k5 (IntKind.wrap IntKind.i64 (i4 + 1))) (out3s ++ [D.str (D.toStr (List.getD ρ8 0 D.no))]))
 (none))
 (none))
 (L51a text0 (mmInt true k5 (IntKind.wrap IntKind.i64 (i4 + 1))) out3s)))
 (none))
 (none))
 (none) := (LOOP_eq _ _ _ _ _ _).trans (by kernel_rfl)
/-! masthead/ship.termFault -/
def h52a (docs1 : Int) (v21 : List D) (v22 : Int) (v23 : Int) (t2 : D) : St := mkSt 65 [(1, SV.val (KT.int IntKind.i64) (D.int docs1)), (2, SV.bptr 2 54 0 (KT.agg 54)), (21, SV.val (KT.slice 3) (D.list v21)), (22, SV.val (KT.int IntKind.i64) (D.int v22)), (23, SV.val (KT.int IntKind.i64) (D.int v23))] [(2, Obj.box 54 (BC.whole t2))]
noncomputable def L52a (docs1 : Int) (v21 : List D) (v22 : Int) (v23 : Int) (t2 : D) : R := LOOP E (RUN E) 52 Tryd.f52 [1, 1, 0, 1, 0] (h52a docs1 v21 v22 v23 t2)
theorem enter52 (t0 : D) (docs1 : Int) : RUN E 52 [t0, D.int docs1] =
 cond (bif decide ((↑(List.length (D.toList (D.cell t0 1))) : Int) = 0) then true else bif decide ((↑(List.length (D.toList (D.cell t0 1))) : Int) = (↑(List.length (D.toList (D.cell t0 2))) : Int)) then false else true)
 (some [D.int 1])
 (L52a docs1 (D.toList (D.cell t0 1)) ((↑(List.length (D.toList (D.cell t0 1))) : Int)) 0 t0) := (RUN_eq _ _ _).trans (by kernel_rfl)
theorem round52a (docs1 : Int) (v21 : List D) (v22 : Int) (v23 : Int) (t2 : D) : L52a docs1 v21 v22 v23 t2 =
 cond (decide (v23 < v22))
 (cond (inb v23 (List.length v21))
 (cond (bif decide (D.toInt (List.getD v21 (Int.toNat v23) D.no) < 0) then true else decide (docs1 ≤ D.toInt (List.getD v21 (Int.toNat v23) D.no)))
 (some [D.int 2])
 (cond (bif inb (IntKind.wrap IntKind.i64 (v23 - 1)) (List.length (D.toList (D.cell t2 1))) then true else bif bif decide (0 < v23) then true else false then false else true)
 (cond (bif decide (0 < v23) then decide (D.toInt (List.getD v21 (Int.toNat v23) D.no) ≤ D.toInt (List.getD (D.toList (D.cell t2 1)) (Int.toNat (IntKind.wrap IntKind.i64 (v23 - 1))) D.no)) else false)
 (some [D.int 5])
 (cond (inb v23 (List.length (D.toList (D.cell t2 2))))
 (cond (bif inb v23 (List.length (D.toList (D.cell t2 2))) then true else bif bif decide (D.toInt (List.getD (D.toList (D.cell t2 2)) (Int.toNat v23) D.no) < 1) then false else true then false else true)
 (cond (bif decide (D.toInt (List.getD (D.toList (D.cell t2 2)) (Int.toNat v23) D.no) < 1) then true else decide (600000 < D.toInt (List.getD (D.toList (D.cell t2 2)) (Int.toNat v23) D.no)))
 (some [D.int 2])
 (L52a docs1 v21 v22 (IntKind.wrap IntKind.i64 (v23 + 1)) t2))
 (none))
 (none)))
 (none)))
 (none))
 (some [D.int 0]) := (LOOP_eq _ _ _ _ _ _).trans (by kernel_rfl)
/-! masthead/ship.indexText -/
def h21a (v11 : List D) (v12 : Int) (v13 : Int) (x1 : D) (x700193s : List D) : St := mkSt 71 [(1, SV.bptr 1 26 0 (KT.agg 26)), (3, SV.bptr 3 93 0 (KT.agg 93)), (11, SV.val (KT.slice 57) (D.list v11)), (12, SV.val (KT.int IntKind.i64) (D.int v12)), (13, SV.val (KT.int IntKind.i64) (D.int v13))] [(1, Obj.box 26 (BC.whole x1)), (3, Obj.box 93 (BC.cells [SV.selfn 3, SV.own 700193])), (700193, Obj.arr 5 x700193s)]
noncomputable def L21a (v11 : List D) (v12 : Int) (v13 : Int) (x1 : D) (x700193s : List D) : R := LOOP E (RUN E) 21 Tryd.f21 [1, 1, 0, 1, 0] (h21a v11 v12 v13 x1 x700193s)
def h21b (v37 : List D) (v38 : Int) (v39 : Int) (x700193s : List D) : St := mkSt 71 [(3, SV.bptr 3 93 0 (KT.agg 93)), (37, SV.val (KT.slice 54) (D.list v37)), (38, SV.val (KT.int IntKind.i64) (D.int v38)), (39, SV.val (KT.int IntKind.i64) (D.int v39))] [(3, Obj.box 93 (BC.cells [SV.selfn 3, SV.own 700193])), (700193, Obj.arr 5 x700193s)]
noncomputable def L21b (v37 : List D) (v38 : Int) (v39 : Int) (x700193s : List D) : R := LOOP E (RUN E) 21 Tryd.f21 [1, 1, 1, 0, 1, 0] (h21b v37 v38 v39 x700193s)
def h21c (v37 : List D) (v38 : Int) (v39 : Int) (v48 : List D) (v49 : Int) (v50 : Int) (t7 : D) (x700193s : List D) : St := mkSt 71 [(3, SV.bptr 3 93 0 (KT.agg 93)), (7, SV.bptr 7 54 0 (KT.agg 54)), (37, SV.val (KT.slice 54) (D.list v37)), (38, SV.val (KT.int IntKind.i64) (D.int v38)), (39, SV.val (KT.int IntKind.i64) (D.int v39)), (48, SV.val (KT.slice 3) (D.list v48)), (49, SV.val (KT.int IntKind.i64) (D.int v49)), (50, SV.val (KT.int IntKind.i64) (D.int v50))] [(3, Obj.box 93 (BC.cells [SV.selfn 3, SV.own 700193])), (7, Obj.box 54 (BC.whole t7)), (700193, Obj.arr 5 x700193s)]
noncomputable def L21c (v37 : List D) (v38 : Int) (v39 : Int) (v48 : List D) (v49 : Int) (v50 : Int) (t7 : D) (x700193s : List D) : R := LOOP E (RUN E) 21 Tryd.f21 [1, 1, 1, 0, 1, 0, 0, 1, 1, 0, 0, 1, 1, 0, 1, 0] (h21c v37 v38 v39 v48 v49 v50 t7 x700193s)
theorem enter21 (x0 : D) : RUN E 21 [x0] =
 L21a (D.toList (D.cell x0 0)) ((↑(List.length (D.toList (D.cell x0 0))) : Int)) 0 x0 [] := (RUN_eq _ _ _).trans (by kernel_rfl)
theorem round21a (v11 : List D) (v12 : Int) (v13 : Int) (x1 : D) (x700193s : List D) : L21a v11 v12 v13 x1 x700193s =
 cond (decide (v13 < v12))
 (cond (inb v13 (List.length v11))
 (cond (decide (List.length (([100, 111, 99, 32] : List UInt8)) + List.length (D.toStr (D.cell (List.getD v11 (Int.toNat v13) D.no) 0)) ≤ lim))
 (cond (decide (List.length (([100, 111, 99, 32] : List UInt8) ++ D.toStr (D.cell (List.getD v11 (Int.toNat v13) D.no) 0)) + List.length (([32] : List UInt8)) ≤ lim))
 (cond (inb v13 (List.length (D.toList (D.cell x1 1))))
 (opt (RUN E 25 [D.int (D.toInt (List.getD (D.toList (D.cell x1 1)) (Int.toNat v13) D.no))]) fun ρ5 =>
 cond (decide (List.length (([100, 111, 99, 32] : List UInt8) ++ D.toStr (D.cell (List.getD v11 (Int.toNat v13) D.no) 0) ++ ([32] : List UInt8)) + List.length (D.toStr (List.getD ρ5 0 D.no)) ≤ lim))
 (cond (decide (List.length (([100, 111, 99, 32] : List UInt8) ++ D.toStr (D.cell (List.getD v11 (Int.toNat v13) D.no) 0) ++ ([32] : List UInt8) ++ D.toStr (List.getD ρ5 0 D.no)) + List.length (([32] : List UInt8)) ≤ lim))
 (cond (decide (List.length (([100, 111, 99, 32] : List UInt8) ++ D.toStr (D.cell (List.getD v11 (Int.toNat v13) D.no) 0) ++ ([32] : List UInt8) ++ D.toStr (List.getD ρ5 0 D.no) ++ ([32] : List UInt8)) + List.length (D.toStr (D.cell (List.getD v11 (Int.toNat v13) D.no) 1)) ≤ lim))
 (cond (decide (List.length (([100, 111, 99, 32] : List UInt8) ++ D.toStr (D.cell (List.getD v11 (Int.toNat v13) D.no) 0) ++ ([32] : List UInt8) ++ D.toStr (List.getD ρ5 0 D.no) ++ ([32] : List UInt8) ++ D.toStr (D.cell (List.getD v11 (Int.toNat v13) D.no) 1)) + List.length (([10] : List UInt8)) ≤ lim))
 (opt (RUN E 53 [D.agg [D.no, D.list x700193s], D.str (([100, 111, 99, 32] : List UInt8) ++ D.toStr (D.cell (List.getD v11 (Int.toNat v13) D.no) 0) ++ ([32] : List UInt8) ++ D.toStr (List.getD ρ5 0 D.no) ++ ([32] : List UInt8) ++ D.toStr (D.cell (List.getD v11 (Int.toNat v13) D.no) 1) ++ ([10] : List UInt8))]) fun ρ10 =>
 L21a v11 v12 (IntKind.wrap IntKind.i64 (v13 + 1)) x1 (D.toList (D.cell (List.getD ρ10 2 D.no) 1)))
 (none))
 (none))
 (none))
 (none))
 (none))
 (none))
 (none))
 (none))
 (L21b (D.toList (D.cell x1 2)) ((↑(List.length (D.toList (D.cell x1 2))) : Int)) 0 x700193s) := (LOOP_eq _ _ _ _ _ _).trans (by kernel_rfl)
theorem round21b (v37 : List D) (v38 : Int) (v39 : Int) (x700193s : List D) : L21b v37 v38 v39 x700193s =
 cond (decide (v39 < v38))
 (cond (inb v39 (List.length v37))
 (cond (decide (List.length (([116, 101, 114, 109, 32] : List UInt8)) + List.length (D.toStr (D.cell (List.getD v37 (Int.toNat v39) D.no) 0)) ≤ lim))
 (opt (RUN E 53 [D.agg [D.no, D.list x700193s], D.str (([116, 101, 114, 109, 32] : List UInt8) ++ D.toStr (D.cell (List.getD v37 (Int.toNat v39) D.no) 0))]) fun ρ3 =>
 L21c v37 v38 v39 (D.toList (D.cell (List.getD v37 (Int.toNat v39) D.no) 1)) ((↑(List.length (D.toList (D.cell (List.getD v37 (Int.toNat v39) D.no) 1))) : Int)) 0 (List.getD v37 (Int.toNat v39) D.no) (D.toList (D.cell (List.getD ρ3 2 D.no) 1)))
 (none))
 (none))
 (opt (RUN E 54 [D.agg [D.no, D.list x700193s]]) fun ρ1 =>
 some [D.str (D.toStr (List.getD ρ1 0 D.no))]) := (LOOP_eq _ _ _ _ _ _).trans (by kernel_rfl)
theorem round21c (v37 : List D) (v38 : Int) (v39 : Int) (v48 : List D) (v49 : Int) (v50 : Int) (t7 : D) (x700193s : List D) : L21c v37 v38 v39 v48 v49 v50 t7 x700193s =
 cond (decide (v50 < v49))
 (cond (inb v50 (List.length v48))
 (opt (RUN E 25 [D.int (D.toInt (List.getD v48 (Int.toNat v50) D.no))]) fun ρ2 =>
 cond (decide (List.length (([32] : List UInt8)) + List.length (D.toStr (List.getD ρ2 0 D.no)) ≤ lim))
 (cond (decide (List.length (([32] : List UInt8) ++ D.toStr (List.getD ρ2 0 D.no)) + List.length (([58] : List UInt8)) ≤ lim))
 (cond (inb v50 (List.length (D.toList (D.cell t7 2))))
 (opt (RUN E 25 [D.int (D.toInt (List.getD (D.toList (D.cell t7 2)) (Int.toNat v50) D.no))]) fun ρ6 =>
 cond (decide (List.length (([32] : List UInt8) ++ D.toStr (List.getD ρ2 0 D.no) ++ ([58] : List UInt8)) + List.length (D.toStr (List.getD ρ6 0 D.no)) ≤ lim))
 (opt (RUN E 53 [D.agg [D.no, D.list x700193s], D.str (([32] : List UInt8) ++ D.toStr (List.getD ρ2 0 D.no) ++ ([58] : List UInt8) ++ D.toStr (List.getD ρ6 0 D.no))]) fun ρ8 =>
 L21c v37 v38 v39 v48 v49 (IntKind.wrap IntKind.i64 (v50 + 1)) t7 (D.toList (D.cell (List.getD ρ8 2 D.no) 1)))
 (none))
 (none))
 (none))
 (none))
 (none))
 (opt (RUN E 53 [D.agg [D.no, D.list x700193s], D.str (([10] : List UInt8))]) fun ρ1 =>
 L21b v37 v38 (IntKind.wrap IntKind.i64 (v39 + 1)) (D.toList (D.cell (List.getD ρ1 2 D.no) 1))) := (LOOP_eq _ _ _ _ _ _).trans (by kernel_rfl)
/-! strings.genSplit -/
def h67a (s0 : List UInt8) (sep1 : List UInt8) (sepSave2 : Int) (n3 : Int) : St := mkSt 66 [(0, SV.val KT.str (D.str s0)), (1, SV.val KT.str (D.str sep1)), (2, SV.val (KT.int IntKind.i64) (D.int sepSave2)), (3, SV.val (KT.int IntKind.i64) (D.int n3))] []
noncomputable def C67a (s0 : List UInt8) (sep1 : List UInt8) (sepSave2 : Int) (n3 : Int) : R := PART E (RUN E) 67 Tryd.f67 [1, 1, 1, 1] (h67a s0 sep1 sepSave2 n3)
def h67b (s0 : List UInt8) (sep1 : List UInt8) (sepSave2 : Int) (n3 : Int) (i10 : Int) (a9s : List D) : St := mkSt 66 [(0, SV.val KT.str (D.str s0)), (1, SV.val KT.str (D.str sep1)), (2, SV.val (KT.int IntKind.i64) (D.int sepSave2)), (3, SV.val (KT.int IntKind.i64) (D.int n3)), (9, SV.own 9), (10, SV.val (KT.int IntKind.i64) (D.int i10))] [(9, Obj.arr 9 a9s)]
noncomputable def L67b (s0 : List UInt8) (sep1 : List UInt8) (sepSave2 : Int) (n3 : Int) (i10 : Int) (a9s : List D) : R := LOOP E (RUN E) 67 Tryd.f67 [1, 1, 1, 1, 1, 1, 1, 1, 0, 0] (h67b s0 sep1 sepSave2 n3 i10 a9s)
theorem enter67 (s0 : List UInt8) (sep1 : List UInt8) (sepSave2 : Int) (n3 : Int) : RUN E 67 [D.str s0, D.str sep1, D.int sepSave2, D.int n3] =
 cond (decide (n3 = 0))
 (some [D.list []])
 (cond (decide (sep1 = ([] : List UInt8)))
 (opt (RUN E 96 [D.str s0, D.int n3]) fun ρ2 =>
 some [D.list (D.toList (List.getD ρ2 0 D.no))])
 (cond (decide (n3 < 0))
 (opt (RUN E 97 [D.str s0, D.str sep1]) fun ρ3 =>
 C67a s0 sep1 sepSave2 (IntKind.wrap IntKind.i64 (D.toInt (List.getD ρ3 0 D.no) + 1)))
 (C67a s0 sep1 sepSave2 n3))) := (RUN_eq _ _ _).trans (by kernel_rfl)
theorem round67a (s0 : List UInt8) (sep1 : List UInt8) (sepSave2 : Int) (n3 : Int) : C67a s0 sep1 sepSave2 n3 =
 cond (bif decide (0 ≤ mmInt false n3 (IntKind.wrap IntKind.i64 ((↑(List.length s0) : Int) + 1))) then bif decide (mmInt false n3 (IntKind.wrap IntKind.i64 ((↑(List.length s0) : Int) + 1)) ≤ mmInt false n3 (IntKind.wrap IntKind.i64 ((↑(List.length s0) : Int) + 1))) then (fun (_ : Unit) => decide (mmInt false n3 (IntKind.wrap IntKind.i64 ((↑(List.length s0) : Int) + 1)) ≤ (↑lim : Int))) () else false else false)
 (L67b s0 sep1 sepSave2 (IntKind.wrap IntKind.i64 (mmInt false n3 (IntKind.wrap IntKind.i64 ((↑(List.length s0) : Int) + 1)) - 1)) 0 (List.replicate (Int.toNat (mmInt false n3 (IntKind.wrap IntKind.i64 ((↑(List.length s0) : Int) + 1)))) (D.str [])))
 (none) := (PART_eq _ _ _ _ _ _).trans (by kernel_rfl)
theorem round67b (s0 : List UInt8) (sep1 : List UInt8) (sepSave2 : Int) (n3 : Int) (i10 : Int) (a9s : List D) : L67b s0 sep1 sepSave2 n3 i10 a9s =
 cond (decide (i10 < n3))
 (opt (RUN E 98 [D.str s0, D.str sep1]) fun ρ1 =>
 cond (decide (D.toInt (List.getD ρ1 0 D.no) < 0))
 (cond (inb i10 (List.length a9s))
 (cond (cutOk (List.length (List.set a9s (Int.toNat i10) (D.str s0))) none (some (IntKind.wrap IntKind.i64 (i10 + 1))))
 (some [D.list (cutL (List.set a9s (Int.toNat i10) (D.str s0)) none (some (IntKind.wrap IntKind.i64 (i10 + 1))))])
 (none))
 (none))
 (cond (cutOk (List.length s0) none (some (IntKind.wrap IntKind.i64 (D.toInt (List.getD ρ1 0 D.no) + sepSave2))))
 (cond (inb i10 (List.length a9s))
 (cond (cutOk (List.length s0) (some (IntKind.wrap IntKind.i64 (D.toInt (List.getD ρ1 0 D.no) + (↑(List.length sep1) : Int)))) none)
 (L67b (cutL s0 (some (IntKind.wrap IntKind.i64 (D.toInt (List.getD ρ1 0 D.no) + (↑(List.length sep1) : Int)))) none) sep1 sepSave2 n3 (IntKind.wrap IntKind.i64 (i10 + 1)) (List.set a9s (Int.toNat i10) (D.str (cutL s0 none (some (IntKind.wrap IntKind.i64 (D.toInt (List.getD ρ1 0 D.no) + sepSave2)))))))
 (none))
 (none))
 (none)))
 (cond (inb i10 (List.length a9s))
 (cond (cutOk (List.length (List.set a9s (Int.toNat i10) (D.str s0))) none (some (IntKind.wrap IntKind.i64 (i10 + 1))))
 (some [D.list (cutL (List.set a9s (Int.toNat i10) (D.str s0)) none (some (IntKind.wrap IntKind.i64 (i10 + 1))))])
 (none))
 (none)) := (LOOP_eq _ _ _ _ _ _).trans (by kernel_rfl)
/-! masthead/mastref1.isDigit -/
theorem enter58 (c0 : Int) : RUN E 58 [D.int c0] =
 some [D.bool (bif decide (48 ≤ c0) then decide (c0 ≤ 57) else false)] := (RUN_eq _ _ _).trans (by kernel_rfl)
/-! masthead/mastref1.docsError -/
def h22a (l0 : List D) (bodies1 : Bool) (v12 : List D) (v13 : Int) (v14 : Int) : St := mkSt 62 [(0, SV.val (KT.slice 57) (D.list l0)), (1, SV.val KT.bool (D.bool bodies1)), (12, SV.val (KT.slice 57) (D.list v12)), (13, SV.val (KT.int IntKind.i64) (D.int v13)), (14, SV.val (KT.int IntKind.i64) (D.int v14))] []
noncomputable def L22a (l0 : List D) (bodies1 : Bool) (v12 : List D) (v13 : Int) (v14 : Int) : R := LOOP E (RUN E) 22 Tryd.f22 [1, 1, 0, 1, 0] (h22a l0 bodies1 v12 v13 v14)
theorem enter22 (l0 : List D) (bodies1 : Bool) : RUN E 22 [D.list l0, D.bool bodies1] =
 cond (decide (120 < (↑(List.length l0) : Int)))
 (some [D.int 4])
 (L22a l0 bodies1 l0 ((↑(List.length l0) : Int)) 0) := (RUN_eq _ _ _).trans (by kernel_rfl)
theorem round22a (l0 : List D) (bodies1 : Bool) (v12 : List D) (v13 : Int) (v14 : Int) : L22a l0 bodies1 v12 v13 v14 =
 cond (decide (v14 < v13))
 (cond (inb v14 (List.length v12))
 (opt (RUN E 55 [D.str (D.toStr (D.cell (List.getD v12 (Int.toNat v14) D.no) 0))]) fun ρ2 =>
 cond (bif decide (D.toInt (List.getD ρ2 1 D.no) = 0) then false else true)
 (some [D.int 3])
 (cond (bif inb (IntKind.wrap IntKind.i64 (v14 - 1)) (List.length l0) then true else bif bif decide (0 < v14) then true else false then false else true)
 (cond (bif decide (0 < v14) then bif Op.bytesLess (D.toStr (D.cell (List.getD v12 (Int.toNat v14) D.no) 0)) (D.toStr (D.cell (List.getD l0 (Int.toNat (IntKind.wrap IntKind.i64 (v14 - 1))) D.no) 0)) then true else (fun (_ : Unit) => decide (D.toStr (D.cell (List.getD v12 (Int.toNat v14) D.no) 0) = D.toStr (D.cell (List.getD l0 (Int.toNat (IntKind.wrap IntKind.i64 (v14 - 1))) D.no) 0))) () else false)
 (some [D.int 5])
 (opt (RUN E 56 [D.str (D.toStr (D.cell (List.getD v12 (Int.toNat v14) D.no) 1)), D.bool false, D.bool false]) fun ρ6 =>
 cond (D.toBool (List.getD ρ6 0 D.no))
 (some [D.int 9])
 (cond (bif bodies1 then decide (200000 < IntKind.wrap IntKind.i64 ((↑(List.length (D.toStr (D.cell (List.getD v12 (Int.toNat v14) D.no) 1))) : Int) + (↑(List.length (D.toStr (D.cell (List.getD v12 (Int.toNat v14) D.no) 2))) : Int))) else false)
 (some [D.int 4])
 (cond (bif bif bodies1 then false else true then bif decide (D.toStr (D.cell (List.getD v12 (Int.toNat v14) D.no) 2) = ([] : List UInt8)) then false else true else false)
 (some [D.int 1])
 (L22a l0 bodies1 v12 v13 (IntKind.wrap IntKind.i64 (v14 + 1)))))))
 (none)))
 (none))
 (some [D.int 0]) := (LOOP_eq _ _ _ _ _ _).trans (by kernel_rfl)
/-! masthead/mastref1.inRange -/
theorem enter23 (n0 : Int) (most1 : Int) : RUN E 23 [D.int n0, D.int most1] =
 some [D.bool (bif decide (0 ≤ n0) then decide (n0 ≤ most1) else false)] := (RUN_eq _ _ _).trans (by kernel_rfl)
/-! masthead/mastref1.WordsIn -/
def h24a (s0 : List UInt8) (word4 : List UInt8) (i5 : Int) (out3s : List D) : St := mkSt 54 [(0, SV.val KT.str (D.str s0)), (3, SV.own 3), (4, SV.val KT.str (D.str word4)), (5, SV.val (KT.int IntKind.i64) (D.int i5))] [(3, Obj.arr 9 out3s)]
noncomputable def L24a (s0 : List UInt8) (word4 : List UInt8) (i5 : Int) (out3s : List D) : R := LOOP E (RUN E) 24 Tryd.f24 [1, 1, 1, 0, 1, 0] (h24a s0 word4 i5 out3s)
theorem enter24 (s0 : List UInt8) : RUN E 24 [D.str s0] =
 L24a s0 (([] : List UInt8)) 0 [] := (RUN_eq _ _ _).trans (by kernel_rfl)
theorem round24a (s0 : List UInt8) (word4 : List UInt8) (i5 : Int) (out3s : List D) : L24a s0 word4 i5 out3s =
 cond (decide (i5 ≤ (↑(List.length s0) : Int)))
 (cond (bif inb i5 (List.length s0) then true else bif bif decide (i5 < (↑(List.length s0) : Int)) then true else false then false else true)
 (opt (cond (bif decide (i5 < (↑(List.length s0) : Int)) then true else false)
 (RUN E 57 [D.int (↑(UInt8.toNat (List.getD s0 (Int.toNat i5) 0)) : Int)])
 (some [])) fun ρ2 =>
 cond (bif inb i5 (List.length s0) then true else bif bif bif D.toBool (List.getD ρ2 0 D.no) then false else true then bif decide (i5 < (↑(List.length s0) : Int)) then true else false else false then false else true)
 (opt (cond (bif bif D.toBool (List.getD ρ2 0 D.no) then false else true then bif decide (i5 < (↑(List.length s0) : Int)) then true else false else false)
 (RUN E 58 [D.int (↑(UInt8.toNat (List.getD s0 (Int.toNat i5) 0)) : Int)])
 (some [])) fun ρ4 =>
 cond (bif inb i5 (List.length s0) then true else bif bif bif bif D.toBool (List.getD ρ2 0 D.no) then true else D.toBool (List.getD ρ4 0 D.no) then false else true then bif decide (i5 < (↑(List.length s0) : Int)) then true else false else false then false else true)
 (cond (bif decide (i5 < (↑(List.length s0) : Int)) then bif bif D.toBool (List.getD ρ2 0 D.no) then true else D.toBool (List.getD ρ4 0 D.no) then true else decide (128 ≤ (↑(UInt8.toNat (List.getD s0 (Int.toNat i5) 0)) : Int)) else false)
 (cond (cutOk (List.length s0) (some i5) (some (IntKind.wrap IntKind.i64 (i5 + 1))))
 (opt (RUN E 59 [D.str (cutL s0 (some i5) (some (IntKind.wrap IntKind.i64 (i5 + 1))))]) fun ρ8 =>
 cond (decide (List.length word4 + List.length (D.toStr (List.getD ρ8 0 D.no)) ≤ lim))
 (L24a s0 (word4 ++ D.toStr (List.getD ρ8 0 D.no)) (IntKind.wrap IntKind.i64 (i5 + 1)) out3s)
 (none))
 (none))
 (cond (bif bif decide (word4 = ([] : List UInt8)) then false else true then decide ((↑(List.length word4) : Int) ≤ 30) else false)
 (cond (fitL (List.length out3s) (List.length [D.str word4]))
 (L24a s0 (([] : List UInt8)) (IntKind.wrap IntKind.i64 (i5 + 1)) (out3s ++ [D.str word4]))
 (none))
 (L24a s0 (([] : List UInt8)) (IntKind.wrap IntKind.i64 (i5 + 1)) out3s)))
 (none))
 (none))
 (none))
 (some [D.list out3s]) := (LOOP_eq _ _ _ _ _ _).trans (by kernel_rfl)
/-! masthead/mastref1.IndexBytes -/
def h9a (v11 : List D) (v12 : Int) (v13 : Int) (parts3s : List D) (x1 : D) : St := mkSt 80 [(1, SV.bptr 1 26 0 (KT.agg 26)), (3, SV.own 3), (11, SV.val (KT.slice 57) (D.list v11)), (12, SV.val (KT.int IntKind.i64) (D.int v12)), (13, SV.val (KT.int IntKind.i64) (D.int v13))] [(3, Obj.arr 9 parts3s), (1, Obj.box 26 (BC.whole x1))]
noncomputable def L9a (v11 : List D) (v12 : Int) (v13 : Int) (parts3s : List D) (x1 : D) : R := LOOP E (RUN E) 9 Tryd.f9 [1, 1, 0, 1, 0] (h9a v11 v12 v13 parts3s x1)
def h9b (v39 : List D) (v40 : Int) (v41 : Int) (parts3s : List D) : St := mkSt 80 [(3, SV.own 3), (39, SV.val (KT.slice 54) (D.list v39)), (40, SV.val (KT.int IntKind.i64) (D.int v40)), (41, SV.val (KT.int IntKind.i64) (D.int v41))] [(3, Obj.arr 9 parts3s)]
noncomputable def L9b (v39 : List D) (v40 : Int) (v41 : Int) (parts3s : List D) : R := LOOP E (RUN E) 9 Tryd.f9 [1, 1, 1, 0, 1, 0] (h9b v39 v40 v41 parts3s)
def h9c (v39 : List D) (v40 : Int) (v41 : Int) (v52 : List D) (v53 : Int) (v54 : Int) (parts3s : List D) (t7 : D) : St := mkSt 80 [(3, SV.own 3), (7, SV.bptr 7 54 0 (KT.agg 54)), (39, SV.val (KT.slice 54) (D.list v39)), (40, SV.val (KT.int IntKind.i64) (D.int v40)), (41, SV.val (KT.int IntKind.i64) (D.int v41)), (52, SV.val (KT.slice 3) (D.list v52)), (53, SV.val (KT.int IntKind.i64) (D.int v53)), (54, SV.val (KT.int IntKind.i64) (D.int v54))] [(3, Obj.arr 9 parts3s), (7, Obj.box 54 (BC.whole t7))]
noncomputable def L9c (v39 : List D) (v40 : Int) (v41 : Int) (v52 : List D) (v53 : Int) (v54 : Int) (parts3s : List D) (t7 : D) : R := LOOP E (RUN E) 9 Tryd.f9 [1, 1, 1, 0, 1, 0, 0, 1, 1, 0, 0, 1, 1, 0, 1, 0] (h9c v39 v40 v41 v52 v53 v54 parts3s t7)
theorem enter9 (x0 : D) : RUN E 9 [x0] =
 L9a (D.toList (D.cell x0 0)) ((↑(List.length (D.toList (D.cell x0 0))) : Int)) 0 [] x0 := (RUN_eq _ _ _).trans (by kernel_rfl)
theorem round9a (v11 : List D) (v12 : Int) (v13 : Int) (parts3s : List D) (x1 : D) : L9a v11 v12 v13 parts3s x1 =
 cond (decide (v13 < v12))
 (cond (inb v13 (List.length v11))
 (cond (decide (List.length (([100, 111, 99, 32] : List UInt8)) + List.length (D.toStr (D.cell (List.getD v11 (Int.toNat v13) D.no) 0)) ≤ lim))
 (cond (decide (List.length (([100, 111, 99, 32] : List UInt8) ++ D.toStr (D.cell (List.getD v11 (Int.toNat v13) D.no) 0)) + List.length (([32] : List UInt8)) ≤ lim))
 (cond (inb v13 (List.length (D.toList (D.cell x1 1))))
 (opt (RUN E 25 [D.int (D.toInt (List.getD (D.toList (D.cell x1 1)) (Int.toNat v13) D.no))]) fun ρ5 =>
 cond (decide (List.length (([100, 111, 99, 32] : List UInt8) ++ D.toStr (D.cell (List.getD v11 (Int.toNat v13) D.no) 0) ++ ([32] : List UInt8)) + List.length (D.toStr (List.getD ρ5 0 D.no)) ≤ lim))
 (cond (decide (List.length (([100, 111, 99, 32] : List UInt8) ++ D.toStr (D.cell (List.getD v11 (Int.toNat v13) D.no) 0) ++ ([32] : List UInt8) ++ D.toStr (List.getD ρ5 0 D.no)) + List.length (([32] : List UInt8)) ≤ lim))
 (cond (decide (List.length (([100, 111, 99, 32] : List UInt8) ++ D.toStr (D.cell (List.getD v11 (Int.toNat v13) D.no) 0) ++ ([32] : List UInt8) ++ D.toStr (List.getD ρ5 0 D.no) ++ ([32] : List UInt8)) + List.length (D.toStr (D.cell (List.getD v11 (Int.toNat v13) D.no) 1)) ≤ lim))
 (cond (decide (List.length (([100, 111, 99, 32] : List UInt8) ++ D.toStr (D.cell (List.getD v11 (Int.toNat v13) D.no) 0) ++ ([32] : List UInt8) ++ D.toStr (List.getD ρ5 0 D.no) ++ ([32] : List UInt8) ++ D.toStr (D.cell (List.getD v11 (Int.toNat v13) D.no) 1)) + List.length (([10] : List UInt8)) ≤ lim))
 (cond (fitL (List.length parts3s) (List.length [D.str (([100, 111, 99, 32] : List UInt8) ++ D.toStr (D.cell (List.getD v11 (Int.toNat v13) D.no) 0) ++ ([32] : List UInt8) ++ D.toStr (List.getD ρ5 0 D.no) ++ ([32] : List UInt8) ++ D.toStr (D.cell (List.getD v11 (Int.toNat v13) D.no) 1) ++ ([10] : List UInt8))]))
 (L9a v11 v12 (IntKind.wrap IntKind.i64 (v13 + 1)) (parts3s ++ [D.str (([100, 111, 99, 32] : List UInt8) ++ D.toStr (D.cell (List.getD v11 (Int.toNat v13) D.no) 0) ++ ([32] : List UInt8) ++ D.toStr (List.getD ρ5 0 D.no) ++ ([32] : List UInt8) ++ D.toStr (D.cell (List.getD v11 (Int.toNat v13) D.no) 1) ++ ([10] : List UInt8))]) x1)
 (none))
 (none))
 (none))
 (none))
 (none))
 (none))
 (none))
 (none))
 (none))
 (L9b (D.toList (D.cell x1 2)) ((↑(List.length (D.toList (D.cell x1 2))) : Int)) 0 parts3s) := (LOOP_eq _ _ _ _ _ _).trans (by kernel_rfl)
theorem round9b (v39 : List D) (v40 : Int) (v41 : Int) (parts3s : List D) : L9b v39 v40 v41 parts3s =
 cond (decide (v41 < v40))
 (cond (inb v41 (List.length v39))
 (cond (decide (List.length (([116, 101, 114, 109, 32] : List UInt8)) + List.length (D.toStr (D.cell (List.getD v39 (Int.toNat v41) D.no) 0)) ≤ lim))
 (cond (fitL (List.length parts3s) (List.length [D.str (([116, 101, 114, 109, 32] : List UInt8) ++ D.toStr (D.cell (List.getD v39 (Int.toNat v41) D.no) 0))]))
 (L9c v39 v40 v41 (D.toList (D.cell (List.getD v39 (Int.toNat v41) D.no) 1)) ((↑(List.length (D.toList (D.cell (List.getD v39 (Int.toNat v41) D.no) 1))) : Int)) 0 (parts3s ++ [D.str (([116, 101, 114, 109, 32] : List UInt8) ++ D.toStr (D.cell (List.getD v39 (Int.toNat v41) D.no) 0))]) (List.getD v39 (Int.toNat v41) D.no))
 (none))
 (none))
 (none))
 (opt (RUN E 26 [D.list parts3s, D.str (([] : List UInt8))]) fun ρ1 =>
 some [D.str (D.toStr (List.getD ρ1 0 D.no))]) := (LOOP_eq _ _ _ _ _ _).trans (by kernel_rfl)
theorem round9c (v39 : List D) (v40 : Int) (v41 : Int) (v52 : List D) (v53 : Int) (v54 : Int) (parts3s : List D) (t7 : D) : L9c v39 v40 v41 v52 v53 v54 parts3s t7 =
 cond (decide (v54 < v53))
 (cond (inb v54 (List.length v52))
 (opt (RUN E 25 [D.int (D.toInt (List.getD v52 (Int.toNat v54) D.no))]) fun ρ2 =>
 cond (decide (List.length (([32] : List UInt8)) + List.length (D.toStr (List.getD ρ2 0 D.no)) ≤ lim))
 (cond (decide (List.length (([32] : List UInt8) ++ D.toStr (List.getD ρ2 0 D.no)) + List.length (([58] : List UInt8)) ≤ lim))
 (cond (inb v54 (List.length (D.toList (D.cell t7 2))))
 (opt (RUN E 25 [D.int (D.toInt (List.getD (D.toList (D.cell t7 2)) (Int.toNat v54) D.no))]) fun ρ6 =>
 cond (decide (List.length (([32] : List UInt8) ++ D.toStr (List.getD ρ2 0 D.no) ++ ([58] : List UInt8)) + List.length (D.toStr (List.getD ρ6 0 D.no)) ≤ lim))
 (cond (fitL (List.length parts3s) (List.length [D.str (([32] : List UInt8) ++ D.toStr (List.getD ρ2 0 D.no) ++ ([58] : List UInt8) ++ D.toStr (List.getD ρ6 0 D.no))]))
 (L9c v39 v40 v41 v52 v53 (IntKind.wrap IntKind.i64 (v54 + 1)) (parts3s ++ [D.str (([32] : List UInt8) ++ D.toStr (List.getD ρ2 0 D.no) ++ ([58] : List UInt8) ++ D.toStr (List.getD ρ6 0 D.no))]) t7)
 (none))
 (none))
 (none))
 (none))
 (none))
 (none))
 (cond (fitL (List.length parts3s) (List.length [D.str (([10] : List UInt8))]))
 (L9b v39 v40 (IntKind.wrap IntKind.i64 (v41 + 1)) (parts3s ++ [D.str (([10] : List UInt8))]))
 (none)) := (LOOP_eq _ _ _ _ _ _).trans (by kernel_rfl)
/-! masthead/ship.isDigit -/
theorem enter90 (c0 : Int) : RUN E 90 [D.int c0] =
 some [D.bool (bif decide (48 ≤ c0) then decide (c0 ≤ 57) else false)] := (RUN_eq _ _ _).trans (by kernel_rfl)
/-! masthead/ship.Path -/
theorem enter87 (address0 : List UInt8) : RUN E 87 [D.str address0] =
 opt (RUN E 29 [D.str address0, D.str (([47] : List UInt8))]) fun ρ0 =>
 cond (bif D.toBool (List.getD ρ0 0 D.no) then false else true)
 (some [D.str (([] : List UInt8)), D.int 3])
 (cond (cutOk (List.length address0) (some 1) none)
 (opt (cond (bif decide (cutL address0 (some 1) none = ([] : List UInt8)) then false else true)
 (RUN E 27 [D.str (cutL address0 (some 1) none), D.str (([47] : List UInt8))])
 (some [])) fun ρ3 =>
 cond (bif decide (cutL address0 (some 1) none = ([] : List UInt8)) then true else D.toBool (List.getD ρ3 0 D.no))
 (cond (decide (List.length (cutL address0 (some 1) none) + List.length (([105, 110, 100, 101, 120, 46, 104, 116, 109, 108] : List UInt8)) ≤ lim))
 (opt (RUN E 69 [D.str (cutL address0 (some 1) none ++ ([105, 110, 100, 101, 120, 46, 104, 116, 109, 108] : List UInt8))]) fun ρ6 =>
 cond (bif D.toBool (List.getD ρ6 0 D.no) then false else true)
 (some [D.str (([] : List UInt8)), D.int 3])
 (some [D.str (cutL address0 (some 1) none ++ ([105, 110, 100, 101, 120, 46, 104, 116, 109, 108] : List UInt8)), D.int 0]))
 (none))
 (opt (RUN E 69 [D.str (cutL address0 (some 1) none)]) fun ρ5 =>
 cond (bif D.toBool (List.getD ρ5 0 D.no) then false else true)
 (some [D.str (([] : List UInt8)), D.int 3])
 (some [D.str (cutL address0 (some 1) none), D.int 0])))
 (none)) := (RUN_eq _ _ _).trans (by kernel_rfl)
/-! masthead/ship.control -/
def h88a (s0 : List UInt8) (i3 : Int) : St := mkSt 14 [(0, SV.val KT.str (D.str s0)), (3, SV.val (KT.int IntKind.i64) (D.int i3))] []
noncomputable def L88a (s0 : List UInt8) (i3 : Int) : R := LOOP E (RUN E) 88 Tryd.f88 [1, 0, 1, 0] (h88a s0 i3)
theorem enter88 (s0 : List UInt8) : RUN E 88 [D.str s0] =
 L88a s0 0 := (RUN_eq _ _ _).trans (by kernel_rfl)
theorem round88a (s0 : List UInt8) (i3 : Int) : L88a s0 i3 =
 cond (decide (i3 < (↑(List.length s0) : Int)))
 (cond (inb i3 (List.length s0))
 (cond (decide ((↑(UInt8.toNat (List.getD s0 (Int.toNat i3) 0)) : Int) < 32))
 (some [D.bool true])
 (L88a s0 (IntKind.wrap IntKind.i64 (i3 + 1))))
 (none))
 (some [D.bool false]) := (LOOP_eq _ _ _ _ _ _).trans (by kernel_rfl)
/-! masthead/ship.isLetter -/
theorem enter89 (c0 : Int) : RUN E 89 [D.int c0] =
 some [D.bool (bif bif decide (97 ≤ c0) then decide (c0 ≤ 122) else false then true else bif decide (65 ≤ c0) then decide (c0 ≤ 90) else false)] := (RUN_eq _ _ _).trans (by kernel_rfl)
/-! masthead/ship.lower -/
def h91a (v9 : Int) (v10 : Int) (v7s : List D) : St := mkSt 29 [(3, SV.own 7), (8, SV.own 7), (9, SV.val (KT.int IntKind.i64) (D.int v9)), (10, SV.val (KT.int IntKind.i64) (D.int v10))] [(7, Obj.arr 5 v7s)]
noncomputable def L91a (v9 : Int) (v10 : Int) (v7s : List D) : R := LOOP E (RUN E) 91 Tryd.f91 [1, 1, 0, 1, 0] (h91a v9 v10 v7s)
theorem enter91 (s0 : List UInt8) : RUN E 91 [D.str s0] =
 L91a ((↑(List.length (bytesD s0)) : Int)) 0 (bytesD s0) := (RUN_eq _ _ _).trans (by kernel_rfl)
theorem round91a (v9 : Int) (v10 : Int) (v7s : List D) : L91a v9 v10 v7s =
 cond (decide (v10 < v9))
 (cond (inb v10 (List.length v7s))
 (cond (bif decide (65 ≤ D.toInt (List.getD v7s (Int.toNat v10) D.no)) then decide (D.toInt (List.getD v7s (Int.toNat v10) D.no) ≤ 90) else false)
 (cond (inb v10 (List.length v7s))
 (L91a v9 (IntKind.wrap IntKind.i64 (v10 + 1)) (List.set v7s (Int.toNat v10) (D.int (IntKind.wrap IntKind.u8 (D.toInt (List.getD v7s (Int.toNat v10) D.no) + 32)))))
 (none))
 (L91a v9 (IntKind.wrap IntKind.i64 (v10 + 1)) v7s))
 (none))
 (some [D.str (dBytes v7s)]) := (LOOP_eq _ _ _ _ _ _).trans (by kernel_rfl)
/-! (*strings.Builder).WriteString -/
theorem enter53 (b0c1 : List D) (s1 : List UInt8) : RUN E 53 [D.agg [D.no, D.list b0c1], D.str s1] =
 opt (RUN E 92 [D.agg [D.no, D.list b0c1]]) fun ρ0 =>
 cond (fitL (List.length (D.toList (D.cell (List.getD ρ0 0 D.no) 1))) (List.length (bytesD s1)))
 (some [D.int (↑(List.length s1) : Int), D.no, D.agg [D.no, D.list (D.toList (D.cell (List.getD ρ0 0 D.no) 1) ++ bytesD s1)]])
 (none) := (RUN_eq _ _ _).trans (by kernel_rfl)
/-! masthead/mastref1.PathOf -/
theorem enter55 (address0 : List UInt8) : RUN E 55 [D.str address0] =
 opt (RUN E 29 [D.str address0, D.str (([47] : List UInt8))]) fun ρ0 =>
 cond (bif D.toBool (List.getD ρ0 0 D.no) then false else true)
 (some [D.str (([] : List UInt8)), D.int 3])
 (cond (cutOk (List.length address0) (some 1) none)
 (opt (RUN E 27 [D.str address0, D.str (([47] : List UInt8))]) fun ρ3 =>
 cond (D.toBool (List.getD ρ3 0 D.no))
 (cond (decide (List.length (cutL address0 (some 1) none) + List.length (([105, 110, 100, 101, 120, 46, 104, 116, 109, 108] : List UInt8)) ≤ lim))
 (opt (RUN E 43 [D.str (cutL address0 (some 1) none ++ ([105, 110, 100, 101, 120, 46, 104, 116, 109, 108] : List UInt8))]) fun ρ6 =>
 cond (bif D.toBool (List.getD ρ6 0 D.no) then false else true)
 (some [D.str (([] : List UInt8)), D.int 3])
 (some [D.str (cutL address0 (some 1) none ++ ([105, 110, 100, 101, 120, 46, 104, 116, 109, 108] : List UInt8)), D.int 0]))
 (none))
 (opt (RUN E 43 [D.str (cutL address0 (some 1) none)]) fun ρ5 =>
 cond (bif D.toBool (List.getD ρ5 0 D.no) then false else true)
 (some [D.str (([] : List UInt8)), D.int 3])
 (some [D.str (cutL address0 (some 1) none), D.int 0])))
 (none)) := (RUN_eq _ _ _).trans (by kernel_rfl)
/-! masthead/mastref1.badBytes -/
def h56a (s0 : List UInt8) (tab1 : Bool) (feed2 : Bool) (i7 : Int) : St := mkSt 38 [(0, SV.val KT.str (D.str s0)), (1, SV.val KT.bool (D.bool tab1)), (2, SV.val KT.bool (D.bool feed2)), (7, SV.val (KT.int IntKind.i64) (D.int i7))] []
noncomputable def L56a (s0 : List UInt8) (tab1 : Bool) (feed2 : Bool) (i7 : Int) : R := LOOP E (RUN E) 56 Tryd.f56 [1, 0, 1, 0] (h56a s0 tab1 feed2 i7)
theorem enter56 (s0 : List UInt8) (tab1 : Bool) (feed2 : Bool) : RUN E 56 [D.str s0, D.bool tab1, D.bool feed2] =
 L56a s0 tab1 feed2 0 := (RUN_eq _ _ _).trans (by kernel_rfl)
theorem round56a (s0 : List UInt8) (tab1 : Bool) (feed2 : Bool) (i7 : Int) : L56a s0 tab1 feed2 i7 =
 cond (decide (i7 < (↑(List.length s0) : Int)))
 (cond (inb i7 (List.length s0))
 (cond (bif inb i7 (List.length s0) then true else bif bif bif tab1 then true else false then bif decide ((↑(UInt8.toNat (List.getD s0 (Int.toNat i7) 0)) : Int) < 32) then true else false else false then false else true)
 (cond (bif inb i7 (List.length s0) then true else bif bif bif feed2 then true else false then bif bif decide ((↑(UInt8.toNat (List.getD s0 (Int.toNat i7) 0)) : Int) < 32) then bif bif tab1 then decide ((↑(UInt8.toNat (List.getD s0 (Int.toNat i7) 0)) : Int) = 9) else false then false else true else false then true else false else false then false else true)
 (cond (bif bif decide ((↑(UInt8.toNat (List.getD s0 (Int.toNat i7) 0)) : Int) < 32) then bif bif tab1 then decide ((↑(UInt8.toNat (List.getD s0 (Int.toNat i7) 0)) : Int) = 9) else false then false else true else false then bif bif feed2 then decide ((↑(UInt8.toNat (List.getD s0 (Int.toNat i7) 0)) : Int) = 10) else false then false else true else false)
 (some [D.bool true])
 (L56a s0 tab1 feed2 (IntKind.wrap IntKind.i64 (i7 + 1))))
 (none))
 (none))
 (none))
 (some [D.bool false]) := (LOOP_eq _ _ _ _ _ _).trans (by kernel_rfl)
/-! masthead/mastref1.isLetter -/
theorem enter57 (c0 : Int) : RUN E 57 [D.int c0] =
 some [D.bool (bif bif decide (97 ≤ c0) then decide (c0 ≤ 122) else false then true else bif decide (65 ≤ c0) then decide (c0 ≤ 90) else false)] := (RUN_eq _ _ _).trans (by kernel_rfl)
/-! masthead/mastref1.lower -/
def h59a (v9 : Int) (v10 : Int) (v7s : List D) : St := mkSt 29 [(3, SV.own 7), (8, SV.own 7), (9, SV.val (KT.int IntKind.i64) (D.int v9)), (10, SV.val (KT.int IntKind.i64) (D.int v10))] [(7, Obj.arr 5 v7s)]
noncomputable def L59a (v9 : Int) (v10 : Int) (v7s : List D) : R := LOOP E (RUN E) 59 Tryd.f59 [1, 1, 0, 1, 0] (h59a v9 v10 v7s)
theorem enter59 (s0 : List UInt8) : RUN E 59 [D.str s0] =
 L59a ((↑(List.length (bytesD s0)) : Int)) 0 (bytesD s0) := (RUN_eq _ _ _).trans (by kernel_rfl)
theorem round59a (v9 : Int) (v10 : Int) (v7s : List D) : L59a v9 v10 v7s =
 cond (decide (v10 < v9))
 (cond (inb v10 (List.length v7s))
 (cond (bif decide (65 ≤ D.toInt (List.getD v7s (Int.toNat v10) D.no)) then decide (D.toInt (List.getD v7s (Int.toNat v10) D.no) ≤ 90) else false)
 (cond (inb v10 (List.length v7s))
 (L59a v9 (IntKind.wrap IntKind.i64 (v10 + 1)) (List.set v7s (Int.toNat v10) (D.int (IntKind.wrap IntKind.u8 (D.toInt (List.getD v7s (Int.toNat v10) D.no) + 32)))))
 (none))
 (L59a v9 (IntKind.wrap IntKind.i64 (v10 + 1)) v7s))
 (none))
 (some [D.str (dBytes v7s)]) := (LOOP_eq _ _ _ _ _ _).trans (by kernel_rfl)
/-! masthead/ship.isPath -/
def h69a (v9 : List D) (v10 : Int) (v11 : Int) : St := mkSt 19 [(9, SV.val (KT.slice 9) (D.list v9)), (10, SV.val (KT.int IntKind.i64) (D.int v10)), (11, SV.val (KT.int IntKind.i64) (D.int v11))] []
noncomputable def L69a (v9 : List D) (v10 : Int) (v11 : Int) : R := LOOP E (RUN E) 69 Tryd.f69 [1, 1, 0, 1, 0] (h69a v9 v10 v11)
theorem enter69 (s0 : List UInt8) : RUN E 69 [D.str s0] =
 cond (decide (200 < (↑(List.length s0) : Int)))
 (some [D.bool false])
 (opt (RUN E 35 [D.str s0, D.str (([47] : List UInt8))]) fun ρ1 =>
 L69a (D.toList (List.getD ρ1 0 D.no)) ((↑(List.length (D.toList (List.getD ρ1 0 D.no))) : Int)) 0) := (RUN_eq _ _ _).trans (by kernel_rfl)
theorem round69a (v9 : List D) (v10 : Int) (v11 : Int) : L69a v9 v10 v11 =
 cond (decide (v11 < v10))
 (cond (inb v11 (List.length v9))
 (opt (RUN E 100 [D.str (D.toStr (List.getD v9 (Int.toNat v11) D.no))]) fun ρ2 =>
 cond (bif D.toBool (List.getD ρ2 0 D.no) then false else true)
 (some [D.bool false])
 (L69a v9 v10 (IntKind.wrap IntKind.i64 (v11 + 1))))
 (none))
 (some [D.bool true]) := (LOOP_eq _ _ _ _ _ _).trans (by kernel_rfl)
/-! masthead/mastref1.IsPath -/
def h43a (v14 : List D) (v15 : Int) (v16 : Int) : St := mkSt 24 [(14, SV.val (KT.slice 9) (D.list v14)), (15, SV.val (KT.int IntKind.i64) (D.int v15)), (16, SV.val (KT.int IntKind.i64) (D.int v16))] []
noncomputable def L43a (v14 : List D) (v15 : Int) (v16 : Int) : R := LOOP E (RUN E) 43 Tryd.f43 [1, 1, 0, 1, 0] (h43a v14 v15 v16)
theorem enter43 (s0 : List UInt8) : RUN E 43 [D.str s0] =
 cond (bif decide ((↑(List.length s0) : Int) < 1) then true else decide (200 < (↑(List.length s0) : Int)))
 (some [D.bool false])
 (opt (RUN E 35 [D.str s0, D.str (([47] : List UInt8))]) fun ρ1 =>
 L43a (D.toList (List.getD ρ1 0 D.no)) ((↑(List.length (D.toList (List.getD ρ1 0 D.no))) : Int)) 0) := (RUN_eq _ _ _).trans (by kernel_rfl)
theorem round43a (v14 : List D) (v15 : Int) (v16 : Int) : L43a v14 v15 v16 =
 cond (decide (v16 < v15))
 (cond (inb v16 (List.length v14))
 (opt (RUN E 72 [D.str (D.toStr (List.getD v14 (Int.toNat v16) D.no))]) fun ρ2 =>
 cond (bif D.toBool (List.getD ρ2 0 D.no) then false else true)
 (some [D.bool false])
 (L43a v14 v15 (IntKind.wrap IntKind.i64 (v16 + 1))))
 (none))
 (some [D.bool true]) := (LOOP_eq _ _ _ _ _ _).trans (by kernel_rfl)
/-! masthead/ship.isPart -/
def h100a (s0 : List UInt8) (i3 : Int) : St := mkSt 53 [(0, SV.val KT.str (D.str s0)), (3, SV.val (KT.int IntKind.i64) (D.int i3))] []
noncomputable def L100a (s0 : List UInt8) (i3 : Int) : R := LOOP E (RUN E) 100 Tryd.f100 [1, 1, 0, 1, 0] (h100a s0 i3)
theorem enter100 (s0 : List UInt8) : RUN E 100 [D.str s0] =
 cond (bif bif bif decide (s0 = ([] : List UInt8)) then true else decide (40 < (↑(List.length s0) : Int)) then true else decide (s0 = ([46] : List UInt8)) then true else decide (s0 = ([46, 46] : List UInt8)))
 (some [D.bool false])
 (L100a s0 0) := (RUN_eq _ _ _).trans (by kernel_rfl)
theorem round100a (s0 : List UInt8) (i3 : Int) : L100a s0 i3 =
 cond (decide (i3 < (↑(List.length s0) : Int)))
 (cond (inb i3 (List.length s0))
 (opt (cond (bif bif bif decide (97 ≤ (↑(UInt8.toNat (List.getD s0 (Int.toNat i3) 0)) : Int)) then decide ((↑(UInt8.toNat (List.getD s0 (Int.toNat i3) 0)) : Int) ≤ 122) else false then false else true then true else false)
 (RUN E 90 [D.int (↑(UInt8.toNat (List.getD s0 (Int.toNat i3) 0)) : Int)])
 (some [])) fun ρ2 =>
 cond (bif bif bif bif bif bif decide (97 ≤ (↑(UInt8.toNat (List.getD s0 (Int.toNat i3) 0)) : Int)) then decide ((↑(UInt8.toNat (List.getD s0 (Int.toNat i3) 0)) : Int) ≤ 122) else false then false else true then bif D.toBool (List.getD ρ2 0 D.no) then false else true else false then bif decide ((↑(UInt8.toNat (List.getD s0 (Int.toNat i3) 0)) : Int) = 45) then false else true else false then bif decide ((↑(UInt8.toNat (List.getD s0 (Int.toNat i3) 0)) : Int) = 95) then false else true else false then bif decide ((↑(UInt8.toNat (List.getD s0 (Int.toNat i3) 0)) : Int) = 46) then false else true else false)
 (some [D.bool false])
 (L100a s0 (IntKind.wrap IntKind.i64 (i3 + 1))))
 (none))
 (some [D.bool true]) := (LOOP_eq _ _ _ _ _ _).trans (by kernel_rfl)
/-! masthead/mastref1.pathPart -/
def h72a (s0 : List UInt8) (i3 : Int) : St := mkSt 43 [(0, SV.val KT.str (D.str s0)), (3, SV.val (KT.int IntKind.i64) (D.int i3))] []
noncomputable def L72a (s0 : List UInt8) (i3 : Int) : R := LOOP E (RUN E) 72 Tryd.f72 [1, 1, 0, 1, 0] (h72a s0 i3)
theorem enter72 (s0 : List UInt8) : RUN E 72 [D.str s0] =
 cond (bif bif bif decide ((↑(List.length s0) : Int) < 1) then true else decide (40 < (↑(List.length s0) : Int)) then true else decide (s0 = ([46] : List UInt8)) then true else decide (s0 = ([46, 46] : List UInt8)))
 (some [D.bool false])
 (L72a s0 0) := (RUN_eq _ _ _).trans (by kernel_rfl)
theorem round72a (s0 : List UInt8) (i3 : Int) : L72a s0 i3 =
 cond (decide (i3 < (↑(List.length s0) : Int)))
 (cond (inb i3 (List.length s0))
 (opt (RUN E 104 [D.int (↑(UInt8.toNat (List.getD s0 (Int.toNat i3) 0)) : Int)]) fun ρ2 =>
 cond (bif inb i3 (List.length s0) then true else bif bif D.toBool (List.getD ρ2 0 D.no) then false else true then false else true)
 (cond (bif inb i3 (List.length s0) then true else bif bif bif D.toBool (List.getD ρ2 0 D.no) then true else decide ((↑(UInt8.toNat (List.getD s0 (Int.toNat i3) 0)) : Int) = 45) then false else true then false else true)
 (cond (bif bif bif D.toBool (List.getD ρ2 0 D.no) then true else decide ((↑(UInt8.toNat (List.getD s0 (Int.toNat i3) 0)) : Int) = 45) then true else decide ((↑(UInt8.toNat (List.getD s0 (Int.toNat i3) 0)) : Int) = 46) then false else true)
 (some [D.bool false])
 (L72a s0 (IntKind.wrap IntKind.i64 (i3 + 1))))
 (none))
 (none))
 (none))
 (some [D.bool true]) := (LOOP_eq _ _ _ _ _ _).trans (by kernel_rfl)
/-! masthead/mastref1.wordByte -/
theorem enter104 (c0 : Int) : RUN E 104 [D.int c0] =
 opt (cond (bif bif decide (97 ≤ c0) then decide (c0 ≤ 122) else false then false else true)
 (RUN E 58 [D.int c0])
 (some [])) fun ρ0 =>
 some [D.bool (bif bif bif decide (97 ≤ c0) then decide (c0 ≤ 122) else false then true else D.toBool (List.getD ρ0 0 D.no) then true else decide (c0 = 95))] := (RUN_eq _ _ _).trans (by kernel_rfl)
end Go.Proofs.YtefclcihphpejaaDoor.rd
