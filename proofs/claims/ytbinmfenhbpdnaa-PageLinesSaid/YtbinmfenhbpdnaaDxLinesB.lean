/- A part of the proof. -/
import Derived.Test.YtbinmfenhbpdnaaDxLinesA
set_option linter.unusedVariables false
set_option linter.unusedSimpArgs false
namespace Go.Proofs.Ytbinmfenhbpdnaa.pl
open Go.Proofs.Ytbinmfenhbpdnaa.DS

/-! masthead/mastlaw1.PageLines -/
theorem enter5 (s0 : List UInt8) : RUN E 5 [D.str s0] =
    cond (decide (20000 < (↑(List.length s0) : Int)))
  (some [D.bool true])
  (opt (RUN E 16 [D.str s0]) fun ρ1 =>
    opt (RUN E 17 [D.str s0]) fun ρ2 =>
      opt (cond (bif decide (D.toInt (List.getD ρ1 1 D.no) = D.toInt (List.getD ρ2 1 D.no)) then true else false)
          (RUN E 18 [D.list [List.getD ρ1 0 D.no], D.list [List.getD ρ2 0 D.no]])
          (some [])) fun ρ3 =>
        some [D.bool (bif decide (D.toInt (List.getD ρ1 1 D.no) = D.toInt (List.getD ρ2 1 D.no)) then D.toBool (List.getD ρ3 0 D.no) else false)]) := (RUN_eq _ _ _).trans (by kernel_rfl)
/-! masthead/page.Line -/
def h16a (v2c0 : List UInt8) (v2c1 : List UInt8) (v2c3 : Bool) (v18c0 : List UInt8) (v18c1 : Bool) (p5c0 : List UInt8) (p5c1 : List UInt8) (p5c3 : Bool) (x700130s : List D) (x700322s : List D) : St := mkSt 78 [(2, SV.bptr 2 33 0 (KT.agg 33)), (4, SV.bptr 18 59 0 (KT.agg 59)), (5, SV.bptr 5 33 0 (KT.agg 33))] [(2, Obj.box 33 (BC.cells [SV.val KT.str (D.str v2c0), SV.val KT.str (D.str v2c1), SV.own 700130, SV.val KT.bool (D.bool v2c3), SV.nil])), (18, Obj.box 59 (BC.cells [SV.val KT.str (D.str v18c0), SV.val KT.bool (D.bool v18c1)])), (5, Obj.box 33 (BC.cells [SV.val KT.str (D.str p5c0), SV.val KT.str (D.str p5c1), SV.own 700322, SV.val KT.bool (D.bool p5c3), SV.nil])), (700130, Obj.arr 61 x700130s), (700322, Obj.arr 61 x700322s)]
noncomputable def L16a (v2c0 : List UInt8) (v2c1 : List UInt8) (v2c3 : Bool) (v18c0 : List UInt8) (v18c1 : Bool) (p5c0 : List UInt8) (p5c1 : List UInt8) (p5c3 : Bool) (x700130s : List D) (x700322s : List D) : R := LOOP E (RUN E) 16 Try.f16 [1, 1, 1, 1, 0, 0] (h16a v2c0 v2c1 v2c3 v18c0 v18c1 p5c0 p5c1 p5c3 x700130s x700322s)
def h16b (v2c0 : List UInt8) (v2c1 : List UInt8) (v2c3 : Bool) (v18c0 : List UInt8) (v18c1 : Bool) (p5c0 : List UInt8) (p5c1 : List UInt8) (p5c3 : Bool) (x700130s : List D) (x700322s : List D) : St := mkSt 78 [(2, SV.bptr 2 33 0 (KT.agg 33)), (4, SV.bptr 18 59 0 (KT.agg 59)), (5, SV.bptr 5 33 0 (KT.agg 33))] [(2, Obj.box 33 (BC.cells [SV.val KT.str (D.str v2c0), SV.val KT.str (D.str v2c1), SV.own 700130, SV.val KT.bool (D.bool v2c3), SV.nil])), (18, Obj.box 59 (BC.cells [SV.val KT.str (D.str v18c0), SV.val KT.bool (D.bool v18c1)])), (5, Obj.box 33 (BC.cells [SV.val KT.str (D.str p5c0), SV.val KT.str (D.str p5c1), SV.own 700322, SV.val KT.bool (D.bool p5c3), SV.nil])), (700130, Obj.arr 61 x700130s), (700322, Obj.arr 61 x700322s)]
noncomputable def C16b (v2c0 : List UInt8) (v2c1 : List UInt8) (v2c3 : Bool) (v18c0 : List UInt8) (v18c1 : Bool) (p5c0 : List UInt8) (p5c1 : List UInt8) (p5c3 : Bool) (x700130s : List D) (x700322s : List D) : R := PART E (RUN E) 16 Try.f16 [1, 1, 1, 1, 1] (h16b v2c0 v2c1 v2c3 v18c0 v18c1 p5c0 p5c1 p5c3 x700130s x700322s)
theorem enter16 (s0 : List UInt8) : RUN E 16 [D.str s0] =
    opt (RUN E 32 [D.str s0, D.str (([123, 60, 32] : List UInt8))]) fun ρ0 =>
  opt (cond (bif bif D.toBool (List.getD ρ0 0 D.no) then false else true then false else true)
      (RUN E 32 [D.str s0, D.str (([123, 60, 32, 47] : List UInt8))])
      (some [])) fun ρ1 =>
    cond (bif bif D.toBool (List.getD ρ0 0 D.no) then false else true then true else D.toBool (List.getD ρ1 0 D.no))
      (some [D.agg [D.str [], D.str [], D.list [], D.bool false, D.list []], D.int 7])
      (cond (cutOk (List.length s0) (some 3) none)
        (opt (RUN E 33 [D.agg [D.str (cutL s0 (some 3) none), D.bool false]]) fun ρ4 =>
          L16a [] [] false (D.toStr (D.cell (List.getD ρ4 1 D.no) 0)) (D.toBool (D.cell (List.getD ρ4 1 D.no) 1)) [] (D.toStr (List.getD ρ4 0 D.no)) false [] [])
        (none)) := (RUN_eq _ _ _).trans (by kernel_rfl)
theorem round16a (v2c0 : List UInt8) (v2c1 : List UInt8) (v2c3 : Bool) (v18c0 : List UInt8) (v18c1 : Bool) (p5c0 : List UInt8) (p5c1 : List UInt8) (p5c3 : Bool) (x700130s : List D) (x700322s : List D) : L16a v2c0 v2c1 v2c3 v18c0 v18c1 p5c0 p5c1 p5c3 x700130s x700322s =
    cond (bif bif bif v18c1 then false else true then bif decide (v18c0 = ([32, 62, 125] : List UInt8)) then false else true else false then bif decide (v18c0 = ([32, 47, 62, 125] : List UInt8)) then false else true else false)
  (opt (RUN E 34 [D.agg [D.str v18c0, D.bool v18c1], D.str (([32] : List UInt8))]) fun ρ1 =>
    cond (bif D.toBool (List.getD ρ1 0 D.no) then false else true)
      (C16b v2c0 v2c1 v2c3 (D.toStr (D.cell (List.getD ρ1 1 D.no) 0)) true p5c0 p5c1 p5c3 x700130s x700322s)
      (opt (RUN E 35 [D.agg [D.str (D.toStr (D.cell (List.getD ρ1 1 D.no) 0)), D.bool (D.toBool (D.cell (List.getD ρ1 1 D.no) 1))]]) fun ρ3 =>
        cond (fitL (List.length x700322s) (List.length [List.getD ρ3 0 D.no]))
          (L16a v2c0 v2c1 v2c3 (D.toStr (D.cell (List.getD ρ3 1 D.no) 0)) (D.toBool (D.cell (List.getD ρ3 1 D.no) 1)) p5c0 p5c1 p5c3 x700130s (x700322s ++ [List.getD ρ3 0 D.no]))
          (none)))
  (C16b v2c0 v2c1 v2c3 v18c0 v18c1 p5c0 p5c1 p5c3 x700130s x700322s) := (LOOP_eq _ _ _ _ _ _).trans (by kernel_rfl)
theorem round16b (v2c0 : List UInt8) (v2c1 : List UInt8) (v2c3 : Bool) (v18c0 : List UInt8) (v18c1 : Bool) (p5c0 : List UInt8) (p5c1 : List UInt8) (p5c3 : Bool) (x700130s : List D) (x700322s : List D) : C16b v2c0 v2c1 v2c3 v18c0 v18c1 p5c0 p5c1 p5c3 x700130s x700322s =
    cond (v18c1)
  (some [D.agg [D.str [], D.str [], D.list [], D.bool false, D.list []], D.int 8])
  (cond (decide (12 < (↑(List.length x700322s) : Int)))
    (some [D.agg [D.str [], D.str [], D.list [], D.bool false, D.list []], D.int 4])
    (opt (RUN E 36 [D.list x700322s]) fun ρ2 =>
      cond (bif decide (D.toInt (List.getD ρ2 0 D.no) = 0) then false else true)
        (some [D.agg [D.str [], D.str [], D.list [], D.bool false, D.list []], D.int (D.toInt (List.getD ρ2 0 D.no))])
        (some [D.agg [D.str p5c0, D.str p5c1, D.list x700322s, D.bool (decide (v18c0 = ([32, 62, 125] : List UInt8))), D.list []], D.int 0]))) := (PART_eq _ _ _ _ _ _).trans (by kernel_rfl)
/-! masthead/mastref1.CodeOf -/
def h17a (s0 : List UInt8) (v2c0 : List UInt8) (v2c1 : List UInt8) (v2c3 : Bool) (p4c0 : List UInt8) (p4c1 : List UInt8) (p4c3 : Bool) (x700130s : List D) (x700258s : List D) : St := mkSt 110 [(0, SV.val KT.str (D.str s0)), (2, SV.bptr 2 33 0 (KT.agg 33)), (4, SV.bptr 4 33 0 (KT.agg 33))] [(2, Obj.box 33 (BC.cells [SV.val KT.str (D.str v2c0), SV.val KT.str (D.str v2c1), SV.own 700130, SV.val KT.bool (D.bool v2c3), SV.nil])), (4, Obj.box 33 (BC.cells [SV.val KT.str (D.str p4c0), SV.val KT.str (D.str p4c1), SV.own 700258, SV.val KT.bool (D.bool p4c3), SV.nil])), (700130, Obj.arr 61 x700130s), (700258, Obj.arr 61 x700258s)]
noncomputable def C17a (s0 : List UInt8) (v2c0 : List UInt8) (v2c1 : List UInt8) (v2c3 : Bool) (p4c0 : List UInt8) (p4c1 : List UInt8) (p4c3 : Bool) (x700130s : List D) (x700258s : List D) : R := PART E (RUN E) 17 Try.f17 [1, 1, 1, 1] (h17a s0 v2c0 v2c1 v2c3 p4c0 p4c1 p4c3 x700130s x700258s)
def h17b (v56 : List D) (v57 : Int) (v58 : Int) (v2c0 : List UInt8) (v2c1 : List UInt8) (v2c3 : Bool) (p4c0 : List UInt8) (p4c1 : List UInt8) (p4c3 : Bool) (x700130s : List D) (x700258s : List D) : St := mkSt 110 [(2, SV.bptr 2 33 0 (KT.agg 33)), (4, SV.bptr 4 33 0 (KT.agg 33)), (56, SV.val (KT.slice 9) (D.list v56)), (57, SV.val (KT.int IntKind.i64) (D.int v57)), (58, SV.val (KT.int IntKind.i64) (D.int v58))] [(2, Obj.box 33 (BC.cells [SV.val KT.str (D.str v2c0), SV.val KT.str (D.str v2c1), SV.own 700130, SV.val KT.bool (D.bool v2c3), SV.nil])), (4, Obj.box 33 (BC.cells [SV.val KT.str (D.str p4c0), SV.val KT.str (D.str p4c1), SV.own 700258, SV.val KT.bool (D.bool p4c3), SV.nil])), (700130, Obj.arr 61 x700130s), (700258, Obj.arr 61 x700258s)]
noncomputable def L17b (v56 : List D) (v57 : Int) (v58 : Int) (v2c0 : List UInt8) (v2c1 : List UInt8) (v2c3 : Bool) (p4c0 : List UInt8) (p4c1 : List UInt8) (p4c3 : Bool) (x700130s : List D) (x700258s : List D) : R := LOOP E (RUN E) 17 Try.f17 [1, 1, 1, 1, 1, 1, 1, 1, 0, 1, 0] (h17b v56 v57 v58 v2c0 v2c1 v2c3 p4c0 p4c1 p4c3 x700130s x700258s)
theorem enter17 (s0 : List UInt8) : RUN E 17 [D.str s0] =
    opt (RUN E 32 [D.str s0, D.str (([123, 60, 32] : List UInt8))]) fun ρ0 =>
  opt (cond (bif bif D.toBool (List.getD ρ0 0 D.no) then false else true then false else true)
      (RUN E 32 [D.str s0, D.str (([123, 60, 32, 47] : List UInt8))])
      (some [])) fun ρ1 =>
    cond (bif bif D.toBool (List.getD ρ0 0 D.no) then false else true then true else D.toBool (List.getD ρ1 0 D.no))
      (some [D.agg [D.str [], D.str [], D.list [], D.bool false, D.list []], D.int 7])
      (opt (RUN E 27 [D.str s0, D.str (([32, 47, 62, 125] : List UInt8))]) fun ρ3 =>
        cond (D.toBool (List.getD ρ3 0 D.no))
          (cond (cutOk (List.length s0) none (some (IntKind.wrap IntKind.i64 ((↑(List.length s0) : Int) - 4))))
            (C17a (cutL s0 none (some (IntKind.wrap IntKind.i64 ((↑(List.length s0) : Int) - 4)))) [] [] false [] [] false [] [])
            (none))
          (opt (RUN E 27 [D.str s0, D.str (([32, 62, 125] : List UInt8))]) fun ρ5 =>
            cond (D.toBool (List.getD ρ5 0 D.no))
              (cond (cutOk (List.length s0) none (some (IntKind.wrap IntKind.i64 ((↑(List.length s0) : Int) - 3))))
                (C17a (cutL s0 none (some (IntKind.wrap IntKind.i64 ((↑(List.length s0) : Int) - 3)))) [] [] false [] [] true [] [])
                (none))
              (some [D.agg [D.str [], D.str [], D.list [], D.bool false, D.list []], D.int 8]))) := (RUN_eq _ _ _).trans (by kernel_rfl)
theorem round17a (s0 : List UInt8) (v2c0 : List UInt8) (v2c1 : List UInt8) (v2c3 : Bool) (p4c0 : List UInt8) (p4c1 : List UInt8) (p4c3 : Bool) (x700130s : List D) (x700258s : List D) : C17a s0 v2c0 v2c1 v2c3 p4c0 p4c1 p4c3 x700130s x700258s =
    cond (decide ((↑(List.length s0) : Int) < 3))
  (some [D.agg [D.str [], D.str [], D.list [], D.bool false, D.list []], D.int 8])
  (cond (cutOk (List.length s0) (some 3) none)
    (opt (RUN E 37 [D.str (cutL s0 (some 3) none)]) fun ρ2 =>
      cond (inb 0 (List.length (D.toList (List.getD ρ2 0 D.no))))
        (opt (RUN E 38 [D.str (D.toStr (List.getD (D.toList (List.getD ρ2 0 D.no)) 0 D.no))]) fun ρ4 =>
          cond (bif D.toBool (List.getD ρ4 0 D.no) then false else true)
            (some [D.agg [D.str [], D.str [], D.list [], D.bool false, D.list []], D.int 8])
            (cond (cutOk (List.length (D.toList (List.getD ρ2 0 D.no))) (some 1) none)
              (L17b (cutL (D.toList (List.getD ρ2 0 D.no)) (some 1) none) ((↑(List.length (cutL (D.toList (List.getD ρ2 0 D.no)) (some 1) none)) : Int)) 0 v2c0 v2c1 v2c3 p4c0 (D.toStr (List.getD (D.toList (List.getD ρ2 0 D.no)) 0 D.no)) p4c3 x700130s x700258s)
              (none)))
        (none))
    (none)) := (PART_eq _ _ _ _ _ _).trans (by kernel_rfl)
theorem round17b (v56 : List D) (v57 : Int) (v58 : Int) (v2c0 : List UInt8) (v2c1 : List UInt8) (v2c3 : Bool) (p4c0 : List UInt8) (p4c1 : List UInt8) (p4c3 : Bool) (x700130s : List D) (x700258s : List D) : L17b v56 v57 v58 v2c0 v2c1 v2c3 p4c0 p4c1 p4c3 x700130s x700258s =
    cond (decide (v58 < v57))
  (cond (inb v58 (List.length v56))
    (opt (RUN E 39 [D.str (D.toStr (List.getD v56 (Int.toNat v58) D.no)), D.int 61]) fun ρ2 =>
      cond (bif cutOk (List.length (D.toStr (List.getD v56 (Int.toNat v58) D.no))) none (some (D.toInt (List.getD ρ2 0 D.no))) then true else bif bif decide (0 < D.toInt (List.getD ρ2 0 D.no)) then true else false then false else true)
        (opt (cond (bif decide (0 < D.toInt (List.getD ρ2 0 D.no)) then true else false)
            (RUN E 40 [D.str (cutL (D.toStr (List.getD v56 (Int.toNat v58) D.no)) none (some (D.toInt (List.getD ρ2 0 D.no))))])
            (some [])) fun ρ4 =>
          cond (bif decide (0 < D.toInt (List.getD ρ2 0 D.no)) then D.toBool (List.getD ρ4 0 D.no) else false)
            (cond (cutOk (List.length (D.toStr (List.getD v56 (Int.toNat v58) D.no))) none (some (D.toInt (List.getD ρ2 0 D.no))))
              (cond (cutOk (List.length (D.toStr (List.getD v56 (Int.toNat v58) D.no))) (some (IntKind.wrap IntKind.i64 (D.toInt (List.getD ρ2 0 D.no) + 1))) none)
                (opt (RUN E 41 [D.str (cutL (D.toStr (List.getD v56 (Int.toNat v58) D.no)) (some (IntKind.wrap IntKind.i64 (D.toInt (List.getD ρ2 0 D.no) + 1))) none)]) fun ρ8 =>
                  cond (bif D.toBool (List.getD ρ8 1 D.no) then false else true)
                    (some [D.agg [D.str [], D.str [], D.list [], D.bool false, D.list []], D.int 8])
                    (cond (fitL (List.length x700258s) (List.length [D.agg [D.str (cutL (D.toStr (List.getD v56 (Int.toNat v58) D.no)) none (some (D.toInt (List.getD ρ2 0 D.no)))), D.str (D.toStr (List.getD ρ8 0 D.no))]]))
                      (L17b v56 v57 (IntKind.wrap IntKind.i64 (v58 + 1)) v2c0 v2c1 v2c3 p4c0 p4c1 p4c3 x700130s (x700258s ++ [D.agg [D.str (cutL (D.toStr (List.getD v56 (Int.toNat v58) D.no)) none (some (D.toInt (List.getD ρ2 0 D.no)))), D.str (D.toStr (List.getD ρ8 0 D.no))]]))
                      (none)))
                (none))
              (none))
            (opt (RUN E 41 [D.str (D.toStr (List.getD v56 (Int.toNat v58) D.no))]) fun ρ6 =>
              cond (bif D.toBool (List.getD ρ6 1 D.no) then false else true)
                (some [D.agg [D.str [], D.str [], D.list [], D.bool false, D.list []], D.int 8])
                (cond (fitL (List.length x700258s) (List.length [D.agg [D.str [], D.str (D.toStr (List.getD ρ6 0 D.no))]]))
                  (L17b v56 v57 (IntKind.wrap IntKind.i64 (v58 + 1)) v2c0 v2c1 v2c3 p4c0 p4c1 p4c3 x700130s (x700258s ++ [D.agg [D.str [], D.str (D.toStr (List.getD ρ6 0 D.no))]]))
                  (none))))
        (none))
    (none))
  (opt (RUN E 42 [D.list x700258s]) fun ρ1 =>
    cond (bif decide (D.toInt (List.getD ρ1 0 D.no) = 0) then false else true)
      (some [D.agg [D.str [], D.str [], D.list [], D.bool false, D.list []], D.int (D.toInt (List.getD ρ1 0 D.no))])
      (some [D.agg [D.str p4c0, D.str p4c1, D.list x700258s, D.bool p4c3, D.list []], D.int 0])) := (LOOP_eq _ _ _ _ _ _).trans (by kernel_rfl)
/-! masthead/mastref1.SameParts -/
def h18a (a0 : List D) (b1 : List D) (v15 : Int) (v16 : Int) : St := mkSt 82 [(0, SV.val (KT.slice 33) (D.list a0)), (1, SV.val (KT.slice 33) (D.list b1)), (15, SV.val (KT.int IntKind.i64) (D.int v15)), (16, SV.val (KT.int IntKind.i64) (D.int v16))] []
noncomputable def L18a (a0 : List D) (b1 : List D) (v15 : Int) (v16 : Int) : R := LOOP E (RUN E) 18 Try.f18 [1, 1, 0, 1, 0] (h18a a0 b1 v15 v16)
def h18b (a0 : List D) (b1 : List D) (v15 : Int) (v16 : Int) (v65 : Int) (v66 : Int) (x6 : D) (y7 : D) : St := mkSt 82 [(0, SV.val (KT.slice 33) (D.list a0)), (1, SV.val (KT.slice 33) (D.list b1)), (6, SV.bptr 6 33 0 (KT.agg 33)), (7, SV.bptr 7 33 0 (KT.agg 33)), (15, SV.val (KT.int IntKind.i64) (D.int v15)), (16, SV.val (KT.int IntKind.i64) (D.int v16)), (65, SV.val (KT.int IntKind.i64) (D.int v65)), (66, SV.val (KT.int IntKind.i64) (D.int v66))] [(6, Obj.box 33 (BC.whole x6)), (7, Obj.box 33 (BC.whole y7))]
noncomputable def L18b (a0 : List D) (b1 : List D) (v15 : Int) (v16 : Int) (v65 : Int) (v66 : Int) (x6 : D) (y7 : D) : R := LOOP E (RUN E) 18 Try.f18 [1, 1, 0, 1, 0, 0, 1, 1, 0, 0, 1, 1, 1, 1, 0] (h18b a0 b1 v15 v16 v65 v66 x6 y7)
theorem enter18 (a0 : List D) (b1 : List D) : RUN E 18 [D.list a0, D.list b1] =
    cond (bif decide ((↑(List.length a0) : Int) = (↑(List.length b1) : Int)) then false else true)
  (some [D.bool false])
  (L18a a0 b1 ((↑(List.length a0) : Int)) 0) := (RUN_eq _ _ _).trans (by kernel_rfl)
theorem round18a (a0 : List D) (b1 : List D) (v15 : Int) (v16 : Int) : L18a a0 b1 v15 v16 =
    cond (decide (v16 < v15))
  (cond (inb v16 (List.length a0))
    (cond (inb v16 (List.length b1))
      (opt (cond (bif bif bif bif bif decide (D.toStr (D.cell (List.getD a0 (Int.toNat v16) D.no) 0) = D.toStr (D.cell (List.getD b1 (Int.toNat v16) D.no) 0)) then false else true then true else bif decide (D.toStr (D.cell (List.getD a0 (Int.toNat v16) D.no) 1) = D.toStr (D.cell (List.getD b1 (Int.toNat v16) D.no) 1)) then false else true then true else bif D.toBool (D.cell (List.getD a0 (Int.toNat v16) D.no) 3) == D.toBool (D.cell (List.getD b1 (Int.toNat v16) D.no) 3) then false else true then true else bif decide ((↑(List.length (D.toList (D.cell (List.getD a0 (Int.toNat v16) D.no) 2))) : Int) = (↑(List.length (D.toList (D.cell (List.getD b1 (Int.toNat v16) D.no) 2))) : Int)) then false else true then false else true)
          (RUN E 18 [D.list (D.toList (D.cell (List.getD a0 (Int.toNat v16) D.no) 4)), D.list (D.toList (D.cell (List.getD b1 (Int.toNat v16) D.no) 4))])
          (some [])) fun ρ3 =>
        cond (bif bif bif bif bif decide (D.toStr (D.cell (List.getD a0 (Int.toNat v16) D.no) 0) = D.toStr (D.cell (List.getD b1 (Int.toNat v16) D.no) 0)) then false else true then true else bif decide (D.toStr (D.cell (List.getD a0 (Int.toNat v16) D.no) 1) = D.toStr (D.cell (List.getD b1 (Int.toNat v16) D.no) 1)) then false else true then true else bif D.toBool (D.cell (List.getD a0 (Int.toNat v16) D.no) 3) == D.toBool (D.cell (List.getD b1 (Int.toNat v16) D.no) 3) then false else true then true else bif decide ((↑(List.length (D.toList (D.cell (List.getD a0 (Int.toNat v16) D.no) 2))) : Int) = (↑(List.length (D.toList (D.cell (List.getD b1 (Int.toNat v16) D.no) 2))) : Int)) then false else true then true else bif D.toBool (List.getD ρ3 0 D.no) then false else true)
          (some [D.bool false])
          (L18b a0 b1 v15 v16 ((↑(List.length (D.toList (D.cell (List.getD a0 (Int.toNat v16) D.no) 2))) : Int)) 0 (List.getD a0 (Int.toNat v16) D.no) (List.getD b1 (Int.toNat v16) D.no)))
      (none))
    (none))
  (some [D.bool true]) := (LOOP_eq _ _ _ _ _ _).trans (by kernel_rfl)
theorem round18b (a0 : List D) (b1 : List D) (v15 : Int) (v16 : Int) (v65 : Int) (v66 : Int) (x6 : D) (y7 : D) : L18b a0 b1 v15 v16 v65 v66 x6 y7 =
    cond (decide (v66 < v65))
  (cond (inb v66 (List.length (D.toList (D.cell x6 2))))
    (cond (inb v66 (List.length (D.toList (D.cell y7 2))))
      (cond (bif bif eqD KT.str (D.cell (List.getD (D.toList (D.cell x6 2)) (Int.toNat v66) D.no) 0) (D.cell (List.getD (D.toList (D.cell y7 2)) (Int.toNat v66) D.no) 0) then bif eqD KT.str (D.cell (List.getD (D.toList (D.cell x6 2)) (Int.toNat v66) D.no) 1) (D.cell (List.getD (D.toList (D.cell y7 2)) (Int.toNat v66) D.no) 1) then true else false else false then false else true)
        (some [D.bool false])
        (L18b a0 b1 v15 v16 v65 (IntKind.wrap IntKind.i64 (v66 + 1)) x6 y7))
      (none))
    (none))
  (L18a a0 b1 v15 (IntKind.wrap IntKind.i64 (v16 + 1))) := (LOOP_eq _ _ _ _ _ _).trans (by kernel_rfl)
/-! strings.HasPrefix -/
theorem enter32 (s0 : List UInt8) (prefix1 : List UInt8) : RUN E 32 [D.str s0, D.str prefix1] =
    opt (RUN E 52 [D.str s0, D.str prefix1]) fun ρ0 =>
  some [D.bool (D.toBool (List.getD ρ0 0 D.no))] := (RUN_eq _ _ _).trans (by kernel_rfl)
/-! (*masthead/page.reader).name -/
def h33a (k3 : Int) (r0c0 : List UInt8) (r0c1 : Bool) : St := mkSt 66 [(0, SV.bptr 0 59 0 (KT.agg 59)), (3, SV.val (KT.int IntKind.i64) (D.int k3))] [(0, Obj.box 59 (BC.cells [SV.val KT.str (D.str r0c0), SV.val KT.bool (D.bool r0c1)]))]
noncomputable def L33a (k3 : Int) (r0c0 : List UInt8) (r0c1 : Bool) : R := LOOP E (RUN E) 33 Try.f33 [1, 1, 0, 0] (h33a k3 r0c0 r0c1)
theorem enter33 (r0c0 : List UInt8) (r0c1 : Bool) : RUN E 33 [D.agg [D.str r0c0, D.bool r0c1]] =
    L33a 0 r0c0 r0c1 := (RUN_eq _ _ _).trans (by kernel_rfl)
theorem round33a (k3 : Int) (r0c0 : List UInt8) (r0c1 : Bool) : L33a k3 r0c0 r0c1 =
    cond (bif inb k3 (List.length r0c0) then true else bif bif decide (k3 < (↑(List.length r0c0) : Int)) then true else false then false else true)
  (opt (cond (bif decide (k3 < (↑(List.length r0c0) : Int)) then true else false)
      (RUN E 53 [D.int (↑(UInt8.toNat (List.getD r0c0 (Int.toNat k3) 0)) : Int)])
      (some [])) fun ρ1 =>
    cond (bif inb k3 (List.length r0c0) then true else bif bif bif D.toBool (List.getD ρ1 0 D.no) then false else true then bif decide (k3 < (↑(List.length r0c0) : Int)) then true else false else false then false else true)
      (opt (cond (bif bif D.toBool (List.getD ρ1 0 D.no) then false else true then bif decide (k3 < (↑(List.length r0c0) : Int)) then true else false else false)
          (RUN E 54 [D.int (↑(UInt8.toNat (List.getD r0c0 (Int.toNat k3) 0)) : Int)])
          (some [])) fun ρ3 =>
        cond (bif inb k3 (List.length r0c0) then true else bif bif bif bif D.toBool (List.getD ρ1 0 D.no) then true else D.toBool (List.getD ρ3 0 D.no) then false else true then bif decide (k3 < (↑(List.length r0c0) : Int)) then true else false else false then false else true)
          (cond (bif decide (k3 < (↑(List.length r0c0) : Int)) then bif bif D.toBool (List.getD ρ1 0 D.no) then true else D.toBool (List.getD ρ3 0 D.no) then true else decide ((↑(UInt8.toNat (List.getD r0c0 (Int.toNat k3) 0)) : Int) = 45) else false)
            (L33a (IntKind.wrap IntKind.i64 (k3 + 1)) r0c0 r0c1)
            (cond (cutOk (List.length r0c0) none (some k3))
              (cond (cutOk (List.length r0c0) (some k3) none)
                (cond (bif decide (k3 < 1) then true else decide (20 < k3))
                  (some [D.str (cutL r0c0 none (some k3)), D.agg [D.str (cutL r0c0 (some k3) none), D.bool true]])
                  (some [D.str (cutL r0c0 none (some k3)), D.agg [D.str (cutL r0c0 (some k3) none), D.bool r0c1]]))
                (none))
              (none)))
          (none))
      (none))
  (none) := (LOOP_eq _ _ _ _ _ _).trans (by kernel_rfl)
/-! (*masthead/page.reader).take -/
theorem enter34 (r0c0 : List UInt8) (r0c1 : Bool) (s1 : List UInt8) : RUN E 34 [D.agg [D.str r0c0, D.bool r0c1], D.str s1] =
    opt (RUN E 32 [D.str r0c0, D.str s1]) fun ρ0 =>
  cond (D.toBool (List.getD ρ0 0 D.no))
    (cond (cutOk (List.length r0c0) (some (↑(List.length s1) : Int)) none)
      (some [D.bool true, D.agg [D.str (cutL r0c0 (some (↑(List.length s1) : Int)) none), D.bool r0c1]])
      (none))
    (some [D.bool false, D.agg [D.str r0c0, D.bool r0c1]]) := (RUN_eq _ _ _).trans (by kernel_rfl)
/-! (*masthead/page.reader).arg -/
def h35a (r0c0 : List UInt8) (r0c1 : Bool) (v2c0 : List UInt8) (v2c1 : List UInt8) (a3 : D) : St := mkSt 152 [(0, SV.bptr 0 59 0 (KT.agg 59)), (2, SV.bptr 2 61 0 (KT.agg 61)), (3, SV.bptr 3 61 0 (KT.agg 61))] [(0, Obj.box 59 (BC.cells [SV.val KT.str (D.str r0c0), SV.val KT.bool (D.bool r0c1)])), (2, Obj.box 61 (BC.cells [SV.val KT.str (D.str v2c0), SV.val KT.str (D.str v2c1)])), (3, Obj.box 61 (BC.whole a3))]
noncomputable def C35a (r0c0 : List UInt8) (r0c1 : Bool) (v2c0 : List UInt8) (v2c1 : List UInt8) (a3 : D) : R := PART E (RUN E) 35 Try.f35 [1, 1, 1] (h35a r0c0 r0c1 v2c0 v2c1 a3)
def h35b (out4s : List D) (r0c0 : List UInt8) (r0c1 : Bool) (v2c0 : List UInt8) (v2c1 : List UInt8) (a3 : D) : St := mkSt 152 [(0, SV.bptr 0 59 0 (KT.agg 59)), (2, SV.bptr 2 61 0 (KT.agg 61)), (3, SV.bptr 3 61 0 (KT.agg 61)), (4, SV.own 4)] [(4, Obj.arr 5 out4s), (0, Obj.box 59 (BC.cells [SV.val KT.str (D.str r0c0), SV.val KT.bool (D.bool r0c1)])), (2, Obj.box 61 (BC.cells [SV.val KT.str (D.str v2c0), SV.val KT.str (D.str v2c1)])), (3, Obj.box 61 (BC.whole a3))]
noncomputable def L35b (out4s : List D) (r0c0 : List UInt8) (r0c1 : Bool) (v2c0 : List UInt8) (v2c1 : List UInt8) (a3 : D) : R := LOOP E (RUN E) 35 Try.f35 [1, 1, 1, 1, 0, 0] (h35b out4s r0c0 r0c1 v2c0 v2c1 a3)
theorem enter35 (r0c0 : List UInt8) (r0c1 : Bool) : RUN E 35 [D.agg [D.str r0c0, D.bool r0c1]] =
    opt (RUN E 34 [D.agg [D.str r0c0, D.bool r0c1], D.str (([34] : List UInt8))]) fun ρ0 =>
  cond (bif D.toBool (List.getD ρ0 0 D.no) then false else true)
    (opt (RUN E 55 [D.agg [D.str (D.toStr (D.cell (List.getD ρ0 1 D.no) 0)), D.bool (D.toBool (D.cell (List.getD ρ0 1 D.no) 1))]]) fun ρ2 =>
      opt (RUN E 34 [D.agg [D.str (D.toStr (D.cell (List.getD ρ2 1 D.no) 0)), D.bool (D.toBool (D.cell (List.getD ρ2 1 D.no) 1))], D.str (([61] : List UInt8))]) fun ρ3 =>
        cond (bif D.toBool (List.getD ρ3 0 D.no) then false else true)
          (cond (bif inb 0 (List.length (D.toStr (List.getD ρ2 0 D.no))) then true else bif bif bif D.toBool (D.cell (List.getD ρ3 1 D.no) 1) then true else decide (D.toStr (List.getD ρ2 0 D.no) = ([] : List UInt8)) then false else true then false else true)
            (some [D.agg [D.str [], D.str (D.toStr (List.getD ρ2 0 D.no))], D.agg [D.str (D.toStr (D.cell (List.getD ρ3 1 D.no) 0)), D.bool (bif bif D.toBool (D.cell (List.getD ρ3 1 D.no) 1) then true else decide (D.toStr (List.getD ρ2 0 D.no) = ([] : List UInt8)) then true else decide ((↑(UInt8.toNat (List.getD (D.toStr (List.getD ρ2 0 D.no)) 0 0)) : Int) = 58))]])
            (none))
          (opt (cond (bif D.toBool (D.cell (List.getD ρ3 1 D.no) 1) then false else true)
              (RUN E 56 [D.str (D.toStr (List.getD ρ2 0 D.no))])
              (some [])) fun ρ5 =>
            opt (RUN E 34 [D.agg [D.str (D.toStr (D.cell (List.getD ρ3 1 D.no) 0)), D.bool (bif D.toBool (D.cell (List.getD ρ3 1 D.no) 1) then true else !D.toBool (List.getD ρ5 0 D.no))], D.str (([34] : List UInt8))]) fun ρ6 =>
              cond (bif D.toBool (List.getD ρ6 0 D.no) then false else true)
                (opt (RUN E 55 [D.agg [D.str (D.toStr (D.cell (List.getD ρ6 1 D.no) 0)), D.bool (D.toBool (D.cell (List.getD ρ6 1 D.no) 1))]]) fun ρ8 =>
                  cond (bif inb 0 (List.length (D.toStr (List.getD ρ8 0 D.no))) then true else bif bif bif D.toBool (D.cell (List.getD ρ8 1 D.no) 1) then true else decide (D.toStr (List.getD ρ8 0 D.no) = ([] : List UInt8)) then false else true then false else true)
                    (some [D.agg [D.str (D.toStr (List.getD ρ2 0 D.no)), D.str (D.toStr (List.getD ρ8 0 D.no))], D.agg [D.str (D.toStr (D.cell (List.getD ρ8 1 D.no) 0)), D.bool (bif bif D.toBool (D.cell (List.getD ρ8 1 D.no) 1) then true else decide (D.toStr (List.getD ρ8 0 D.no) = ([] : List UInt8)) then true else decide ((↑(UInt8.toNat (List.getD (D.toStr (List.getD ρ8 0 D.no)) 0 0)) : Int) = 58))]])
                    (none))
                (C35a (D.toStr (D.cell (List.getD ρ6 1 D.no) 0)) (D.toBool (D.cell (List.getD ρ6 1 D.no) 1)) [] [] (D.agg (setField KT.str (TI.cells { kt := KT.str, cells := [KT.str], fields := [], bytes := 16 }) (List.map zeroD (TI.cells { kt := KT.agg 61, cells := [KT.str, KT.str], fields := [(0, 9), (1, 9)], bytes := 32 })) (Prod.fst (0, 9)) (D.str (D.toStr (List.getD ρ2 0 D.no))))))))
    (C35a (D.toStr (D.cell (List.getD ρ0 1 D.no) 0)) (D.toBool (D.cell (List.getD ρ0 1 D.no) 1)) [] [] (D.agg (List.map zeroD (TI.cells { kt := KT.agg 61, cells := [KT.str, KT.str], fields := [(0, 9), (1, 9)], bytes := 32 })))) := (RUN_eq _ _ _).trans (by kernel_rfl)
theorem round35a (r0c0 : List UInt8) (r0c1 : Bool) (v2c0 : List UInt8) (v2c1 : List UInt8) (a3 : D) : C35a r0c0 r0c1 v2c0 v2c1 a3 =
    L35b [] r0c0 r0c1 v2c0 v2c1 a3 := (PART_eq _ _ _ _ _ _).trans (by kernel_rfl)
theorem round35b (out4s : List D) (r0c0 : List UInt8) (r0c1 : Bool) (v2c0 : List UInt8) (v2c1 : List UInt8) (a3 : D) : L35b out4s r0c0 r0c1 v2c0 v2c1 a3 =
    cond (bif r0c1 then false else true)
  (cond (bif inb 0 (List.length r0c0) then true else bif bif decide (r0c0 = ([] : List UInt8)) then false else true then false else true)
    (cond (bif decide (r0c0 = ([] : List UInt8)) then true else decide ((↑(UInt8.toNat (List.getD r0c0 0 0)) : Int) < 32))
      (some [D.agg [D.str (D.toStr (D.cell a3 0)), D.str (dBytes out4s)], D.agg [D.str r0c0, D.bool true]])
      (cond (inb 0 (List.length r0c0))
        (cond (cutOk (List.length r0c0) (some 1) none)
          (cond (decide ((↑(UInt8.toNat (List.getD r0c0 0 0)) : Int) = 34))
            (some [D.agg [D.str (D.toStr (D.cell a3 0)), D.str (dBytes out4s)], D.agg [D.str (cutL r0c0 (some 1) none), D.bool r0c1]])
            (cond (decide ((↑(UInt8.toNat (List.getD r0c0 0 0)) : Int) = 92))
              (opt (RUN E 32 [D.str (cutL r0c0 (some 1) none), D.str (([34] : List UInt8))]) fun ρ7 =>
                opt (cond (bif bif D.toBool (List.getD ρ7 0 D.no) then false else true then true else false)
                    (RUN E 32 [D.str (cutL r0c0 (some 1) none), D.str (([92] : List UInt8))])
                    (some [])) fun ρ8 =>
                  cond (bif bif D.toBool (List.getD ρ7 0 D.no) then false else true then bif D.toBool (List.getD ρ8 0 D.no) then false else true else false)
                    (some [D.agg [D.str (D.toStr (D.cell a3 0)), D.str (dBytes out4s)], D.agg [D.str (cutL r0c0 (some 1) none), D.bool true]])
                    (cond (inb 0 (List.length (cutL r0c0 (some 1) none)))
                      (cond (cutOk (List.length (cutL r0c0 (some 1) none)) (some 1) none)
                        (cond (fitL (List.length out4s) (List.length [D.int (↑(UInt8.toNat (List.getD (cutL r0c0 (some 1) none) 0 0)) : Int)]))
                          (L35b (out4s ++ [D.int (↑(UInt8.toNat (List.getD (cutL r0c0 (some 1) none) 0 0)) : Int)]) (cutL (cutL r0c0 (some 1) none) (some 1) none) r0c1 v2c0 v2c1 a3)
                          (none))
                        (none))
                      (none)))
              (cond (fitL (List.length out4s) (List.length [D.int (↑(UInt8.toNat (List.getD r0c0 0 0)) : Int)]))
                (L35b (out4s ++ [D.int (↑(UInt8.toNat (List.getD r0c0 0 0)) : Int)]) (cutL r0c0 (some 1) none) r0c1 v2c0 v2c1 a3)
                (none))))
          (none))
        (none)))
    (none))
  (some [D.agg [D.str (D.toStr (D.cell a3 0)), D.str (dBytes out4s)], D.agg [D.str r0c0, D.bool r0c1]]) := (LOOP_eq _ _ _ _ _ _).trans (by kernel_rfl)
/-! masthead/page.argsFault -/
def h36a (l0 : List D) (v9 : List D) (v10 : Int) (v11 : Int) : St := mkSt 60 [(0, SV.val (KT.slice 61) (D.list l0)), (9, SV.val (KT.slice 61) (D.list v9)), (10, SV.val (KT.int IntKind.i64) (D.int v10)), (11, SV.val (KT.int IntKind.i64) (D.int v11))] []
noncomputable def L36a (l0 : List D) (v9 : List D) (v10 : Int) (v11 : Int) : R := LOOP E (RUN E) 36 Try.f36 [1, 0, 1, 0] (h36a l0 v9 v10 v11)
def h36b (l0 : List D) (v9 : List D) (v10 : Int) (v11 : Int) (v18 : List D) (v19 : Int) (v20 : Int) (a4 : D) : St := mkSt 60 [(0, SV.val (KT.slice 61) (D.list l0)), (4, SV.bptr 4 61 0 (KT.agg 61)), (9, SV.val (KT.slice 61) (D.list v9)), (10, SV.val (KT.int IntKind.i64) (D.int v10)), (11, SV.val (KT.int IntKind.i64) (D.int v11)), (18, SV.val (KT.slice 61) (D.list v18)), (19, SV.val (KT.int IntKind.i64) (D.int v19)), (20, SV.val (KT.int IntKind.i64) (D.int v20))] [(4, Obj.box 61 (BC.whole a4))]
noncomputable def L36b (l0 : List D) (v9 : List D) (v10 : Int) (v11 : Int) (v18 : List D) (v19 : Int) (v20 : Int) (a4 : D) : R := LOOP E (RUN E) 36 Try.f36 [1, 0, 1, 0, 0, 1, 1, 0, 0, 1, 1, 0] (h36b l0 v9 v10 v11 v18 v19 v20 a4)
def h36c (l0 : List D) (v36 : List D) (v37 : Int) (v38 : Int) : St := mkSt 60 [(0, SV.val (KT.slice 61) (D.list l0)), (36, SV.val (KT.slice 61) (D.list v36)), (37, SV.val (KT.int IntKind.i64) (D.int v37)), (38, SV.val (KT.int IntKind.i64) (D.int v38))] []
noncomputable def L36c (l0 : List D) (v36 : List D) (v37 : Int) (v38 : Int) : R := LOOP E (RUN E) 36 Try.f36 [1, 1, 0, 1, 0] (h36c l0 v36 v37 v38)
theorem enter36 (l0 : List D) : RUN E 36 [D.list l0] =
    L36a l0 l0 ((↑(List.length l0) : Int)) 0 := (RUN_eq _ _ _).trans (by kernel_rfl)
theorem round36a (l0 : List D) (v9 : List D) (v10 : Int) (v11 : Int) : L36a l0 v9 v10 v11 =
    cond (decide (v11 < v10))
  (cond (inb v11 (List.length v9))
    (cond (cutOk (List.length l0) none (some v11))
      (L36b l0 v9 v10 v11 (cutL l0 none (some v11)) ((↑(List.length (cutL l0 none (some v11))) : Int)) 0 (List.getD v9 (Int.toNat v11) D.no))
      (none))
    (none))
  (L36c l0 l0 ((↑(List.length l0) : Int)) 0) := (LOOP_eq _ _ _ _ _ _).trans (by kernel_rfl)
theorem round36b (l0 : List D) (v9 : List D) (v10 : Int) (v11 : Int) (v18 : List D) (v19 : Int) (v20 : Int) (a4 : D) : L36b l0 v9 v10 v11 v18 v19 v20 a4 =
    cond (decide (v20 < v19))
  (cond (inb v20 (List.length v18))
    (cond (bif bif decide (D.toStr (D.cell a4 0) = ([] : List UInt8)) then false else true then decide (D.toStr (D.cell a4 0) = D.toStr (D.cell (List.getD v18 (Int.toNat v20) D.no) 0)) else false)
      (some [D.int 6])
      (L36b l0 v9 v10 v11 v18 v19 (IntKind.wrap IntKind.i64 (v20 + 1)) a4))
    (none))
  (L36a l0 v9 v10 (IntKind.wrap IntKind.i64 (v11 + 1))) := (LOOP_eq _ _ _ _ _ _).trans (by kernel_rfl)
theorem round36c (l0 : List D) (v36 : List D) (v37 : Int) (v38 : Int) : L36c l0 v36 v37 v38 =
    cond (decide (v38 < v37))
  (cond (inb v38 (List.length v36))
    (cond (bif inb (IntKind.wrap IntKind.i64 (v38 - 1)) (List.length l0) then true else bif bif bif decide (0 < v38) then decide (D.toStr (D.cell (List.getD v36 (Int.toNat v38) D.no) 0) = ([] : List UInt8)) else false then true else false then false else true)
      (cond (bif bif decide (0 < v38) then decide (D.toStr (D.cell (List.getD v36 (Int.toNat v38) D.no) 0) = ([] : List UInt8)) else false then bif decide (D.toStr (D.cell (List.getD l0 (Int.toNat (IntKind.wrap IntKind.i64 (v38 - 1))) D.no) 0) = ([] : List UInt8)) then false else true else false)
        (some [D.int 5])
        (L36c l0 v36 v37 (IntKind.wrap IntKind.i64 (v38 + 1))))
      (none))
    (none))
  (some [D.int 0]) := (LOOP_eq _ _ _ _ _ _).trans (by kernel_rfl)
/-! strings.HasSuffix -/
theorem enter27 (s0 : List UInt8) (suffix1 : List UInt8) : RUN E 27 [D.str s0, D.str suffix1] =
    opt (RUN E 49 [D.str s0, D.str suffix1]) fun ρ0 =>
  some [D.bool (D.toBool (List.getD ρ0 0 D.no))] := (RUN_eq _ _ _).trans (by kernel_rfl)
/-! masthead/mastref1.words -/
def h37a (s0 : List UInt8) (from4 : Int) (quoted5 : Bool) (i6 : Int) (out3s : List D) : St := mkSt 54 [(0, SV.val KT.str (D.str s0)), (3, SV.own 3), (4, SV.val (KT.int IntKind.i64) (D.int from4)), (5, SV.val KT.bool (D.bool quoted5)), (6, SV.val (KT.int IntKind.i64) (D.int i6))] [(3, Obj.arr 9 out3s)]
noncomputable def L37a (s0 : List UInt8) (from4 : Int) (quoted5 : Bool) (i6 : Int) (out3s : List D) : R := LOOP E (RUN E) 37 Try.f37 [1, 1, 1, 0, 1, 0] (h37a s0 from4 quoted5 i6 out3s)
theorem enter37 (s0 : List UInt8) : RUN E 37 [D.str s0] =
    L37a s0 0 false 0 [] := (RUN_eq _ _ _).trans (by kernel_rfl)
theorem round37a (s0 : List UInt8) (from4 : Int) (quoted5 : Bool) (i6 : Int) (out3s : List D) : L37a s0 from4 quoted5 i6 out3s =
    cond (decide (i6 < (↑(List.length s0) : Int)))
  (cond (bif inb i6 (List.length s0) then true else bif bif quoted5 then true else false then false else true)
    (cond (bif quoted5 then decide ((↑(UInt8.toNat (List.getD s0 (Int.toNat i6) 0)) : Int) = 92) else false)
      (L37a s0 from4 quoted5 (IntKind.wrap IntKind.i64 (IntKind.wrap IntKind.i64 (i6 + 1) + 1)) out3s)
      (cond (inb i6 (List.length s0))
        (cond (decide ((↑(UInt8.toNat (List.getD s0 (Int.toNat i6) 0)) : Int) = 34))
          (L37a s0 from4 (!quoted5) (IntKind.wrap IntKind.i64 (i6 + 1)) out3s)
          (cond (inb i6 (List.length s0))
            (cond (bif decide ((↑(UInt8.toNat (List.getD s0 (Int.toNat i6) 0)) : Int) = 32) then bif quoted5 then false else true else false)
              (cond (cutOk (List.length s0) (some from4) (some i6))
                (cond (fitL (List.length out3s) (List.length [D.str (cutL s0 (some from4) (some i6))]))
                  (L37a s0 (IntKind.wrap IntKind.i64 (i6 + 1)) quoted5 (IntKind.wrap IntKind.i64 (i6 + 1)) (out3s ++ [D.str (cutL s0 (some from4) (some i6))]))
                  (none))
                (none))
              (L37a s0 from4 quoted5 (IntKind.wrap IntKind.i64 (i6 + 1)) out3s))
            (none)))
        (none)))
    (none))
  (cond (cutOk (List.length s0) (some from4) none)
    (cond (fitL (List.length out3s) (List.length [D.str (cutL s0 (some from4) none)]))
      (some [D.list (out3s ++ [D.str (cutL s0 (some from4) none)])])
      (none))
    (none)) := (LOOP_eq _ _ _ _ _ _).trans (by kernel_rfl)
/-! masthead/mastref1.codeName -/
def h38a (s0 : List UInt8) (i3 : Int) : St := mkSt 41 [(0, SV.val KT.str (D.str s0)), (3, SV.val (KT.int IntKind.i64) (D.int i3))] []
noncomputable def L38a (s0 : List UInt8) (i3 : Int) : R := LOOP E (RUN E) 38 Try.f38 [1, 1, 0, 1, 0] (h38a s0 i3)
theorem enter38 (s0 : List UInt8) : RUN E 38 [D.str s0] =
    cond (bif decide ((↑(List.length s0) : Int) < 1) then true else decide (20 < (↑(List.length s0) : Int)))
  (some [D.bool false])
  (L38a s0 0) := (RUN_eq _ _ _).trans (by kernel_rfl)
theorem round38a (s0 : List UInt8) (i3 : Int) : L38a s0 i3 =
    cond (decide (i3 < (↑(List.length s0) : Int)))
  (cond (inb i3 (List.length s0))
    (cond (bif inb i3 (List.length s0) then true else bif bif decide (97 ≤ (↑(UInt8.toNat (List.getD s0 (Int.toNat i3) 0)) : Int)) then true else false then false else true)
      (cond (bif inb i3 (List.length s0) then true else bif bif bif decide (97 ≤ (↑(UInt8.toNat (List.getD s0 (Int.toNat i3) 0)) : Int)) then decide ((↑(UInt8.toNat (List.getD s0 (Int.toNat i3) 0)) : Int) ≤ 122) else false then false else true then false else true)
        (opt (cond (bif bif decide (97 ≤ (↑(UInt8.toNat (List.getD s0 (Int.toNat i3) 0)) : Int)) then decide ((↑(UInt8.toNat (List.getD s0 (Int.toNat i3) 0)) : Int) ≤ 122) else false then false else true)
            (RUN E 25 [D.int (↑(UInt8.toNat (List.getD s0 (Int.toNat i3) 0)) : Int)])
            (some [])) fun ρ4 =>
          cond (bif inb i3 (List.length s0) then true else bif bif bif bif decide (97 ≤ (↑(UInt8.toNat (List.getD s0 (Int.toNat i3) 0)) : Int)) then decide ((↑(UInt8.toNat (List.getD s0 (Int.toNat i3) 0)) : Int) ≤ 122) else false then true else D.toBool (List.getD ρ4 0 D.no) then false else true then false else true)
            (cond (bif bif bif bif decide (97 ≤ (↑(UInt8.toNat (List.getD s0 (Int.toNat i3) 0)) : Int)) then decide ((↑(UInt8.toNat (List.getD s0 (Int.toNat i3) 0)) : Int) ≤ 122) else false then true else D.toBool (List.getD ρ4 0 D.no) then true else decide ((↑(UInt8.toNat (List.getD s0 (Int.toNat i3) 0)) : Int) = 45) then false else true)
              (some [D.bool false])
              (L38a s0 (IntKind.wrap IntKind.i64 (i3 + 1))))
            (none))
        (none))
      (none))
    (none))
  (some [D.bool true]) := (LOOP_eq _ _ _ _ _ _).trans (by kernel_rfl)
/-! masthead/mastref1.argName -/
def h40a (s0 : List UInt8) (i3 : Int) : St := mkSt 33 [(0, SV.val KT.str (D.str s0)), (3, SV.val (KT.int IntKind.i64) (D.int i3))] []
noncomputable def L40a (s0 : List UInt8) (i3 : Int) : R := LOOP E (RUN E) 40 Try.f40 [1, 1, 0, 1, 0] (h40a s0 i3)
theorem enter40 (s0 : List UInt8) : RUN E 40 [D.str s0] =
    cond (bif inb 0 (List.length s0) then true else bif bif bif decide ((↑(List.length s0) : Int) < 1) then true else decide (20 < (↑(List.length s0) : Int)) then false else true then false else true)
  (cond (bif inb 0 (List.length s0) then true else bif bif bif bif decide ((↑(List.length s0) : Int) < 1) then true else decide (20 < (↑(List.length s0) : Int)) then true else decide ((↑(UInt8.toNat (List.getD s0 0 0)) : Int) < 97) then false else true then false else true)
    (cond (bif bif bif decide ((↑(List.length s0) : Int) < 1) then true else decide (20 < (↑(List.length s0) : Int)) then true else decide ((↑(UInt8.toNat (List.getD s0 0 0)) : Int) < 97) then true else decide (122 < (↑(UInt8.toNat (List.getD s0 0 0)) : Int)))
      (some [D.bool false])
      (L40a s0 0))
    (none))
  (none) := (RUN_eq _ _ _).trans (by kernel_rfl)
theorem round40a (s0 : List UInt8) (i3 : Int) : L40a s0 i3 =
    cond (decide (i3 < (↑(List.length s0) : Int)))
  (cond (inb i3 (List.length s0))
    (opt (RUN E 58 [D.int (↑(UInt8.toNat (List.getD s0 (Int.toNat i3) 0)) : Int)]) fun ρ2 =>
      cond (bif D.toBool (List.getD ρ2 0 D.no) then false else true)
        (some [D.bool false])
        (L40a s0 (IntKind.wrap IntKind.i64 (i3 + 1))))
    (none))
  (some [D.bool true]) := (LOOP_eq _ _ _ _ _ _).trans (by kernel_rfl)
/-! masthead/mastref1.valueOf -/
def h41a (s0 : List UInt8) (out4 : List UInt8) (i5 : Int) : St := mkSt 75 [(0, SV.val KT.str (D.str s0)), (4, SV.val KT.str (D.str out4)), (5, SV.val (KT.int IntKind.i64) (D.int i5))] []
noncomputable def L41a (s0 : List UInt8) (out4 : List UInt8) (i5 : Int) : R := LOOP E (RUN E) 41 Try.f41 [1, 1, 1, 1, 0, 1, 0] (h41a s0 out4 i5)
theorem enter41 (s0 : List UInt8) : RUN E 41 [D.str s0] =
    opt (RUN E 59 [D.str s0]) fun ρ0 =>
  cond (D.toBool (List.getD ρ0 0 D.no))
    (some [D.str s0, D.bool true])
    (cond (bif inb 0 (List.length s0) then true else bif bif decide ((↑(List.length s0) : Int) < 2) then false else true then false else true)
      (cond (bif inb (IntKind.wrap IntKind.i64 ((↑(List.length s0) : Int) - 1)) (List.length s0) then true else bif bif bif decide ((↑(List.length s0) : Int) < 2) then true else bif decide ((↑(UInt8.toNat (List.getD s0 0 0)) : Int) = 34) then false else true then false else true then false else true)
        (cond (bif bif decide ((↑(List.length s0) : Int) < 2) then true else bif decide ((↑(UInt8.toNat (List.getD s0 0 0)) : Int) = 34) then false else true then true else bif decide ((↑(UInt8.toNat (List.getD s0 (Int.toNat (IntKind.wrap IntKind.i64 ((↑(List.length s0) : Int) - 1))) 0)) : Int) = 34) then false else true)
          (some [D.str (([] : List UInt8)), D.bool false])
          (L41a s0 (([] : List UInt8)) 1))
        (none))
      (none)) := (RUN_eq _ _ _).trans (by kernel_rfl)
theorem round41a (s0 : List UInt8) (out4 : List UInt8) (i5 : Int) : L41a s0 out4 i5 =
    cond (decide (i5 < IntKind.wrap IntKind.i64 ((↑(List.length s0) : Int) - 1)))
  (cond (inb i5 (List.length s0))
    (cond (bif inb i5 (List.length s0) then true else bif bif decide ((↑(UInt8.toNat (List.getD s0 (Int.toNat i5) 0)) : Int) < 32) then false else true then false else true)
      (cond (bif decide ((↑(UInt8.toNat (List.getD s0 (Int.toNat i5) 0)) : Int) < 32) then true else decide ((↑(UInt8.toNat (List.getD s0 (Int.toNat i5) 0)) : Int) = 34))
        (some [D.str (([] : List UInt8)), D.bool false])
        (cond (inb i5 (List.length s0))
          (cond (decide ((↑(UInt8.toNat (List.getD s0 (Int.toNat i5) 0)) : Int) = 92))
            (cond (bif inb (IntKind.wrap IntKind.i64 (i5 + 1)) (List.length s0) then true else bif bif decide (IntKind.wrap IntKind.i64 ((↑(List.length s0) : Int) - 1) ≤ IntKind.wrap IntKind.i64 (i5 + 1)) then false else true then false else true)
              (cond (bif inb (IntKind.wrap IntKind.i64 (i5 + 1)) (List.length s0) then true else bif bif bif bif decide ((↑(UInt8.toNat (List.getD s0 (Int.toNat (IntKind.wrap IntKind.i64 (i5 + 1))) 0)) : Int) = 34) then false else true then true else false then bif decide (IntKind.wrap IntKind.i64 ((↑(List.length s0) : Int) - 1) ≤ IntKind.wrap IntKind.i64 (i5 + 1)) then false else true else false then false else true)
                (cond (bif decide (IntKind.wrap IntKind.i64 ((↑(List.length s0) : Int) - 1) ≤ IntKind.wrap IntKind.i64 (i5 + 1)) then true else bif bif decide ((↑(UInt8.toNat (List.getD s0 (Int.toNat (IntKind.wrap IntKind.i64 (i5 + 1))) 0)) : Int) = 34) then false else true then bif decide ((↑(UInt8.toNat (List.getD s0 (Int.toNat (IntKind.wrap IntKind.i64 (i5 + 1))) 0)) : Int) = 92) then false else true else false)
                  (some [D.str (([] : List UInt8)), D.bool false])
                  (cond (cutOk (List.length s0) (some (IntKind.wrap IntKind.i64 (i5 + 1))) (some (IntKind.wrap IntKind.i64 (IntKind.wrap IntKind.i64 (i5 + 1) + 1))))
                    (cond (decide (List.length out4 + List.length (cutL s0 (some (IntKind.wrap IntKind.i64 (i5 + 1))) (some (IntKind.wrap IntKind.i64 (IntKind.wrap IntKind.i64 (i5 + 1) + 1)))) ≤ lim))
                      (L41a s0 (out4 ++ cutL s0 (some (IntKind.wrap IntKind.i64 (i5 + 1))) (some (IntKind.wrap IntKind.i64 (IntKind.wrap IntKind.i64 (i5 + 1) + 1)))) (IntKind.wrap IntKind.i64 (IntKind.wrap IntKind.i64 (i5 + 1) + 1)))
                      (none))
                    (none)))
                (none))
              (none))
            (cond (cutOk (List.length s0) (some i5) (some (IntKind.wrap IntKind.i64 (i5 + 1))))
              (cond (decide (List.length out4 + List.length (cutL s0 (some i5) (some (IntKind.wrap IntKind.i64 (i5 + 1)))) ≤ lim))
                (L41a s0 (out4 ++ cutL s0 (some i5) (some (IntKind.wrap IntKind.i64 (i5 + 1)))) (IntKind.wrap IntKind.i64 (i5 + 1)))
                (none))
              (none)))
          (none)))
      (none))
    (none))
  (some [D.str out4, D.bool true]) := (LOOP_eq _ _ _ _ _ _).trans (by kernel_rfl)
/-! masthead/mastref1.argsError -/
def h42a (l0 : List D) (v12 : List D) (v13 : Int) (v14 : Int) : St := mkSt 63 [(0, SV.val (KT.slice 61) (D.list l0)), (12, SV.val (KT.slice 61) (D.list v12)), (13, SV.val (KT.int IntKind.i64) (D.int v13)), (14, SV.val (KT.int IntKind.i64) (D.int v14))] []
noncomputable def L42a (l0 : List D) (v12 : List D) (v13 : Int) (v14 : Int) : R := LOOP E (RUN E) 42 Try.f42 [1, 1, 0, 1, 0] (h42a l0 v12 v13 v14)
def h42b (l0 : List D) (v12 : List D) (v13 : Int) (v14 : Int) (v21 : List D) (v22 : Int) (v23 : Int) (a4 : D) : St := mkSt 63 [(0, SV.val (KT.slice 61) (D.list l0)), (4, SV.bptr 4 61 0 (KT.agg 61)), (12, SV.val (KT.slice 61) (D.list v12)), (13, SV.val (KT.int IntKind.i64) (D.int v13)), (14, SV.val (KT.int IntKind.i64) (D.int v14)), (21, SV.val (KT.slice 61) (D.list v21)), (22, SV.val (KT.int IntKind.i64) (D.int v22)), (23, SV.val (KT.int IntKind.i64) (D.int v23))] [(4, Obj.box 61 (BC.whole a4))]
noncomputable def L42b (l0 : List D) (v12 : List D) (v13 : Int) (v14 : Int) (v21 : List D) (v22 : Int) (v23 : Int) (a4 : D) : R := LOOP E (RUN E) 42 Try.f42 [1, 1, 0, 1, 0, 0, 1, 1, 0, 0, 1, 1, 0] (h42b l0 v12 v13 v14 v21 v22 v23 a4)
def h42c (l0 : List D) (v39 : List D) (v40 : Int) (v41 : Int) : St := mkSt 63 [(0, SV.val (KT.slice 61) (D.list l0)), (39, SV.val (KT.slice 61) (D.list v39)), (40, SV.val (KT.int IntKind.i64) (D.int v40)), (41, SV.val (KT.int IntKind.i64) (D.int v41))] []
noncomputable def L42c (l0 : List D) (v39 : List D) (v40 : Int) (v41 : Int) : R := LOOP E (RUN E) 42 Try.f42 [1, 1, 1, 0, 1, 0] (h42c l0 v39 v40 v41)
theorem enter42 (l0 : List D) : RUN E 42 [D.list l0] =
    cond (decide (12 < (↑(List.length l0) : Int)))
  (some [D.int 4])
  (L42a l0 l0 ((↑(List.length l0) : Int)) 0) := (RUN_eq _ _ _).trans (by kernel_rfl)
theorem round42a (l0 : List D) (v12 : List D) (v13 : Int) (v14 : Int) : L42a l0 v12 v13 v14 =
    cond (decide (v14 < v13))
  (cond (inb v14 (List.length v12))
    (cond (cutOk (List.length l0) none (some v14))
      (L42b l0 v12 v13 v14 (cutL l0 none (some v14)) ((↑(List.length (cutL l0 none (some v14))) : Int)) 0 (List.getD v12 (Int.toNat v14) D.no))
      (none))
    (none))
  (L42c l0 l0 ((↑(List.length l0) : Int)) 0) := (LOOP_eq _ _ _ _ _ _).trans (by kernel_rfl)
theorem round42b (l0 : List D) (v12 : List D) (v13 : Int) (v14 : Int) (v21 : List D) (v22 : Int) (v23 : Int) (a4 : D) : L42b l0 v12 v13 v14 v21 v22 v23 a4 =
    cond (decide (v23 < v22))
  (cond (inb v23 (List.length v21))
    (cond (bif bif decide (D.toStr (D.cell a4 0) = ([] : List UInt8)) then false else true then decide (D.toStr (D.cell a4 0) = D.toStr (D.cell (List.getD v21 (Int.toNat v23) D.no) 0)) else false)
      (some [D.int 6])
      (L42b l0 v12 v13 v14 v21 v22 (IntKind.wrap IntKind.i64 (v23 + 1)) a4))
    (none))
  (L42a l0 v12 v13 (IntKind.wrap IntKind.i64 (v14 + 1))) := (LOOP_eq _ _ _ _ _ _).trans (by kernel_rfl)
theorem round42c (l0 : List D) (v39 : List D) (v40 : Int) (v41 : Int) : L42c l0 v39 v40 v41 =
    cond (decide (v41 < v40))
  (cond (inb v41 (List.length v39))
    (cond (bif inb (IntKind.wrap IntKind.i64 (v41 - 1)) (List.length l0) then true else bif bif bif decide (0 < v41) then decide (D.toStr (D.cell (List.getD v39 (Int.toNat v41) D.no) 0) = ([] : List UInt8)) else false then true else false then false else true)
      (cond (bif bif decide (0 < v41) then decide (D.toStr (D.cell (List.getD v39 (Int.toNat v41) D.no) 0) = ([] : List UInt8)) else false then bif decide (D.toStr (D.cell (List.getD l0 (Int.toNat (IntKind.wrap IntKind.i64 (v41 - 1))) D.no) 0) = ([] : List UInt8)) then false else true else false)
        (some [D.int 5])
        (L42c l0 v39 v40 (IntKind.wrap IntKind.i64 (v41 + 1))))
      (none))
    (none))
  (some [D.int 0]) := (LOOP_eq _ _ _ _ _ _).trans (by kernel_rfl)
/-! internal/stringslite.HasPrefix -/
theorem enter52 (s0 : List UInt8) (prefix1 : List UInt8) : RUN E 52 [D.str s0, D.str prefix1] =
    cond (bif cutOk (List.length s0) none (some (↑(List.length prefix1) : Int)) then true else bif bif decide ((↑(List.length prefix1) : Int) ≤ (↑(List.length s0) : Int)) then true else false then false else true)
  (some [D.bool (bif decide ((↑(List.length prefix1) : Int) ≤ (↑(List.length s0) : Int)) then decide (cutL s0 none (some (↑(List.length prefix1) : Int)) = prefix1) else false)])
  (none) := (RUN_eq _ _ _).trans (by kernel_rfl)
/-! masthead/page.isSmall -/
theorem enter53 (c0 : Int) : RUN E 53 [D.int c0] =
    some [D.bool (bif decide (97 ≤ c0) then decide (c0 ≤ 122) else false)] := (RUN_eq _ _ _).trans (by kernel_rfl)
/-! masthead/page.isDigit -/
theorem enter54 (c0 : Int) : RUN E 54 [D.int c0] =
    some [D.bool (bif decide (48 ≤ c0) then decide (c0 ≤ 57) else false)] := (RUN_eq _ _ _).trans (by kernel_rfl)
/-! (*masthead/page.reader).plain -/
def h55a (k3 : Int) (r0c0 : List UInt8) (r0c1 : Bool) : St := mkSt 39 [(0, SV.bptr 0 59 0 (KT.agg 59)), (3, SV.val (KT.int IntKind.i64) (D.int k3))] [(0, Obj.box 59 (BC.cells [SV.val KT.str (D.str r0c0), SV.val KT.bool (D.bool r0c1)]))]
noncomputable def L55a (k3 : Int) (r0c0 : List UInt8) (r0c1 : Bool) : R := LOOP E (RUN E) 55 Try.f55 [1, 1, 0, 0] (h55a k3 r0c0 r0c1)
theorem enter55 (r0c0 : List UInt8) (r0c1 : Bool) : RUN E 55 [D.agg [D.str r0c0, D.bool r0c1]] =
    L55a 0 r0c0 r0c1 := (RUN_eq _ _ _).trans (by kernel_rfl)
theorem round55a (k3 : Int) (r0c0 : List UInt8) (r0c1 : Bool) : L55a k3 r0c0 r0c1 =
    cond (bif inb k3 (List.length r0c0) then true else bif bif decide (k3 < (↑(List.length r0c0) : Int)) then true else false then false else true)
  (opt (cond (bif decide (k3 < (↑(List.length r0c0) : Int)) then true else false)
      (RUN E 67 [D.int (↑(UInt8.toNat (List.getD r0c0 (Int.toNat k3) 0)) : Int)])
      (some [])) fun ρ1 =>
    cond (bif decide (k3 < (↑(List.length r0c0) : Int)) then D.toBool (List.getD ρ1 0 D.no) else false)
      (L55a (IntKind.wrap IntKind.i64 (k3 + 1)) r0c0 r0c1)
      (cond (cutOk (List.length r0c0) none (some k3))
        (cond (cutOk (List.length r0c0) (some k3) none)
          (some [D.str (cutL r0c0 none (some k3)), D.agg [D.str (cutL r0c0 (some k3) none), D.bool r0c1]])
          (none))
        (none)))
  (none) := (LOOP_eq _ _ _ _ _ _).trans (by kernel_rfl)
/-! masthead/page.isArg -/
def h56a (s0 : List UInt8) (i3 : Int) : St := mkSt 41 [(0, SV.val KT.str (D.str s0)), (3, SV.val (KT.int IntKind.i64) (D.int i3))] []
noncomputable def L56a (s0 : List UInt8) (i3 : Int) : R := LOOP E (RUN E) 56 Try.f56 [1, 1, 0, 1, 0] (h56a s0 i3)
theorem enter56 (s0 : List UInt8) : RUN E 56 [D.str s0] =
    cond (bif inb 0 (List.length s0) then true else bif bif bif decide (s0 = ([] : List UInt8)) then true else decide (20 < (↑(List.length s0) : Int)) then false else true then false else true)
  (opt (cond (bif bif decide (s0 = ([] : List UInt8)) then true else decide (20 < (↑(List.length s0) : Int)) then false else true)
      (RUN E 53 [D.int (↑(UInt8.toNat (List.getD s0 0 0)) : Int)])
      (some [])) fun ρ1 =>
    cond (bif bif decide (s0 = ([] : List UInt8)) then true else decide (20 < (↑(List.length s0) : Int)) then true else bif D.toBool (List.getD ρ1 0 D.no) then false else true)
      (some [D.bool false])
      (L56a s0 1))
  (none) := (RUN_eq _ _ _).trans (by kernel_rfl)
theorem round56a (s0 : List UInt8) (i3 : Int) : L56a s0 i3 =
    cond (decide (i3 < (↑(List.length s0) : Int)))
  (cond (inb i3 (List.length s0))
    (opt (RUN E 53 [D.int (↑(UInt8.toNat (List.getD s0 (Int.toNat i3) 0)) : Int)]) fun ρ2 =>
      cond (bif inb i3 (List.length s0) then true else bif bif bif D.toBool (List.getD ρ2 0 D.no) then false else true then true else false then false else true)
        (opt (cond (bif bif D.toBool (List.getD ρ2 0 D.no) then false else true then true else false)
            (RUN E 54 [D.int (↑(UInt8.toNat (List.getD s0 (Int.toNat i3) 0)) : Int)])
            (some [])) fun ρ4 =>
          cond (bif inb i3 (List.length s0) then true else bif bif bif bif D.toBool (List.getD ρ2 0 D.no) then false else true then bif D.toBool (List.getD ρ4 0 D.no) then false else true else false then true else false then false else true)
            (cond (bif bif bif D.toBool (List.getD ρ2 0 D.no) then false else true then bif D.toBool (List.getD ρ4 0 D.no) then false else true else false then bif decide ((↑(UInt8.toNat (List.getD s0 (Int.toNat i3) 0)) : Int) = 95) then false else true else false)
              (some [D.bool false])
              (L56a s0 (IntKind.wrap IntKind.i64 (i3 + 1))))
            (none))
        (none))
    (none))
  (some [D.bool true]) := (LOOP_eq _ _ _ _ _ _).trans (by kernel_rfl)
/-! internal/stringslite.HasSuffix -/
theorem enter49 (s0 : List UInt8) (suffix1 : List UInt8) : RUN E 49 [D.str s0, D.str suffix1] =
    cond (bif cutOk (List.length s0) (some (IntKind.wrap IntKind.i64 ((↑(List.length s0) : Int) - (↑(List.length suffix1) : Int)))) none then true else bif bif decide ((↑(List.length suffix1) : Int) ≤ (↑(List.length s0) : Int)) then true else false then false else true)
  (some [D.bool (bif decide ((↑(List.length suffix1) : Int) ≤ (↑(List.length s0) : Int)) then decide (cutL s0 (some (IntKind.wrap IntKind.i64 ((↑(List.length s0) : Int) - (↑(List.length suffix1) : Int)))) none = suffix1) else false)])
  (none) := (RUN_eq _ _ _).trans (by kernel_rfl)
/-! masthead/mastref1.isDigit -/
theorem enter25 (c0 : Int) : RUN E 25 [D.int c0] =
    some [D.bool (bif decide (48 ≤ c0) then decide (c0 ≤ 57) else false)] := (RUN_eq _ _ _).trans (by kernel_rfl)
/-! masthead/mastref1.wordByte -/
theorem enter58 (c0 : Int) : RUN E 58 [D.int c0] =
    opt (cond (bif bif decide (97 ≤ c0) then decide (c0 ≤ 122) else false then false else true)
    (RUN E 25 [D.int c0])
    (some [])) fun ρ0 =>
  some [D.bool (bif bif bif decide (97 ≤ c0) then decide (c0 ≤ 122) else false then true else D.toBool (List.getD ρ0 0 D.no) then true else decide (c0 = 95))] := (RUN_eq _ _ _).trans (by kernel_rfl)
/-! masthead/mastref1.bare -/
def h59a (s0 : List UInt8) (i3 : Int) : St := mkSt 27 [(0, SV.val KT.str (D.str s0)), (3, SV.val (KT.int IntKind.i64) (D.int i3))] []
noncomputable def L59a (s0 : List UInt8) (i3 : Int) : R := LOOP E (RUN E) 59 Try.f59 [1, 0, 1, 0] (h59a s0 i3)
theorem enter59 (s0 : List UInt8) : RUN E 59 [D.str s0] =
    L59a s0 0 := (RUN_eq _ _ _).trans (by kernel_rfl)
theorem round59a (s0 : List UInt8) (i3 : Int) : L59a s0 i3 =
    cond (decide (i3 < (↑(List.length s0) : Int)))
  (cond (inb i3 (List.length s0))
    (opt (RUN E 69 [D.int (↑(UInt8.toNat (List.getD s0 (Int.toNat i3) 0)) : Int)]) fun ρ2 =>
      cond (bif inb i3 (List.length s0) then true else bif bif bif decide (i3 = 0) then true else false then bif bif D.toBool (List.getD ρ2 0 D.no) then false else true then false else true else false then false else true)
        (cond (bif bif D.toBool (List.getD ρ2 0 D.no) then false else true then true else bif decide (i3 = 0) then decide ((↑(UInt8.toNat (List.getD s0 (Int.toNat i3) 0)) : Int) = 58) else false)
          (some [D.bool false])
          (L59a s0 (IntKind.wrap IntKind.i64 (i3 + 1))))
        (none))
    (none))
  (some [D.bool !decide (s0 = ([] : List UInt8))]) := (LOOP_eq _ _ _ _ _ _).trans (by kernel_rfl)
/-! masthead/page.isPlain -/
theorem enter67 (c0 : Int) : RUN E 67 [D.int c0] =
    opt (RUN E 53 [D.int c0]) fun ρ0 =>
  opt (cond (bif bif D.toBool (List.getD ρ0 0 D.no) then true else bif decide (65 ≤ c0) then decide (c0 ≤ 90) else false then false else true)
      (RUN E 54 [D.int c0])
      (some [])) fun ρ1 =>
    opt (cond (bif bif bif D.toBool (List.getD ρ0 0 D.no) then true else bif decide (65 ≤ c0) then decide (c0 ≤ 90) else false then true else D.toBool (List.getD ρ1 0 D.no) then false else true)
        (RUN E 39 [D.str (([45, 95, 46, 47, 58] : List UInt8)), D.int c0])
        (some [])) fun ρ2 =>
      some [D.bool (bif bif bif D.toBool (List.getD ρ0 0 D.no) then true else bif decide (65 ≤ c0) then decide (c0 ≤ 90) else false then true else D.toBool (List.getD ρ1 0 D.no) then true else decide (0 ≤ D.toInt (List.getD ρ2 0 D.no)))] := (RUN_eq _ _ _).trans (by kernel_rfl)
/-! masthead/mastref1.bareByte -/
theorem enter69 (c0 : Int) : RUN E 69 [D.int c0] =
    opt (RUN E 24 [D.int c0]) fun ρ0 =>
  opt (cond (bif D.toBool (List.getD ρ0 0 D.no) then false else true)
      (RUN E 25 [D.int c0])
      (some [])) fun ρ1 =>
    some [D.bool (bif bif bif bif bif bif D.toBool (List.getD ρ0 0 D.no) then true else D.toBool (List.getD ρ1 0 D.no) then true else decide (c0 = 45) then true else decide (c0 = 95) then true else decide (c0 = 46) then true else decide (c0 = 47) then true else decide (c0 = 58))] := (RUN_eq _ _ _).trans (by kernel_rfl)
/-! masthead/mastref1.isLetter -/
theorem enter24 (c0 : Int) : RUN E 24 [D.int c0] =
    some [D.bool (bif bif decide (97 ≤ c0) then decide (c0 ≤ 122) else false then true else bif decide (65 ≤ c0) then decide (c0 ≤ 90) else false)] := (RUN_eq _ _ _).trans (by kernel_rfl)
end Go.Proofs.Ytbinmfenhbpdnaa.pl
