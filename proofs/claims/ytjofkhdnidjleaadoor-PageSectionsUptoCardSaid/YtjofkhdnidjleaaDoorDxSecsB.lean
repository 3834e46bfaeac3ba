import Derived.Test.YtjofkhdnidjleaaDoorDxSecsA
set_option linter.unusedVariables false
set_option linter.unusedSimpArgs false
namespace Go.Proofs.YtjofkhdnidjleaaDoor.ps
open Go.Proofs.YtjofkhdnidjleaaDoor.DS

/-! masthead/mastlaw1.PageSections -/
def h6a (id1 : List UInt8) (s5 : List UInt8) (ok6 : Bool) (from7 : List UInt8) (to8 : List UInt8) (level9 : Int) (v23 : List D) (v24 : Int) (v25 : Int) (c2 : D) : St := mkSt 113 [(1, SV.val KT.str (D.str id1)), (2, SV.bptr 2 37 0 (KT.agg 37)), (5, SV.val KT.str (D.str s5)), (6, SV.val KT.bool (D.bool ok6)), (7, SV.val KT.str (D.str from7)), (8, SV.val KT.str (D.str to8)), (9, SV.val (KT.int IntKind.i64) (D.int level9)), (23, SV.val (KT.slice 41) (D.list v23)), (24, SV.val (KT.int IntKind.i64) (D.int v24)), (25, SV.val (KT.int IntKind.i64) (D.int v25))] [(2, Obj.box 37 (BC.whole c2))]
noncomputable def L6a (id1 : List UInt8) (s5 : List UInt8) (ok6 : Bool) (from7 : List UInt8) (to8 : List UInt8) (level9 : Int) (v23 : List D) (v24 : Int) (v25 : Int) (c2 : D) : R := LOOP E (RUN E) 6 Tryd.f6 [1, 1, 1, 1, 0, 1, 0] (h6a id1 s5 ok6 from7 to8 level9 v23 v24 v25 c2)
theorem enter6 (c0 : D) (id1 : List UInt8) : RUN E 6 [c0, D.str id1] =
    opt (RUN E 17 [c0, D.str id1]) fun ρ0 =>
  L6a id1 (D.toStr (List.getD ρ0 0 D.no)) (D.toBool (List.getD ρ0 1 D.no)) (Array.toList (ByteArray.data { data := #[] })) (Array.toList (ByteArray.data { data := #[] })) 0 (D.toList (D.cell c0 3)) ((↑(List.length (D.toList (D.cell c0 3))) : Int)) 0 c0 := (RUN_eq _ _ _).trans (by kernel_rfl)
theorem round6a (id1 : List UInt8) (s5 : List UInt8) (ok6 : Bool) (from7 : List UInt8) (to8 : List UInt8) (level9 : Int) (v23 : List D) (v24 : Int) (v25 : Int) (c2 : D) : L6a id1 s5 ok6 from7 to8 level9 v23 v24 v25 c2 =
    cond (decide (v25 < v24))
  (cond (inb v25 (List.length v23))
    (opt (RUN E 18 [D.int (D.toInt (D.cell (List.getD v23 (Int.toNat v25) D.no) 0))]) fun ρ2 =>
      cond (decide (List.length (Array.toList (ByteArray.data { data := #[60, 104] })) + List.length (D.toStr (List.getD ρ2 0 D.no)) ≤ lim))
        (cond (decide (List.length (Array.toList (ByteArray.data { data := #[60, 104] }) ++ D.toStr (List.getD ρ2 0 D.no)) + List.length (Array.toList (ByteArray.data { data := #[32, 105, 100, 61, 34] })) ≤ lim))
          (cond (decide (List.length (Array.toList (ByteArray.data { data := #[60, 104] }) ++ D.toStr (List.getD ρ2 0 D.no) ++ Array.toList (ByteArray.data { data := #[32, 105, 100, 61, 34] })) + List.length (D.toStr (D.cell (List.getD v23 (Int.toNat v25) D.no) 1)) ≤ lim))
            (cond (decide (List.length (Array.toList (ByteArray.data { data := #[60, 104] }) ++ D.toStr (List.getD ρ2 0 D.no) ++ Array.toList (ByteArray.data { data := #[32, 105, 100, 61, 34] }) ++ D.toStr (D.cell (List.getD v23 (Int.toNat v25) D.no) 1)) + List.length (Array.toList (ByteArray.data { data := #[34, 62] })) ≤ lim))
              (cond (bif decide (from7 = Array.toList (ByteArray.data { data := #[] })) then decide (D.toStr (D.cell (List.getD v23 (Int.toNat v25) D.no) 1) = id1) else false)
                (L6a id1 s5 ok6 (Array.toList (ByteArray.data { data := #[60, 104] }) ++ D.toStr (List.getD ρ2 0 D.no) ++ Array.toList (ByteArray.data { data := #[32, 105, 100, 61, 34] }) ++ D.toStr (D.cell (List.getD v23 (Int.toNat v25) D.no) 1) ++ Array.toList (ByteArray.data { data := #[34, 62] })) to8 (D.toInt (D.cell (List.getD v23 (Int.toNat v25) D.no) 0)) v23 v24 (IntKind.wrap IntKind.i64 (v25 + 1)) c2)
                (cond (bif bif bif decide (from7 = Array.toList (ByteArray.data { data := #[] })) then false else true then decide (to8 = Array.toList (ByteArray.data { data := #[] })) else false then decide (D.toInt (D.cell (List.getD v23 (Int.toNat v25) D.no) 0) ≤ level9) else false)
                  (L6a id1 s5 ok6 from7 (Array.toList (ByteArray.data { data := #[60, 104] }) ++ D.toStr (List.getD ρ2 0 D.no) ++ Array.toList (ByteArray.data { data := #[32, 105, 100, 61, 34] }) ++ D.toStr (D.cell (List.getD v23 (Int.toNat v25) D.no) 1) ++ Array.toList (ByteArray.data { data := #[34, 62] })) level9 v23 v24 (IntKind.wrap IntKind.i64 (v25 + 1)) c2)
                  (L6a id1 s5 ok6 from7 to8 level9 v23 v24 (IntKind.wrap IntKind.i64 (v25 + 1)) c2)))
              (none))
            (none))
          (none))
        (none))
    (none))
  (opt (RUN E 19 [D.str (D.toStr (D.cell c2 0)), D.str from7]) fun ρ1 =>
    cond (bif decide (from7 = Array.toList (ByteArray.data { data := #[] })) then true else decide (D.toInt (List.getD ρ1 0 D.no) < 0))
      (some [D.bool (bif decide (s5 = Array.toList (ByteArray.data { data := #[] })) then !ok6 else false)])
      (cond (cutOk (List.length (D.toStr (D.cell c2 0))) (some (D.toInt (List.getD ρ1 0 D.no))) none)
        (cond (bif decide (to8 = Array.toList (ByteArray.data { data := #[] })) then false else true)
          (cond (cutOk (List.length (cutL (D.toStr (D.cell c2 0)) (some (D.toInt (List.getD ρ1 0 D.no))) none)) (some (↑(List.length from7) : Int)) none)
            (opt (RUN E 19 [D.str (cutL (cutL (D.toStr (D.cell c2 0)) (some (D.toInt (List.getD ρ1 0 D.no))) none) (some (↑(List.length from7) : Int)) none), D.str to8]) fun ρ6 =>
              cond (decide (D.toInt (List.getD ρ6 0 D.no) < 0))
                (some [D.bool (bif decide (s5 = Array.toList (ByteArray.data { data := #[] })) then !ok6 else false)])
                (cond (cutOk (List.length (cutL (D.toStr (D.cell c2 0)) (some (D.toInt (List.getD ρ1 0 D.no))) none)) none (some (IntKind.wrap IntKind.i64 ((↑(List.length from7) : Int) + D.toInt (List.getD ρ6 0 D.no)))))
                  (some [D.bool (bif decide (s5 = cutL (cutL (D.toStr (D.cell c2 0)) (some (D.toInt (List.getD ρ1 0 D.no))) none) none (some (IntKind.wrap IntKind.i64 ((↑(List.length from7) : Int) + D.toInt (List.getD ρ6 0 D.no))))) then ok6 else false)])
                  (none)))
            (none))
          (some [D.bool (bif decide (s5 = cutL (D.toStr (D.cell c2 0)) (some (D.toInt (List.getD ρ1 0 D.no))) none) then ok6 else false)]))
        (none))) := (LOOP_eq _ _ _ _ _ _).trans (by kernel_rfl)
/-! masthead/page.Section -/
def h17a (id1 : List UInt8) (v14 : List D) (v15 : Int) (v16 : Int) (c2 : D) : St := mkSt 74 [(1, SV.val KT.str (D.str id1)), (2, SV.bptr 2 37 0 (KT.agg 37)), (14, SV.val (KT.slice 41) (D.list v14)), (15, SV.val (KT.int IntKind.i64) (D.int v15)), (16, SV.val (KT.int IntKind.i64) (D.int v16))] [(2, Obj.box 37 (BC.whole c2))]
noncomputable def L17a (id1 : List UInt8) (v14 : List D) (v15 : Int) (v16 : Int) (c2 : D) : R := LOOP E (RUN E) 17 Tryd.f17 [1, 0, 1, 0] (h17a id1 v14 v15 v16 c2)
def h17b (from8 : Int) (v36 : List D) (v37 : Int) (v38 : Int) (c2 : D) (x7 : D) : St := mkSt 74 [(2, SV.bptr 2 37 0 (KT.agg 37)), (7, SV.bptr 7 41 0 (KT.agg 41)), (8, SV.val (KT.int IntKind.i64) (D.int from8)), (36, SV.val (KT.slice 41) (D.list v36)), (37, SV.val (KT.int IntKind.i64) (D.int v37)), (38, SV.val (KT.int IntKind.i64) (D.int v38))] [(2, Obj.box 37 (BC.whole c2)), (7, Obj.box 41 (BC.whole x7))]
noncomputable def L17b (from8 : Int) (v36 : List D) (v37 : Int) (v38 : Int) (c2 : D) (x7 : D) : R := LOOP E (RUN E) 17 Tryd.f17 [1, 0, 1, 0, 0, 1, 1, 0, 0, 1, 1, 1, 1, 0, 1, 0] (h17b from8 v36 v37 v38 c2 x7)
theorem enter17 (c0 : D) (id1 : List UInt8) : RUN E 17 [c0, D.str id1] =
    L17a id1 (D.toList (D.cell c0 3)) ((↑(List.length (D.toList (D.cell c0 3))) : Int)) 0 c0 := (RUN_eq _ _ _).trans (by kernel_rfl)
theorem round17a (id1 : List UInt8) (v14 : List D) (v15 : Int) (v16 : Int) (c2 : D) : L17a id1 v14 v15 v16 c2 =
    cond (decide (v16 < v15))
  (cond (inb v16 (List.length v14))
    (cond (bif decide (D.toStr (D.cell (List.getD v14 (Int.toNat v16) D.no) 1) = id1) then false else true)
      (L17a id1 v14 v15 (IntKind.wrap IntKind.i64 (v16 + 1)) c2)
      (opt (RUN E 32 [List.getD v14 (Int.toNat v16) D.no]) fun ρ3 =>
        opt (RUN E 19 [D.str (D.toStr (D.cell c2 0)), D.str (D.toStr (List.getD ρ3 0 D.no))]) fun ρ4 =>
          cond (decide (D.toInt (List.getD ρ4 0 D.no) < 0))
            (some [D.str (Array.toList (ByteArray.data { data := #[] })), D.bool false])
            (cond (cutOk (List.length (D.toList (D.cell c2 3))) (some (IntKind.wrap IntKind.i64 (v16 + 1))) none)
              (L17b (D.toInt (List.getD ρ4 0 D.no)) (cutL (D.toList (D.cell c2 3)) (some (IntKind.wrap IntKind.i64 (v16 + 1))) none) ((↑(List.length (cutL (D.toList (D.cell c2 3)) (some (IntKind.wrap IntKind.i64 (v16 + 1))) none)) : Int)) 0 c2 (List.getD v14 (Int.toNat v16) D.no))
              (none))))
    (none))
  (some [D.str (Array.toList (ByteArray.data { data := #[] })), D.bool false]) := (LOOP_eq _ _ _ _ _ _).trans (by kernel_rfl)
theorem round17b (from8 : Int) (v36 : List D) (v37 : Int) (v38 : Int) (c2 : D) (x7 : D) : L17b from8 v36 v37 v38 c2 x7 =
    cond (decide (v38 < v37))
  (cond (inb v38 (List.length v36))
    (cond (decide (D.toInt (D.cell x7 0) < D.toInt (D.cell (List.getD v36 (Int.toNat v38) D.no) 0)))
      (L17b from8 v36 v37 (IntKind.wrap IntKind.i64 (v38 + 1)) c2 x7)
      (opt (RUN E 32 [x7]) fun ρ3 =>
        cond (cutOk (List.length (D.toStr (D.cell c2 0))) (some (IntKind.wrap IntKind.i64 (from8 + (↑(List.length (D.toStr (List.getD ρ3 0 D.no))) : Int)))) none)
          (opt (RUN E 32 [List.getD v36 (Int.toNat v38) D.no]) fun ρ5 =>
            opt (RUN E 19 [D.str (cutL (D.toStr (D.cell c2 0)) (some (IntKind.wrap IntKind.i64 (from8 + (↑(List.length (D.toStr (List.getD ρ3 0 D.no))) : Int)))) none), D.str (D.toStr (List.getD ρ5 0 D.no))]) fun ρ6 =>
              cond (decide (D.toInt (List.getD ρ6 0 D.no) < 0))
                (some [D.str (Array.toList (ByteArray.data { data := #[] })), D.bool false])
                (cond (cutOk (List.length (D.toStr (D.cell c2 0))) (some from8) (some (IntKind.wrap IntKind.i64 (IntKind.wrap IntKind.i64 (from8 + (↑(List.length (D.toStr (List.getD ρ3 0 D.no))) : Int)) + D.toInt (List.getD ρ6 0 D.no)))))
                  (some [D.str (cutL (D.toStr (D.cell c2 0)) (some from8) (some (IntKind.wrap IntKind.i64 (IntKind.wrap IntKind.i64 (from8 + (↑(List.length (D.toStr (List.getD ρ3 0 D.no))) : Int)) + D.toInt (List.getD ρ6 0 D.no))))), D.bool true])
                  (none)))
          (none)))
    (none))
  (cond (cutOk (List.length (D.toStr (D.cell c2 0))) (some from8) none)
    (some [D.str (cutL (D.toStr (D.cell c2 0)) (some from8) none), D.bool true])
    (none)) := (LOOP_eq _ _ _ _ _ _).trans (by kernel_rfl)
/-! masthead/mastref1.Told -/
theorem enter18 (n0 : Int) : RUN E 18 [D.int n0] =
    opt (RUN E 21 [D.int n0]) fun ρ0 =>
  some [D.str (D.toStr (List.getD ρ0 0 D.no))] := (RUN_eq _ _ _).trans (by kernel_rfl)
/-! masthead/page.sign -/
theorem enter32 (x0 : D) : RUN E 32 [x0] =
    opt (RUN E 21 [D.int (D.toInt (D.cell x0 0))]) fun ρ0 =>
  cond (decide (List.length (Array.toList (ByteArray.data { data := #[60, 104] })) + List.length (D.toStr (List.getD ρ0 0 D.no)) ≤ lim))
    (cond (decide (List.length (Array.toList (ByteArray.data { data := #[60, 104] }) ++ D.toStr (List.getD ρ0 0 D.no)) + List.length (Array.toList (ByteArray.data { data := #[32, 105, 100, 61, 34] })) ≤ lim))
      (cond (decide (List.length (Array.toList (ByteArray.data { data := #[60, 104] }) ++ D.toStr (List.getD ρ0 0 D.no) ++ Array.toList (ByteArray.data { data := #[32, 105, 100, 61, 34] })) + List.length (D.toStr (D.cell x0 1)) ≤ lim))
        (cond (decide (List.length (Array.toList (ByteArray.data { data := #[60, 104] }) ++ D.toStr (List.getD ρ0 0 D.no) ++ Array.toList (ByteArray.data { data := #[32, 105, 100, 61, 34] }) ++ D.toStr (D.cell x0 1)) + List.length (Array.toList (ByteArray.data { data := #[34, 62] })) ≤ lim))
          (some [D.str (Array.toList (ByteArray.data { data := #[60, 104] }) ++ D.toStr (List.getD ρ0 0 D.no) ++ Array.toList (ByteArray.data { data := #[32, 105, 100, 61, 34] }) ++ D.toStr (D.cell x0 1) ++ Array.toList (ByteArray.data { data := #[34, 62] }))])
          (none))
        (none))
      (none))
    (none) := (RUN_eq _ _ _).trans (by kernel_rfl)
end Go.Proofs.YtjofkhdnidjleaaDoor.ps
