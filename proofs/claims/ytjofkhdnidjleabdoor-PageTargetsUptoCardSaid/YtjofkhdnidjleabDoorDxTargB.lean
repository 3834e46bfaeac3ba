import Derived.Test.YtjofkhdnidjleabDoorDxTargA
set_option linter.unusedVariables false
set_option linter.unusedSimpArgs false
namespace Go.Proofs.YtjofkhdnidjleabDoor.tg
open Go.Proofs.YtjofkhdnidjleabDoor.DS

/-! masthead/mastlaw1.PageTargets -/
theorem enter6 (h0 : D) (dest1 : List UInt8) : RUN E 6 [h0, D.str dest1] =
    opt (RUN E 16 [h0, D.str dest1]) fun ρ0 =>
  opt (RUN E 17 [h0, D.str dest1]) fun ρ1 =>
    some [D.bool (bif bif decide (D.toStr (List.getD ρ0 0 D.no) = D.toStr (List.getD ρ1 0 D.no)) then decide (D.toStr (List.getD ρ0 1 D.no) = D.toStr (List.getD ρ1 1 D.no)) else false then D.toBool (List.getD ρ0 2 D.no) == D.toBool (List.getD ρ1 2 D.no) else false)] := (RUN_eq _ _ _).trans (by kernel_rfl)
/-! masthead/page.Target -/
def h16a (ref7 : List UInt8) (fragment8 : List UInt8) (h2 : D) : St := mkSt 76 [(2, SV.bptr 2 46 0 (KT.agg 46)), (7, SV.val KT.str (D.str ref7)), (8, SV.val KT.str (D.str fragment8))] [(2, Obj.box 46 (BC.whole h2))]
noncomputable def C16a (ref7 : List UInt8) (fragment8 : List UInt8) (h2 : D) : R := PART E (RUN E) 16 Tryd.f16 [1, 0, 0, 1, 0, 1, 1] (h16a ref7 fragment8 h2)
theorem enter16 (h0 : D) (dest1 : List UInt8) : RUN E 16 [h0, D.str dest1] =
    opt (RUN E 28 [D.str dest1, D.str (([114, 101, 102, 58] : List UInt8))]) fun ρ0 =>
  cond (D.toBool (List.getD ρ0 0 D.no))
    (cond (cutOk (List.length dest1) (some 4) none)
      (opt (RUN E 39 [D.str (cutL dest1 (some 4) none), D.int 35]) fun ρ3 =>
        cond (decide (0 ≤ D.toInt (List.getD ρ3 0 D.no)))
          (cond (cutOk (List.length (cutL dest1 (some 4) none)) none (some (D.toInt (List.getD ρ3 0 D.no))))
            (cond (cutOk (List.length (cutL dest1 (some 4) none)) (some (D.toInt (List.getD ρ3 0 D.no))) none)
              (C16a (cutL (cutL dest1 (some 4) none) none (some (D.toInt (List.getD ρ3 0 D.no)))) (cutL (cutL dest1 (some 4) none) (some (D.toInt (List.getD ρ3 0 D.no))) none) h0)
              (none))
            (none))
          (C16a (cutL dest1 (some 4) none) (([] : List UInt8)) h0))
      (none))
    (opt (RUN E 28 [D.str dest1, D.str (([97, 115, 115, 101, 116, 58] : List UInt8))]) fun ρ2 =>
      cond (D.toBool (List.getD ρ2 0 D.no))
        (opt (RUN E 40 [D.list (D.toList (D.cell h0 1)), D.str dest1]) fun ρ4 =>
          opt (RUN E 41 [List.getD ρ4 0 D.no, D.str (([117, 114, 108] : List UInt8))]) fun ρ5 =>
            cond (bif bif decide (D.toInt (D.cell (List.getD ρ4 0 D.no) 0) = 6) then false else true then true else bif decide (D.toInt (D.cell (List.getD ρ5 0 D.no) 0) = 3) then false else true)
              (some [D.str (([35] : List UInt8)), D.str dest1, D.bool false])
              (some [D.str (D.toStr (D.cell (List.getD ρ5 0 D.no) 3)), D.str dest1, D.bool true]))
        (some [D.str dest1, D.str (([] : List UInt8)), D.bool true])) := (RUN_eq _ _ _).trans (by kernel_rfl)
theorem round16a (ref7 : List UInt8) (fragment8 : List UInt8) (h2 : D) : C16a ref7 fragment8 h2 =
    opt (RUN E 12 [D.str (D.toStr (D.cell h2 2)), D.str ref7]) fun ρ0 =>
  cond (bif decide (D.toInt (List.getD ρ0 1 D.no) = 0) then false else true)
    (some [D.str (([35] : List UInt8)), D.str (([] : List UInt8)), D.bool false])
    (cond (decide (List.length (([112, 97, 103, 101, 58] : List UInt8)) + List.length (D.toStr (List.getD ρ0 0 D.no)) ≤ lim))
      (opt (RUN E 40 [D.list (D.toList (D.cell h2 1)), D.str (([112, 97, 103, 101, 58] : List UInt8) ++ D.toStr (List.getD ρ0 0 D.no))]) fun ρ3 =>
        cond (bif decide (D.toInt (D.cell (List.getD ρ3 0 D.no) 0) = 6) then false else true)
          (some [D.str (([35] : List UInt8)), D.str (([112, 97, 103, 101, 58] : List UInt8) ++ D.toStr (List.getD ρ0 0 D.no)), D.bool false])
          (cond (decide (List.length (D.toStr (List.getD ρ0 0 D.no)) + List.length fragment8 ≤ lim))
            (some [D.str (D.toStr (List.getD ρ0 0 D.no) ++ fragment8), D.str (([112, 97, 103, 101, 58] : List UInt8) ++ D.toStr (List.getD ρ0 0 D.no)), D.bool true])
            (none)))
      (none)) := (PART_eq _ _ _ _ _ _).trans (by kernel_rfl)
/-! masthead/mastref1.TargetOf -/
def h17a (ref7 : List UInt8) (fragment8 : List UInt8) (h2 : D) : St := mkSt 80 [(2, SV.bptr 2 46 0 (KT.agg 46)), (7, SV.val KT.str (D.str ref7)), (8, SV.val KT.str (D.str fragment8))] [(2, Obj.box 46 (BC.whole h2))]
noncomputable def C17a (ref7 : List UInt8) (fragment8 : List UInt8) (h2 : D) : R := PART E (RUN E) 17 Tryd.f17 [1, 0, 0, 1, 0, 1, 1] (h17a ref7 fragment8 h2)
theorem enter17 (h0 : D) (dest1 : List UInt8) : RUN E 17 [h0, D.str dest1] =
    opt (RUN E 28 [D.str dest1, D.str (([114, 101, 102, 58] : List UInt8))]) fun ρ0 =>
  cond (D.toBool (List.getD ρ0 0 D.no))
    (cond (cutOk (List.length dest1) (some 4) none)
      (opt (RUN E 39 [D.str (cutL dest1 (some 4) none), D.int 35]) fun ρ3 =>
        cond (decide (0 ≤ D.toInt (List.getD ρ3 0 D.no)))
          (cond (cutOk (List.length (cutL dest1 (some 4) none)) none (some (D.toInt (List.getD ρ3 0 D.no))))
            (cond (cutOk (List.length (cutL dest1 (some 4) none)) (some (D.toInt (List.getD ρ3 0 D.no))) none)
              (C17a (cutL (cutL dest1 (some 4) none) none (some (D.toInt (List.getD ρ3 0 D.no)))) (cutL (cutL dest1 (some 4) none) (some (D.toInt (List.getD ρ3 0 D.no))) none) h0)
              (none))
            (none))
          (C17a (cutL dest1 (some 4) none) (([] : List UInt8)) h0))
      (none))
    (opt (RUN E 28 [D.str dest1, D.str (([97, 115, 115, 101, 116, 58] : List UInt8))]) fun ρ2 =>
      cond (D.toBool (List.getD ρ2 0 D.no))
        (cond (cutOk (List.length dest1) (some 6) none)
          (cond (decide (List.length (([97, 115, 115, 101, 116, 58] : List UInt8)) + List.length (cutL dest1 (some 6) none) ≤ lim))
            (opt (RUN E 42 [D.list (D.toList (D.cell h0 1)), D.str (([97, 115, 115, 101, 116, 58] : List UInt8) ++ cutL dest1 (some 6) none)]) fun ρ6 =>
              opt (RUN E 43 [List.getD ρ6 0 D.no, D.str (([117, 114, 108] : List UInt8))]) fun ρ7 =>
                cond (bif decide (D.toInt (D.cell (List.getD ρ6 0 D.no) 0) = 6) then decide (D.toInt (D.cell (List.getD ρ7 0 D.no) 0) = 3) else false)
                  (cond (cutOk (List.length dest1) (some 6) none)
                    (cond (decide (List.length (([97, 115, 115, 101, 116, 58] : List UInt8)) + List.length (cutL dest1 (some 6) none) ≤ lim))
                      (some [D.str (D.toStr (D.cell (List.getD ρ7 0 D.no) 3)), D.str (([97, 115, 115, 101, 116, 58] : List UInt8) ++ cutL dest1 (some 6) none), D.bool true])
                      (none))
                    (none))
                  (cond (cutOk (List.length dest1) (some 6) none)
                    (cond (decide (List.length (([97, 115, 115, 101, 116, 58] : List UInt8)) + List.length (cutL dest1 (some 6) none) ≤ lim))
                      (some [D.str (([35] : List UInt8)), D.str (([97, 115, 115, 101, 116, 58] : List UInt8) ++ cutL dest1 (some 6) none), D.bool false])
                      (none))
                    (none)))
            (none))
          (none))
        (some [D.str dest1, D.str (([] : List UInt8)), D.bool true])) := (RUN_eq _ _ _).trans (by kernel_rfl)
theorem round17a (ref7 : List UInt8) (fragment8 : List UInt8) (h2 : D) : C17a ref7 fragment8 h2 =
    opt (RUN E 13 [D.str (D.toStr (D.cell h2 2)), D.str ref7]) fun ρ0 =>
  cond (bif decide (D.toInt (List.getD ρ0 1 D.no) = 0) then false else true)
    (some [D.str (([35] : List UInt8)), D.str (([] : List UInt8)), D.bool false])
    (cond (decide (List.length (([112, 97, 103, 101, 58] : List UInt8)) + List.length (D.toStr (List.getD ρ0 0 D.no)) ≤ lim))
      (opt (RUN E 42 [D.list (D.toList (D.cell h2 1)), D.str (([112, 97, 103, 101, 58] : List UInt8) ++ D.toStr (List.getD ρ0 0 D.no))]) fun ρ3 =>
        cond (bif decide (D.toInt (D.cell (List.getD ρ3 0 D.no) 0) = 6) then false else true)
          (cond (decide (List.length (([112, 97, 103, 101, 58] : List UInt8)) + List.length (D.toStr (List.getD ρ0 0 D.no)) ≤ lim))
            (some [D.str (([35] : List UInt8)), D.str (([112, 97, 103, 101, 58] : List UInt8) ++ D.toStr (List.getD ρ0 0 D.no)), D.bool false])
            (none))
          (cond (decide (List.length (D.toStr (List.getD ρ0 0 D.no)) + List.length fragment8 ≤ lim))
            (cond (decide (List.length (([112, 97, 103, 101, 58] : List UInt8)) + List.length (D.toStr (List.getD ρ0 0 D.no)) ≤ lim))
              (some [D.str (D.toStr (List.getD ρ0 0 D.no) ++ fragment8), D.str (([112, 97, 103, 101, 58] : List UInt8) ++ D.toStr (List.getD ρ0 0 D.no)), D.bool true])
              (none))
            (none)))
      (none)) := (PART_eq _ _ _ _ _ _).trans (by kernel_rfl)
/-! strings.HasPrefix -/
theorem enter28 (s0 : List UInt8) (prefix1 : List UInt8) : RUN E 28 [D.str s0, D.str prefix1] =
    opt (RUN E 45 [D.str s0, D.str prefix1]) fun ρ0 =>
  some [D.bool (D.toBool (List.getD ρ0 0 D.no))] := (RUN_eq _ _ _).trans (by kernel_rfl)
/-! masthead/page.Resolve -/
def h12a (ref1 : List UInt8) (l6 : List D) : St := mkSt 69 [(1, SV.val KT.str (D.str ref1)), (6, SV.val (KT.slice 9) (D.list l6))] []
noncomputable def C12a (ref1 : List UInt8) (l6 : List D) : R := PART E (RUN E) 12 Tryd.f12 [1, 1, 1, 1] (h12a ref1 l6)
def h12b (l6 : List D) (v25 : List D) (v26 : Int) (v27 : Int) : St := mkSt 69 [(6, SV.val (KT.slice 9) (D.list l6)), (25, SV.val (KT.slice 9) (D.list v25)), (26, SV.val (KT.int IntKind.i64) (D.int v26)), (27, SV.val (KT.int IntKind.i64) (D.int v27))] []
noncomputable def L12b (l6 : List D) (v25 : List D) (v26 : Int) (v27 : Int) : R := LOOP E (RUN E) 12 Tryd.f12 [1, 1, 1, 1, 0, 1, 0] (h12b l6 v25 v26 v27)
theorem enter12 (from0 : List UInt8) (ref1 : List UInt8) : RUN E 12 [D.str from0, D.str ref1] =
    opt (RUN E 27 [D.str from0]) fun ρ0 =>
  cond (bif bif D.toBool (List.getD ρ0 1 D.no) then false else true then true else decide (200 < (↑(List.length ref1) : Int)))
    (some [D.str (([] : List UInt8)), D.int 3])
    (opt (RUN E 28 [D.str ref1, D.str (([47] : List UInt8))]) fun ρ2 =>
      cond (D.toBool (List.getD ρ2 0 D.no))
        (C12a ref1 [])
        (C12a ref1 (D.toList (List.getD ρ0 0 D.no)))) := (RUN_eq _ _ _).trans (by kernel_rfl)
theorem round12a (ref1 : List UInt8) (l6 : List D) : C12a ref1 l6 =
    opt (RUN E 29 [D.str ref1, D.str (([47] : List UInt8))]) fun ρ0 =>
  L12b l6 (D.toList (List.getD ρ0 0 D.no)) ((↑(List.length (D.toList (List.getD ρ0 0 D.no))) : Int)) 0 := (PART_eq _ _ _ _ _ _).trans (by kernel_rfl)
theorem round12b (l6 : List D) (v25 : List D) (v26 : Int) (v27 : Int) : L12b l6 v25 v26 v27 =
    cond (decide (v27 < v26))
  (cond (inb v27 (List.length v25))
    (cond (bif decide (D.toStr (List.getD v25 (Int.toNat v27) D.no) = ([] : List UInt8)) then true else decide (D.toStr (List.getD v25 (Int.toNat v27) D.no) = ([46] : List UInt8)))
      (L12b l6 v25 v26 (IntKind.wrap IntKind.i64 (v27 + 1)))
      (cond (decide (D.toStr (List.getD v25 (Int.toNat v27) D.no) = ([46, 46] : List UInt8)))
        (cond (decide ((↑(List.length l6) : Int) = 0))
          (some [D.str (([] : List UInt8)), D.int 7])
          (cond (cutOk (List.length l6) none (some (IntKind.wrap IntKind.i64 ((↑(List.length l6) : Int) - 1))))
            (L12b (cutL l6 none (some (IntKind.wrap IntKind.i64 ((↑(List.length l6) : Int) - 1)))) v25 v26 (IntKind.wrap IntKind.i64 (v27 + 1)))
            (none)))
        (opt (RUN E 30 [D.str (D.toStr (List.getD v25 (Int.toNat v27) D.no))]) fun ρ4 =>
          cond (bif D.toBool (List.getD ρ4 0 D.no) then false else true)
            (some [D.str (([] : List UInt8)), D.int 3])
            (cond (fitL 0 (List.length l6))
              (cond (fitL (List.length l6) (List.length [D.str (D.toStr (List.getD v25 (Int.toNat v27) D.no))]))
                (opt (RUN E 31 [D.list (l6 ++ [D.str (D.toStr (List.getD v25 (Int.toNat v27) D.no))])]) fun ρ8 =>
                  cond (decide (200 < (↑(List.length (D.toStr (List.getD ρ8 0 D.no))) : Int)))
                    (some [D.str (([] : List UInt8)), D.int 3])
                    (L12b (l6 ++ [D.str (D.toStr (List.getD v25 (Int.toNat v27) D.no))]) v25 v26 (IntKind.wrap IntKind.i64 (v27 + 1))))
                (none))
              (none)))))
    (none))
  (opt (RUN E 31 [D.list l6]) fun ρ1 =>
    cond (decide (200 < (↑(List.length (D.toStr (List.getD ρ1 0 D.no))) : Int)))
      (some [D.str (([] : List UInt8)), D.int 3])
      (opt (RUN E 31 [D.list l6]) fun ρ3 =>
        some [D.str (D.toStr (List.getD ρ3 0 D.no)), D.int 0])) := (LOOP_eq _ _ _ _ _ _).trans (by kernel_rfl)
/-! masthead/page.fact -/
def h40a (name1 : List UInt8) (v7 : List D) (v8 : Int) (v9 : Int) (v4c0 : Int) (v4c1 : Bool) (v4c2 : Int) (v4c3 : List UInt8) : St := mkSt 26 [(1, SV.val KT.str (D.str name1)), (4, SV.bptr 4 29 0 (KT.agg 29)), (7, SV.val (KT.slice 33) (D.list v7)), (8, SV.val (KT.int IntKind.i64) (D.int v8)), (9, SV.val (KT.int IntKind.i64) (D.int v9))] [(4, Obj.box 29 (BC.cells [SV.val (KT.int IntKind.i64) (D.int v4c0), SV.val KT.bool (D.bool v4c1), SV.val (KT.int IntKind.i64) (D.int v4c2), SV.val KT.str (D.str v4c3), SV.nil, SV.nil]))]
noncomputable def L40a (name1 : List UInt8) (v7 : List D) (v8 : Int) (v9 : Int) (v4c0 : Int) (v4c1 : Bool) (v4c2 : Int) (v4c3 : List UInt8) : R := LOOP E (RUN E) 40 Tryd.f40 [1, 0, 1, 0] (h40a name1 v7 v8 v9 v4c0 v4c1 v4c2 v4c3)
theorem enter40 (l0 : List D) (name1 : List UInt8) : RUN E 40 [D.list l0, D.str name1] =
    L40a name1 l0 ((↑(List.length l0) : Int)) 0 0 false 0 [] := (RUN_eq _ _ _).trans (by kernel_rfl)
theorem round40a (name1 : List UInt8) (v7 : List D) (v8 : Int) (v9 : Int) (v4c0 : Int) (v4c1 : Bool) (v4c2 : Int) (v4c3 : List UInt8) : L40a name1 v7 v8 v9 v4c0 v4c1 v4c2 v4c3 =
    cond (decide (v9 < v8))
  (cond (inb v9 (List.length v7))
    (cond (decide (D.toStr (D.cell (List.getD v7 (Int.toNat v9) D.no) 0) = name1))
      (cond (decide (D.toInt (D.cell (List.getD v7 (Int.toNat v9) D.no) 1) = 8))
        (some [D.agg [D.int 0, D.bool false, D.int 0, D.str [], D.list [], D.list []]])
        (some [D.agg (List.take (List.length (TI.cells { kt := KT.agg 29, cells := [KT.int IntKind.i64, KT.bool, KT.int IntKind.i64, KT.str, KT.slice 29, KT.slice 9], fields := [(0, 3), (1, 4), (2, 3), (3, 9), (4, 27), (5, 24)], bytes := 88 })) (List.drop (0 + Prod.fst (1, 29)) (D.cells (List.getD v7 (Int.toNat v9) D.no))))]))
      (L40a name1 v7 v8 (IntKind.wrap IntKind.i64 (v9 + 1)) v4c0 v4c1 v4c2 v4c3))
    (none))
  (some [D.agg [D.int 0, D.bool false, D.int 0, D.str [], D.list [], D.list []]]) := (LOOP_eq _ _ _ _ _ _).trans (by kernel_rfl)
/-! masthead/page.item -/
def h41a (key1 : List UInt8) (v8 : List D) (v9 : Int) (v10 : Int) (t2 : D) (v4c0 : Int) (v4c1 : Bool) (v4c2 : Int) (v4c3 : List UInt8) : St := mkSt 35 [(1, SV.val KT.str (D.str key1)), (2, SV.bptr 2 29 0 (KT.agg 29)), (4, SV.bptr 4 29 0 (KT.agg 29)), (8, SV.val (KT.slice 9) (D.list v8)), (9, SV.val (KT.int IntKind.i64) (D.int v9)), (10, SV.val (KT.int IntKind.i64) (D.int v10))] [(2, Obj.box 29 (BC.whole t2)), (4, Obj.box 29 (BC.cells [SV.val (KT.int IntKind.i64) (D.int v4c0), SV.val KT.bool (D.bool v4c1), SV.val (KT.int IntKind.i64) (D.int v4c2), SV.val KT.str (D.str v4c3), SV.nil, SV.nil]))]
noncomputable def L41a (key1 : List UInt8) (v8 : List D) (v9 : Int) (v10 : Int) (t2 : D) (v4c0 : Int) (v4c1 : Bool) (v4c2 : Int) (v4c3 : List UInt8) : R := LOOP E (RUN E) 41 Tryd.f41 [1, 0, 1, 0] (h41a key1 v8 v9 v10 t2 v4c0 v4c1 v4c2 v4c3)
theorem enter41 (t0 : D) (key1 : List UInt8) : RUN E 41 [t0, D.str key1] =
    L41a key1 (D.toList (D.cell t0 5)) ((↑(List.length (D.toList (D.cell t0 5))) : Int)) 0 t0 0 false 0 [] := (RUN_eq _ _ _).trans (by kernel_rfl)
theorem round41a (key1 : List UInt8) (v8 : List D) (v9 : Int) (v10 : Int) (t2 : D) (v4c0 : Int) (v4c1 : Bool) (v4c2 : Int) (v4c3 : List UInt8) : L41a key1 v8 v9 v10 t2 v4c0 v4c1 v4c2 v4c3 =
    cond (decide (v10 < v9))
  (cond (inb v10 (List.length v8))
    (cond (bif decide (D.toStr (List.getD v8 (Int.toNat v10) D.no) = key1) then decide (v10 < (↑(List.length (D.toList (D.cell t2 4))) : Int)) else false)
      (cond (inb v10 (List.length (D.toList (D.cell t2 4))))
        (some [List.getD (D.toList (D.cell t2 4)) (Int.toNat v10) D.no])
        (none))
      (cond (decide (D.toStr (List.getD v8 (Int.toNat v10) D.no) = key1))
        (some [D.agg [D.int 0, D.bool false, D.int 0, D.str [], D.list [], D.list []]])
        (L41a key1 v8 v9 (IntKind.wrap IntKind.i64 (v10 + 1)) t2 v4c0 v4c1 v4c2 v4c3)))
    (none))
  (some [D.agg [D.int 0, D.bool false, D.int 0, D.str [], D.list [], D.list []]]) := (LOOP_eq _ _ _ _ _ _).trans (by kernel_rfl)
/-! masthead/mastref1.Resolved -/
def h13a (ref1 : List UInt8) (at6 : List UInt8) : St := mkSt 56 [(1, SV.val KT.str (D.str ref1)), (6, SV.val KT.str (D.str at6))] []
noncomputable def C13a (ref1 : List UInt8) (at6 : List UInt8) : R := PART E (RUN E) 13 Tryd.f13 [1, 1, 1, 1] (h13a ref1 at6)
def h13b (at6 : List UInt8) (v21 : List D) (v22 : Int) (v23 : Int) : St := mkSt 56 [(6, SV.val KT.str (D.str at6)), (21, SV.val (KT.slice 9) (D.list v21)), (22, SV.val (KT.int IntKind.i64) (D.int v22)), (23, SV.val (KT.int IntKind.i64) (D.int v23))] []
noncomputable def L13b (at6 : List UInt8) (v21 : List D) (v22 : Int) (v23 : Int) : R := LOOP E (RUN E) 13 Tryd.f13 [1, 1, 1, 1, 0, 1, 0] (h13b at6 v21 v22 v23)
theorem enter13 (from0 : List UInt8) (ref1 : List UInt8) : RUN E 13 [D.str from0, D.str ref1] =
    opt (RUN E 32 [D.str from0]) fun ρ0 =>
  cond (bif bif D.toBool (List.getD ρ0 0 D.no) then false else true then true else decide (200 < (↑(List.length ref1) : Int)))
    (some [D.str (([] : List UInt8)), D.int 3])
    (opt (RUN E 28 [D.str ref1, D.str (([47] : List UInt8))]) fun ρ2 =>
      cond (D.toBool (List.getD ρ2 0 D.no))
        (C13a ref1 (([47] : List UInt8)))
        (C13a ref1 from0)) := (RUN_eq _ _ _).trans (by kernel_rfl)
theorem round13a (ref1 : List UInt8) (at6 : List UInt8) : C13a ref1 at6 =
    opt (RUN E 29 [D.str ref1, D.str (([47] : List UInt8))]) fun ρ0 =>
  L13b at6 (D.toList (List.getD ρ0 0 D.no)) ((↑(List.length (D.toList (List.getD ρ0 0 D.no))) : Int)) 0 := (PART_eq _ _ _ _ _ _).trans (by kernel_rfl)
theorem round13b (at6 : List UInt8) (v21 : List D) (v22 : Int) (v23 : Int) : L13b at6 v21 v22 v23 =
    cond (decide (v23 < v22))
  (cond (inb v23 (List.length v21))
    (cond (decide (D.toStr (List.getD v21 (Int.toNat v23) D.no) = ([] : List UInt8)))
      (cond (decide (D.toStr (List.getD v21 (Int.toNat v23) D.no) = ([] : List UInt8)))
        (L13b at6 v21 v22 (IntKind.wrap IntKind.i64 (v23 + 1)))
        (cond (decide (D.toStr (List.getD v21 (Int.toNat v23) D.no) = ([46, 46] : List UInt8)))
          (cond (decide (at6 = ([47] : List UInt8)))
            (some [D.str (([] : List UInt8)), D.int 7])
            (cond (cutOk (List.length at6) none (some (IntKind.wrap IntKind.i64 ((↑(List.length at6) : Int) - 1))))
              (opt (RUN E 33 [D.str (cutL at6 none (some (IntKind.wrap IntKind.i64 ((↑(List.length at6) : Int) - 1)))), D.str (([47] : List UInt8))]) fun ρ7 =>
                cond (cutOk (List.length at6) none (some (IntKind.wrap IntKind.i64 (D.toInt (List.getD ρ7 0 D.no) + 1))))
                  (L13b (cutL at6 none (some (IntKind.wrap IntKind.i64 (D.toInt (List.getD ρ7 0 D.no) + 1)))) v21 v22 (IntKind.wrap IntKind.i64 (v23 + 1)))
                  (none))
              (none)))
          (opt (RUN E 34 [D.str (D.toStr (List.getD v21 (Int.toNat v23) D.no))]) fun ρ5 =>
            cond (bif D.toBool (List.getD ρ5 0 D.no) then false else true)
              (some [D.str (([] : List UInt8)), D.int 3])
              (cond (decide (List.length (D.toStr (List.getD v21 (Int.toNat v23) D.no)) + List.length (([47] : List UInt8)) ≤ lim))
                (cond (decide (List.length at6 + List.length (D.toStr (List.getD v21 (Int.toNat v23) D.no) ++ ([47] : List UInt8)) ≤ lim))
                  (cond (decide (200 < (↑(List.length (at6 ++ (D.toStr (List.getD v21 (Int.toNat v23) D.no) ++ ([47] : List UInt8)))) : Int)))
                    (some [D.str (([] : List UInt8)), D.int 3])
                    (L13b (at6 ++ (D.toStr (List.getD v21 (Int.toNat v23) D.no) ++ ([47] : List UInt8))) v21 v22 (IntKind.wrap IntKind.i64 (v23 + 1))))
                  (none))
                (none)))))
      (cond (decide (D.toStr (List.getD v21 (Int.toNat v23) D.no) = ([46] : List UInt8)))
        (L13b at6 v21 v22 (IntKind.wrap IntKind.i64 (v23 + 1)))
        (cond (decide (D.toStr (List.getD v21 (Int.toNat v23) D.no) = ([46, 46] : List UInt8)))
          (cond (decide (at6 = ([47] : List UInt8)))
            (some [D.str (([] : List UInt8)), D.int 7])
            (cond (cutOk (List.length at6) none (some (IntKind.wrap IntKind.i64 ((↑(List.length at6) : Int) - 1))))
              (opt (RUN E 33 [D.str (cutL at6 none (some (IntKind.wrap IntKind.i64 ((↑(List.length at6) : Int) - 1)))), D.str (([47] : List UInt8))]) fun ρ7 =>
                cond (cutOk (List.length at6) none (some (IntKind.wrap IntKind.i64 (D.toInt (List.getD ρ7 0 D.no) + 1))))
                  (L13b (cutL at6 none (some (IntKind.wrap IntKind.i64 (D.toInt (List.getD ρ7 0 D.no) + 1)))) v21 v22 (IntKind.wrap IntKind.i64 (v23 + 1)))
                  (none))
              (none)))
          (opt (RUN E 34 [D.str (D.toStr (List.getD v21 (Int.toNat v23) D.no))]) fun ρ5 =>
            cond (bif D.toBool (List.getD ρ5 0 D.no) then false else true)
              (some [D.str (([] : List UInt8)), D.int 3])
              (cond (decide (List.length (D.toStr (List.getD v21 (Int.toNat v23) D.no)) + List.length (([47] : List UInt8)) ≤ lim))
                (cond (decide (List.length at6 + List.length (D.toStr (List.getD v21 (Int.toNat v23) D.no) ++ ([47] : List UInt8)) ≤ lim))
                  (cond (decide (200 < (↑(List.length (at6 ++ (D.toStr (List.getD v21 (Int.toNat v23) D.no) ++ ([47] : List UInt8)))) : Int)))
                    (some [D.str (([] : List UInt8)), D.int 3])
                    (L13b (at6 ++ (D.toStr (List.getD v21 (Int.toNat v23) D.no) ++ ([47] : List UInt8))) v21 v22 (IntKind.wrap IntKind.i64 (v23 + 1))))
                  (none))
                (none))))))
    (none))
  (some [D.str at6, D.int 0]) := (LOOP_eq _ _ _ _ _ _).trans (by kernel_rfl)
/-! masthead/mastref1.FactOf -/
def h42a (name1 : List UInt8) (v7 : List D) (v8 : Int) (v9 : Int) (v4c0 : Int) (v4c1 : Bool) (v4c2 : Int) (v4c3 : List UInt8) : St := mkSt 21 [(1, SV.val KT.str (D.str name1)), (4, SV.bptr 4 29 0 (KT.agg 29)), (7, SV.val (KT.slice 33) (D.list v7)), (8, SV.val (KT.int IntKind.i64) (D.int v8)), (9, SV.val (KT.int IntKind.i64) (D.int v9))] [(4, Obj.box 29 (BC.cells [SV.val (KT.int IntKind.i64) (D.int v4c0), SV.val KT.bool (D.bool v4c1), SV.val (KT.int IntKind.i64) (D.int v4c2), SV.val KT.str (D.str v4c3), SV.nil, SV.nil]))]
noncomputable def L42a (name1 : List UInt8) (v7 : List D) (v8 : Int) (v9 : Int) (v4c0 : Int) (v4c1 : Bool) (v4c2 : Int) (v4c3 : List UInt8) : R := LOOP E (RUN E) 42 Tryd.f42 [1, 0, 1, 0] (h42a name1 v7 v8 v9 v4c0 v4c1 v4c2 v4c3)
theorem enter42 (facts0 : List D) (name1 : List UInt8) : RUN E 42 [D.list facts0, D.str name1] =
    L42a name1 facts0 ((↑(List.length facts0) : Int)) 0 0 false 0 [] := (RUN_eq _ _ _).trans (by kernel_rfl)
theorem round42a (name1 : List UInt8) (v7 : List D) (v8 : Int) (v9 : Int) (v4c0 : Int) (v4c1 : Bool) (v4c2 : Int) (v4c3 : List UInt8) : L42a name1 v7 v8 v9 v4c0 v4c1 v4c2 v4c3 =
    cond (decide (v9 < v8))
  (cond (inb v9 (List.length v7))
    (cond (decide (D.toStr (D.cell (List.getD v7 (Int.toNat v9) D.no) 0) = name1))
      (some [D.agg (List.take (List.length (TI.cells { kt := KT.agg 29, cells := [KT.int IntKind.i64, KT.bool, KT.int IntKind.i64, KT.str, KT.slice 29, KT.slice 9], fields := [(0, 3), (1, 4), (2, 3), (3, 9), (4, 27), (5, 24)], bytes := 88 })) (List.drop (0 + Prod.fst (1, 29)) (D.cells (List.getD v7 (Int.toNat v9) D.no))))])
      (L42a name1 v7 v8 (IntKind.wrap IntKind.i64 (v9 + 1)) v4c0 v4c1 v4c2 v4c3))
    (none))
  (some [D.agg [D.int 0, D.bool false, D.int 0, D.str [], D.list [], D.list []]]) := (LOOP_eq _ _ _ _ _ _).trans (by kernel_rfl)
/-! masthead/mastref1.ItemOf -/
def h43a (key1 : List UInt8) (v8 : List D) (v9 : Int) (v10 : Int) (v2 : D) (v4c0 : Int) (v4c1 : Bool) (v4c2 : Int) (v4c3 : List UInt8) : St := mkSt 32 [(1, SV.val KT.str (D.str key1)), (2, SV.bptr 2 29 0 (KT.agg 29)), (4, SV.bptr 4 29 0 (KT.agg 29)), (8, SV.val (KT.slice 9) (D.list v8)), (9, SV.val (KT.int IntKind.i64) (D.int v9)), (10, SV.val (KT.int IntKind.i64) (D.int v10))] [(2, Obj.box 29 (BC.whole v2)), (4, Obj.box 29 (BC.cells [SV.val (KT.int IntKind.i64) (D.int v4c0), SV.val KT.bool (D.bool v4c1), SV.val (KT.int IntKind.i64) (D.int v4c2), SV.val KT.str (D.str v4c3), SV.nil, SV.nil]))]
noncomputable def L43a (key1 : List UInt8) (v8 : List D) (v9 : Int) (v10 : Int) (v2 : D) (v4c0 : Int) (v4c1 : Bool) (v4c2 : Int) (v4c3 : List UInt8) : R := LOOP E (RUN E) 43 Tryd.f43 [1, 0, 1, 0] (h43a key1 v8 v9 v10 v2 v4c0 v4c1 v4c2 v4c3)
theorem enter43 (v0 : D) (key1 : List UInt8) : RUN E 43 [v0, D.str key1] =
    L43a key1 (D.toList (D.cell v0 5)) ((↑(List.length (D.toList (D.cell v0 5))) : Int)) 0 v0 0 false 0 [] := (RUN_eq _ _ _).trans (by kernel_rfl)
theorem round43a (key1 : List UInt8) (v8 : List D) (v9 : Int) (v10 : Int) (v2 : D) (v4c0 : Int) (v4c1 : Bool) (v4c2 : Int) (v4c3 : List UInt8) : L43a key1 v8 v9 v10 v2 v4c0 v4c1 v4c2 v4c3 =
    cond (decide (v10 < v9))
  (cond (inb v10 (List.length v8))
    (cond (bif decide (D.toStr (List.getD v8 (Int.toNat v10) D.no) = key1) then decide (v10 < (↑(List.length (D.toList (D.cell v2 4))) : Int)) else false)
      (cond (inb v10 (List.length (D.toList (D.cell v2 4))))
        (some [List.getD (D.toList (D.cell v2 4)) (Int.toNat v10) D.no])
        (none))
      (L43a key1 v8 v9 (IntKind.wrap IntKind.i64 (v10 + 1)) v2 v4c0 v4c1 v4c2 v4c3))
    (none))
  (some [D.agg [D.int 0, D.bool false, D.int 0, D.str [], D.list [], D.list []]]) := (LOOP_eq _ _ _ _ _ _).trans (by kernel_rfl)
/-! internal/stringslite.HasPrefix -/
theorem enter45 (s0 : List UInt8) (prefix1 : List UInt8) : RUN E 45 [D.str s0, D.str prefix1] =
    cond (bif cutOk (List.length s0) none (some (↑(List.length prefix1) : Int)) then true else bif bif decide ((↑(List.length prefix1) : Int) ≤ (↑(List.length s0) : Int)) then true else false then false else true)
  (some [D.bool (bif decide ((↑(List.length prefix1) : Int) ≤ (↑(List.length s0) : Int)) then decide (cutL s0 none (some (↑(List.length prefix1) : Int)) = prefix1) else false)])
  (none) := (RUN_eq _ _ _).trans (by kernel_rfl)
/-! masthead/page.partsOf -/
def h27a (l4 : List D) (v36 : List D) (v37 : Int) (v38 : Int) : St := mkSt 47 [(4, SV.val (KT.slice 9) (D.list l4)), (36, SV.val (KT.slice 9) (D.list v36)), (37, SV.val (KT.int IntKind.i64) (D.int v37)), (38, SV.val (KT.int IntKind.i64) (D.int v38))] []
noncomputable def L27a (l4 : List D) (v36 : List D) (v37 : Int) (v38 : Int) : R := LOOP E (RUN E) 27 Tryd.f27 [1, 1, 1, 1, 0, 1, 0] (h27a l4 v36 v37 v38)
theorem enter27 (s0 : List UInt8) : RUN E 27 [D.str s0] =
    cond (decide (s0 = ([47] : List UInt8)))
  (some [D.list [], D.bool true])
  (cond (bif inb 0 (List.length s0) then true else bif bif bif decide (200 < (↑(List.length s0) : Int)) then true else decide ((↑(List.length s0) : Int) < 2) then false else true then false else true)
    (cond (bif inb (IntKind.wrap IntKind.i64 ((↑(List.length s0) : Int) - 1)) (List.length s0) then true else bif bif bif bif decide (200 < (↑(List.length s0) : Int)) then true else decide ((↑(List.length s0) : Int) < 2) then true else bif decide ((↑(UInt8.toNat (List.getD s0 0 0)) : Int) = 47) then false else true then false else true then false else true)
      (cond (bif bif bif decide (200 < (↑(List.length s0) : Int)) then true else decide ((↑(List.length s0) : Int) < 2) then true else bif decide ((↑(UInt8.toNat (List.getD s0 0 0)) : Int) = 47) then false else true then true else bif decide ((↑(UInt8.toNat (List.getD s0 (Int.toNat (IntKind.wrap IntKind.i64 ((↑(List.length s0) : Int) - 1))) 0)) : Int) = 47) then false else true)
        (some [D.list [], D.bool false])
        (cond (cutOk (List.length s0) (some 1) (some (IntKind.wrap IntKind.i64 ((↑(List.length s0) : Int) - 1))))
          (opt (RUN E 29 [D.str (cutL s0 (some 1) (some (IntKind.wrap IntKind.i64 ((↑(List.length s0) : Int) - 1)))), D.str (([47] : List UInt8))]) fun ρ5 =>
            L27a (D.toList (List.getD ρ5 0 D.no)) (D.toList (List.getD ρ5 0 D.no)) ((↑(List.length (D.toList (List.getD ρ5 0 D.no))) : Int)) 0)
          (none)))
      (none))
    (none)) := (RUN_eq _ _ _).trans (by kernel_rfl)
theorem round27a (l4 : List D) (v36 : List D) (v37 : Int) (v38 : Int) : L27a l4 v36 v37 v38 =
    cond (decide (v38 < v37))
  (cond (inb v38 (List.length v36))
    (opt (RUN E 30 [D.str (D.toStr (List.getD v36 (Int.toNat v38) D.no))]) fun ρ2 =>
      cond (bif D.toBool (List.getD ρ2 0 D.no) then false else true)
        (some [D.list [], D.bool false])
        (L27a l4 v36 v37 (IntKind.wrap IntKind.i64 (v38 + 1))))
    (none))
  (some [D.list l4, D.bool true]) := (LOOP_eq _ _ _ _ _ _).trans (by kernel_rfl)
/-! strings.Split -/
theorem enter29 (s0 : List UInt8) (sep1 : List UInt8) : RUN E 29 [D.str s0, D.str sep1] =
    opt (RUN E 46 [D.str s0, D.str sep1, D.int 0, D.int (-1)]) fun ρ0 =>
  some [D.list (D.toList (List.getD ρ0 0 D.no))] := (RUN_eq _ _ _).trans (by kernel_rfl)
/-! masthead/page.isPart -/
def h30a (s0 : List UInt8) (i3 : Int) : St := mkSt 55 [(0, SV.val KT.str (D.str s0)), (3, SV.val (KT.int IntKind.i64) (D.int i3))] []
noncomputable def L30a (s0 : List UInt8) (i3 : Int) : R := LOOP E (RUN E) 30 Tryd.f30 [1, 1, 0, 1, 0] (h30a s0 i3)
theorem enter30 (s0 : List UInt8) : RUN E 30 [D.str s0] =
    cond (bif bif bif decide (s0 = ([] : List UInt8)) then true else decide (40 < (↑(List.length s0) : Int)) then true else decide (s0 = ([46] : List UInt8)) then true else decide (s0 = ([46, 46] : List UInt8)))
  (some [D.bool false])
  (L30a s0 0) := (RUN_eq _ _ _).trans (by kernel_rfl)
theorem round30a (s0 : List UInt8) (i3 : Int) : L30a s0 i3 =
    cond (decide (i3 < (↑(List.length s0) : Int)))
  (cond (inb i3 (List.length s0))
    (opt (RUN E 47 [D.int (↑(UInt8.toNat (List.getD s0 (Int.toNat i3) 0)) : Int)]) fun ρ2 =>
      cond (bif inb i3 (List.length s0) then true else bif bif bif D.toBool (List.getD ρ2 0 D.no) then false else true then true else false then false else true)
        (opt (cond (bif bif D.toBool (List.getD ρ2 0 D.no) then false else true then true else false)
            (RUN E 48 [D.int (↑(UInt8.toNat (List.getD s0 (Int.toNat i3) 0)) : Int)])
            (some [])) fun ρ4 =>
          cond (bif inb i3 (List.length s0) then true else bif bif bif bif D.toBool (List.getD ρ2 0 D.no) then false else true then bif D.toBool (List.getD ρ4 0 D.no) then false else true else false then true else false then false else true)
            (cond (bif inb i3 (List.length s0) then true else bif bif bif bif bif D.toBool (List.getD ρ2 0 D.no) then false else true then bif D.toBool (List.getD ρ4 0 D.no) then false else true else false then bif decide ((↑(UInt8.toNat (List.getD s0 (Int.toNat i3) 0)) : Int) = 45) then false else true else false then true else false then false else true)
              (cond (bif inb i3 (List.length s0) then true else bif bif bif bif bif bif D.toBool (List.getD ρ2 0 D.no) then false else true then bif D.toBool (List.getD ρ4 0 D.no) then false else true else false then bif decide ((↑(UInt8.toNat (List.getD s0 (Int.toNat i3) 0)) : Int) = 45) then false else true else false then bif decide ((↑(UInt8.toNat (List.getD s0 (Int.toNat i3) 0)) : Int) = 95) then false else true else false then true else false then false else true)
                (cond (bif bif bif bif bif D.toBool (List.getD ρ2 0 D.no) then false else true then bif D.toBool (List.getD ρ4 0 D.no) then false else true else false then bif decide ((↑(UInt8.toNat (List.getD s0 (Int.toNat i3) 0)) : Int) = 45) then false else true else false then bif decide ((↑(UInt8.toNat (List.getD s0 (Int.toNat i3) 0)) : Int) = 95) then false else true else false then bif decide ((↑(UInt8.toNat (List.getD s0 (Int.toNat i3) 0)) : Int) = 46) then false else true else false)
                  (some [D.bool false])
                  (L30a s0 (IntKind.wrap IntKind.i64 (i3 + 1))))
                (none))
              (none))
            (none))
        (none))
    (none))
  (some [D.bool true]) := (LOOP_eq _ _ _ _ _ _).trans (by kernel_rfl)
/-! masthead/page.address -/
def h31a (s3 : List UInt8) (v6 : List D) (v7 : Int) (v8 : Int) : St := mkSt 18 [(3, SV.val KT.str (D.str s3)), (6, SV.val (KT.slice 9) (D.list v6)), (7, SV.val (KT.int IntKind.i64) (D.int v7)), (8, SV.val (KT.int IntKind.i64) (D.int v8))] []
noncomputable def L31a (s3 : List UInt8) (v6 : List D) (v7 : Int) (v8 : Int) : R := LOOP E (RUN E) 31 Tryd.f31 [1, 1, 0, 1, 0] (h31a s3 v6 v7 v8)
theorem enter31 (l0 : List D) : RUN E 31 [D.list l0] =
    L31a (([47] : List UInt8)) l0 ((↑(List.length l0) : Int)) 0 := (RUN_eq _ _ _).trans (by kernel_rfl)
theorem round31a (s3 : List UInt8) (v6 : List D) (v7 : Int) (v8 : Int) : L31a s3 v6 v7 v8 =
    cond (decide (v8 < v7))
  (cond (inb v8 (List.length v6))
    (cond (decide (List.length (D.toStr (List.getD v6 (Int.toNat v8) D.no)) + List.length (([47] : List UInt8)) ≤ lim))
      (cond (decide (List.length s3 + List.length (D.toStr (List.getD v6 (Int.toNat v8) D.no) ++ ([47] : List UInt8)) ≤ lim))
        (L31a (s3 ++ (D.toStr (List.getD v6 (Int.toNat v8) D.no) ++ ([47] : List UInt8))) v6 v7 (IntKind.wrap IntKind.i64 (v8 + 1)))
        (none))
      (none))
    (none))
  (some [D.str s3]) := (LOOP_eq _ _ _ _ _ _).trans (by kernel_rfl)
/-! masthead/mastref1.IsAddress -/
def h32a (v33 : List D) (v34 : Int) (v35 : Int) : St := mkSt 43 [(33, SV.val (KT.slice 9) (D.list v33)), (34, SV.val (KT.int IntKind.i64) (D.int v34)), (35, SV.val (KT.int IntKind.i64) (D.int v35))] []
noncomputable def L32a (v33 : List D) (v34 : Int) (v35 : Int) : R := LOOP E (RUN E) 32 Tryd.f32 [1, 1, 1, 0, 1, 0] (h32a v33 v34 v35)
theorem enter32 (s0 : List UInt8) : RUN E 32 [D.str s0] =
    cond (bif inb 0 (List.length s0) then true else bif bif bif decide ((↑(List.length s0) : Int) < 1) then true else decide (200 < (↑(List.length s0) : Int)) then false else true then false else true)
  (cond (bif inb (IntKind.wrap IntKind.i64 ((↑(List.length s0) : Int) - 1)) (List.length s0) then true else bif bif bif bif decide ((↑(List.length s0) : Int) < 1) then true else decide (200 < (↑(List.length s0) : Int)) then true else bif decide ((↑(UInt8.toNat (List.getD s0 0 0)) : Int) = 47) then false else true then false else true then false else true)
    (cond (bif bif bif decide ((↑(List.length s0) : Int) < 1) then true else decide (200 < (↑(List.length s0) : Int)) then true else bif decide ((↑(UInt8.toNat (List.getD s0 0 0)) : Int) = 47) then false else true then true else bif decide ((↑(UInt8.toNat (List.getD s0 (Int.toNat (IntKind.wrap IntKind.i64 ((↑(List.length s0) : Int) - 1))) 0)) : Int) = 47) then false else true)
      (some [D.bool false])
      (cond (decide (s0 = ([47] : List UInt8)))
        (some [D.bool true])
        (cond (cutOk (List.length s0) (some 1) (some (IntKind.wrap IntKind.i64 ((↑(List.length s0) : Int) - 1))))
          (opt (RUN E 29 [D.str (cutL s0 (some 1) (some (IntKind.wrap IntKind.i64 ((↑(List.length s0) : Int) - 1)))), D.str (([47] : List UInt8))]) fun ρ5 =>
            L32a (D.toList (List.getD ρ5 0 D.no)) ((↑(List.length (D.toList (List.getD ρ5 0 D.no))) : Int)) 0)
          (none))))
    (none))
  (none) := (RUN_eq _ _ _).trans (by kernel_rfl)
theorem round32a (v33 : List D) (v34 : Int) (v35 : Int) : L32a v33 v34 v35 =
    cond (decide (v35 < v34))
  (cond (inb v35 (List.length v33))
    (opt (RUN E 34 [D.str (D.toStr (List.getD v33 (Int.toNat v35) D.no))]) fun ρ2 =>
      cond (bif D.toBool (List.getD ρ2 0 D.no) then false else true)
        (some [D.bool false])
        (L32a v33 v34 (IntKind.wrap IntKind.i64 (v35 + 1))))
    (none))
  (some [D.bool true]) := (LOOP_eq _ _ _ _ _ _).trans (by kernel_rfl)
/-! strings.LastIndex -/
theorem enter33 (s0 : List UInt8) (substr1 : List UInt8) : RUN E 33 [D.str s0, D.str substr1] =
    cond (decide ((↑(List.length substr1) : Int) = 0))
  (some [D.int (↑(List.length s0) : Int)])
  (cond (decide ((↑(List.length substr1) : Int) = 1))
    (cond (inb 0 (List.length substr1))
      (opt (RUN E 49 [D.str s0, D.int (↑(UInt8.toNat (List.getD substr1 0 0)) : Int)]) fun ρ3 =>
        some [D.int (D.toInt (List.getD ρ3 0 D.no))])
      (none))
    (cond (decide ((↑(List.length substr1) : Int) = (↑(List.length s0) : Int)))
      (cond (decide (substr1 = s0))
        (some [D.int 0])
        (some [D.int (-1)]))
      (cond (decide ((↑(List.length s0) : Int) < (↑(List.length substr1) : Int)))
        (some [D.int (-1)])
        (none)))) := (RUN_eq _ _ _).trans (by kernel_rfl)
/-! masthead/mastref1.pathPart -/
def h34a (s0 : List UInt8) (i3 : Int) : St := mkSt 43 [(0, SV.val KT.str (D.str s0)), (3, SV.val (KT.int IntKind.i64) (D.int i3))] []
noncomputable def L34a (s0 : List UInt8) (i3 : Int) : R := LOOP E (RUN E) 34 Tryd.f34 [1, 1, 0, 1, 0] (h34a s0 i3)
theorem enter34 (s0 : List UInt8) : RUN E 34 [D.str s0] =
    cond (bif bif bif decide ((↑(List.length s0) : Int) < 1) then true else decide (40 < (↑(List.length s0) : Int)) then true else decide (s0 = ([46] : List UInt8)) then true else decide (s0 = ([46, 46] : List UInt8)))
  (some [D.bool false])
  (L34a s0 0) := (RUN_eq _ _ _).trans (by kernel_rfl)
theorem round34a (s0 : List UInt8) (i3 : Int) : L34a s0 i3 =
    cond (decide (i3 < (↑(List.length s0) : Int)))
  (cond (inb i3 (List.length s0))
    (opt (RUN E 51 [D.int (↑(UInt8.toNat (List.getD s0 (Int.toNat i3) 0)) : Int)]) fun ρ2 =>
      cond (bif inb i3 (List.length s0) then true else bif bif D.toBool (List.getD ρ2 0 D.no) then false else true then false else true)
        (cond (bif inb i3 (List.length s0) then true else bif bif bif D.toBool (List.getD ρ2 0 D.no) then true else decide ((↑(UInt8.toNat (List.getD s0 (Int.toNat i3) 0)) : Int) = 45) then false else true then false else true)
          (cond (bif bif bif D.toBool (List.getD ρ2 0 D.no) then true else decide ((↑(UInt8.toNat (List.getD s0 (Int.toNat i3) 0)) : Int) = 45) then true else decide ((↑(UInt8.toNat (List.getD s0 (Int.toNat i3) 0)) : Int) = 46) then false else true)
            (some [D.bool false])
            (L34a s0 (IntKind.wrap IntKind.i64 (i3 + 1))))
          (none))
        (none))
    (none))
  (some [D.bool true]) := (LOOP_eq _ _ _ _ _ _).trans (by kernel_rfl)
/-! strings.genSplit -/
def h46a (s0 : List UInt8) (sep1 : List UInt8) (sepSave2 : Int) (n3 : Int) : St := mkSt 66 [(0, SV.val KT.str (D.str s0)), (1, SV.val KT.str (D.str sep1)), (2, SV.val (KT.int IntKind.i64) (D.int sepSave2)), (3, SV.val (KT.int IntKind.i64) (D.int n3))] []
noncomputable def C46a (s0 : List UInt8) (sep1 : List UInt8) (sepSave2 : Int) (n3 : Int) : R := PART E (RUN E) 46 Tryd.f46 [1, 1, 1, 1] (h46a s0 sep1 sepSave2 n3)
def h46b (s0 : List UInt8) (sep1 : List UInt8) (sepSave2 : Int) (n3 : Int) (i10 : Int) (a9s : List D) : St := mkSt 66 [(0, SV.val KT.str (D.str s0)), (1, SV.val KT.str (D.str sep1)), (2, SV.val (KT.int IntKind.i64) (D.int sepSave2)), (3, SV.val (KT.int IntKind.i64) (D.int n3)), (9, SV.own 9), (10, SV.val (KT.int IntKind.i64) (D.int i10))] [(9, Obj.arr 9 a9s)]
noncomputable def L46b (s0 : List UInt8) (sep1 : List UInt8) (sepSave2 : Int) (n3 : Int) (i10 : Int) (a9s : List D) : R := LOOP E (RUN E) 46 Tryd.f46 [1, 1, 1, 1, 1, 1, 1, 1, 0, 0] (h46b s0 sep1 sepSave2 n3 i10 a9s)
theorem enter46 (s0 : List UInt8) (sep1 : List UInt8) (sepSave2 : Int) (n3 : Int) : RUN E 46 [D.str s0, D.str sep1, D.int sepSave2, D.int n3] =
    cond (decide (n3 = 0))
  (some [D.list []])
  (cond (decide (sep1 = ([] : List UInt8)))
    (none)
    (cond (decide (n3 < 0))
      (opt (RUN E 65 [D.str s0, D.str sep1]) fun ρ3 =>
        C46a s0 sep1 sepSave2 (IntKind.wrap IntKind.i64 (D.toInt (List.getD ρ3 0 D.no) + 1)))
      (C46a s0 sep1 sepSave2 n3))) := (RUN_eq _ _ _).trans (by kernel_rfl)
theorem round46a (s0 : List UInt8) (sep1 : List UInt8) (sepSave2 : Int) (n3 : Int) : C46a s0 sep1 sepSave2 n3 =
    cond (bif decide (0 ≤ mmInt false n3 (IntKind.wrap IntKind.i64 ((↑(List.length s0) : Int) + 1))) then bif decide (mmInt false n3 (IntKind.wrap IntKind.i64 ((↑(List.length s0) : Int) + 1)) ≤ mmInt false n3 (IntKind.wrap IntKind.i64 ((↑(List.length s0) : Int) + 1))) then (fun (_ : Unit) => decide (mmInt false n3 (IntKind.wrap IntKind.i64 ((↑(List.length s0) : Int) + 1)) ≤ (↑lim : Int))) () else false else false)
  (L46b s0 sep1 sepSave2 (IntKind.wrap IntKind.i64 (mmInt false n3 (IntKind.wrap IntKind.i64 ((↑(List.length s0) : Int) + 1)) - 1)) 0 (List.replicate (Int.toNat (mmInt false n3 (IntKind.wrap IntKind.i64 ((↑(List.length s0) : Int) + 1)))) (D.str [])))
  (none) := (PART_eq _ _ _ _ _ _).trans (by kernel_rfl)
theorem round46b (s0 : List UInt8) (sep1 : List UInt8) (sepSave2 : Int) (n3 : Int) (i10 : Int) (a9s : List D) : L46b s0 sep1 sepSave2 n3 i10 a9s =
    cond (decide (i10 < n3))
  (opt (RUN E 66 [D.str s0, D.str sep1]) fun ρ1 =>
    cond (decide (D.toInt (List.getD ρ1 0 D.no) < 0))
      (cond (inb i10 (List.length a9s))
        (cond (cutOk (List.length (List.set a9s (Int.toNat i10) (D.str s0))) none (some (IntKind.wrap IntKind.i64 (i10 + 1))))
          (some [D.list (cutL (List.set a9s (Int.toNat i10) (D.str s0)) none (some (IntKind.wrap IntKind.i64 (i10 + 1))))])
          (none))
        (none))
      (cond (cutOk (List.length s0) none (some (IntKind.wrap IntKind.i64 (D.toInt (List.getD ρ1 0 D.no) + sepSave2))))
        (cond (inb i10 (List.length a9s))
          (cond (cutOk (List.length s0) (some (IntKind.wrap IntKind.i64 (D.toInt (List.getD ρ1 0 D.no) + (↑(List.length sep1) : Int)))) none)
            (L46b (cutL s0 (some (IntKind.wrap IntKind.i64 (D.toInt (List.getD ρ1 0 D.no) + (↑(List.length sep1) : Int)))) none) sep1 sepSave2 n3 (IntKind.wrap IntKind.i64 (i10 + 1)) (List.set a9s (Int.toNat i10) (D.str (cutL s0 none (some (IntKind.wrap IntKind.i64 (D.toInt (List.getD ρ1 0 D.no) + sepSave2)))))))
            (none))
          (none))
        (none)))
  (cond (inb i10 (List.length a9s))
    (cond (cutOk (List.length (List.set a9s (Int.toNat i10) (D.str s0))) none (some (IntKind.wrap IntKind.i64 (i10 + 1))))
      (some [D.list (cutL (List.set a9s (Int.toNat i10) (D.str s0)) none (some (IntKind.wrap IntKind.i64 (i10 + 1))))])
      (none))
    (none)) := (LOOP_eq _ _ _ _ _ _).trans (by kernel_rfl)
/-! masthead/page.isSmall -/
theorem enter47 (c0 : Int) : RUN E 47 [D.int c0] =
    some [D.bool (bif decide (97 ≤ c0) then decide (c0 ≤ 122) else false)] := (RUN_eq _ _ _).trans (by kernel_rfl)
/-! masthead/page.isDigit -/
theorem enter48 (c0 : Int) : RUN E 48 [D.int c0] =
    some [D.bool (bif decide (48 ≤ c0) then decide (c0 ≤ 57) else false)] := (RUN_eq _ _ _).trans (by kernel_rfl)
/-! internal/bytealg.LastIndexByteString -/
def h49a (s0 : List UInt8) (c1 : Int) (i5 : Int) : St := mkSt 19 [(0, SV.val KT.str (D.str s0)), (1, SV.val (KT.int IntKind.u8) (D.int c1)), (5, SV.val (KT.int IntKind.i64) (D.int i5))] []
noncomputable def L49a (s0 : List UInt8) (c1 : Int) (i5 : Int) : R := LOOP E (RUN E) 49 Tryd.f49 [1, 0, 1, 0] (h49a s0 c1 i5)
theorem enter49 (s0 : List UInt8) (c1 : Int) : RUN E 49 [D.str s0, D.int c1] =
    L49a s0 c1 (IntKind.wrap IntKind.i64 ((↑(List.length s0) : Int) - 1)) := (RUN_eq _ _ _).trans (by kernel_rfl)
theorem round49a (s0 : List UInt8) (c1 : Int) (i5 : Int) : L49a s0 c1 i5 =
    cond (decide (0 ≤ i5))
  (cond (inb i5 (List.length s0))
    (cond (decide ((↑(UInt8.toNat (List.getD s0 (Int.toNat i5) 0)) : Int) = c1))
      (some [D.int i5])
      (L49a s0 c1 (IntKind.wrap IntKind.i64 (i5 - 1))))
    (none))
  (some [D.int (-1)]) := (LOOP_eq _ _ _ _ _ _).trans (by kernel_rfl)
/-! masthead/mastref1.wordByte -/
theorem enter51 (c0 : Int) : RUN E 51 [D.int c0] =
    opt (cond (bif bif decide (97 ≤ c0) then decide (c0 ≤ 122) else false then false else true)
    (RUN E 68 [D.int c0])
    (some [])) fun ρ0 =>
  some [D.bool (bif bif bif decide (97 ≤ c0) then decide (c0 ≤ 122) else false then true else D.toBool (List.getD ρ0 0 D.no) then true else decide (c0 = 95))] := (RUN_eq _ _ _).trans (by kernel_rfl)
/-! masthead/mastref1.isDigit -/
theorem enter68 (c0 : Int) : RUN E 68 [D.int c0] =
    some [D.bool (bif decide (48 ≤ c0) then decide (c0 ≤ 57) else false)] := (RUN_eq _ _ _).trans (by kernel_rfl)
end Go.Proofs.YtjofkhdnidjleabDoor.tg
