import Derived.Test.YtjofkhdnidjleabDoorDxQuotA
set_option linter.unusedVariables false
set_option linter.unusedSimpArgs false
namespace Go.Proofs.YtjofkhdnidjleabDoor.qt
open Go.Proofs.YtjofkhdnidjleabDoor.DS

/-! masthead/mastlaw1.TmplQuotes -/
theorem enter5 (v0 : D) : RUN E 5 [v0] =
    opt (RUN E 14 [v0]) fun ρ0 =>
  opt (RUN E 15 [v0, D.int 1]) fun ρ1 =>
    some [D.bool (bif decide (D.toStr (List.getD ρ0 0 D.no) = D.toStr (List.getD ρ1 0 D.no)) then decide (D.toInt (List.getD ρ0 1 D.no) = D.toInt (List.getD ρ1 1 D.no)) else false)] := (RUN_eq _ _ _).trans (by kernel_rfl)
/-! masthead/tmpl.Quote -/
theorem enter14 (v0 : D) : RUN E 14 [v0] =
    opt (RUN E 35 [D.list [], v0, D.int 0]) fun ρ0 =>
  cond (bif decide (D.toInt (List.getD ρ0 1 D.no) = 0) then false else true)
    (some [D.str (([] : List UInt8)), D.int (D.toInt (List.getD ρ0 1 D.no))])
    (some [D.str (dBytes (D.toList (List.getD ρ0 0 D.no))), D.int 0]) := (RUN_eq _ _ _).trans (by kernel_rfl)
/-! masthead/mastref1.Quoted -/
def h15a (depth1 : Int) (v2 : D) : St := mkSt 96 [(1, SV.val (KT.int IntKind.i64) (D.int depth1)), (2, SV.bptr 2 29 0 (KT.agg 29))] [(2, Obj.box 29 (BC.whole v2))]
noncomputable def C15a (depth1 : Int) (v2 : D) : R := PART E (RUN E) 15 Tryd.f15 [1, 1] (h15a depth1 v2)
def h15b (depth1 : Int) (v45 : List D) (v46 : Int) (v47 : Int) (parts8s : List D) (v2 : D) : St := mkSt 96 [(1, SV.val (KT.int IntKind.i64) (D.int depth1)), (2, SV.bptr 2 29 0 (KT.agg 29)), (8, SV.own 8), (45, SV.val (KT.slice 29) (D.list v45)), (46, SV.val (KT.int IntKind.i64) (D.int v46)), (47, SV.val (KT.int IntKind.i64) (D.int v47))] [(8, Obj.arr 9 parts8s), (2, Obj.box 29 (BC.whole v2))]
noncomputable def L15b (depth1 : Int) (v45 : List D) (v46 : Int) (v47 : Int) (parts8s : List D) (v2 : D) : R := LOOP E (RUN E) 15 Tryd.f15 [1, 1, 1, 1, 0, 1, 0] (h15b depth1 v45 v46 v47 parts8s v2)
theorem enter15 (v0 : D) (depth1 : Int) : RUN E 15 [v0, D.int depth1] =
    cond (decide (D.toInt (D.cell v0 0) = 0))
  (some [D.str (([110, 117, 108, 108] : List UInt8)), D.int 0])
  (cond (decide (D.toInt (D.cell v0 0) = 1))
    (cond (decide (D.toInt (D.cell v0 0) = 1))
      (opt (RUN E 36 [v0]) fun ρ3 =>
        some [D.str (D.toStr (List.getD ρ3 0 D.no)), D.int (D.toInt (List.getD ρ3 1 D.no))])
      (cond (decide (D.toInt (D.cell v0 0) = 3))
        (cond (decide (D.toInt (D.cell v0 0) = 3))
          (opt (RUN E 36 [v0]) fun ρ5 =>
            cond (bif decide (D.toInt (List.getD ρ5 1 D.no) = 0) then false else true)
              (some [D.str (([] : List UInt8)), D.int (D.toInt (List.getD ρ5 1 D.no))])
              (opt (RUN E 37 [D.str (D.toStr (List.getD ρ5 0 D.no))]) fun ρ7 =>
                some [D.str (D.toStr (List.getD ρ7 0 D.no)), D.int 0]))
          (cond (decide (D.toInt (D.cell v0 0) = 5))
            (cond (decide (D.toInt (D.cell v0 0) = 5))
              (C15a depth1 v0)
              (some [D.str (([] : List UInt8)), D.int 10]))
            (cond (decide (D.toInt (D.cell v0 0) = 6))
              (C15a depth1 v0)
              (some [D.str (([] : List UInt8)), D.int 10]))))
        (cond (decide (D.toInt (D.cell v0 0) = 7))
          (cond (decide (D.toInt (D.cell v0 0) = 7))
            (opt (RUN E 36 [v0]) fun ρ6 =>
              cond (bif decide (D.toInt (List.getD ρ6 1 D.no) = 0) then false else true)
                (some [D.str (([] : List UInt8)), D.int (D.toInt (List.getD ρ6 1 D.no))])
                (opt (RUN E 37 [D.str (D.toStr (List.getD ρ6 0 D.no))]) fun ρ8 =>
                  some [D.str (D.toStr (List.getD ρ8 0 D.no)), D.int 0]))
            (cond (decide (D.toInt (D.cell v0 0) = 5))
              (cond (decide (D.toInt (D.cell v0 0) = 5))
                (C15a depth1 v0)
                (some [D.str (([] : List UInt8)), D.int 10]))
              (cond (decide (D.toInt (D.cell v0 0) = 6))
                (C15a depth1 v0)
                (some [D.str (([] : List UInt8)), D.int 10]))))
          (cond (decide (D.toInt (D.cell v0 0) = 4))
            (opt (RUN E 36 [v0]) fun ρ6 =>
              cond (bif decide (D.toInt (List.getD ρ6 1 D.no) = 0) then false else true)
                (some [D.str (([] : List UInt8)), D.int (D.toInt (List.getD ρ6 1 D.no))])
                (opt (RUN E 37 [D.str (D.toStr (List.getD ρ6 0 D.no))]) fun ρ8 =>
                  some [D.str (D.toStr (List.getD ρ8 0 D.no)), D.int 0]))
            (cond (decide (D.toInt (D.cell v0 0) = 5))
              (cond (decide (D.toInt (D.cell v0 0) = 5))
                (C15a depth1 v0)
                (some [D.str (([] : List UInt8)), D.int 10]))
              (cond (decide (D.toInt (D.cell v0 0) = 6))
                (C15a depth1 v0)
                (some [D.str (([] : List UInt8)), D.int 10])))))))
    (cond (decide (D.toInt (D.cell v0 0) = 2))
      (opt (RUN E 36 [v0]) fun ρ3 =>
        some [D.str (D.toStr (List.getD ρ3 0 D.no)), D.int (D.toInt (List.getD ρ3 1 D.no))])
      (cond (decide (D.toInt (D.cell v0 0) = 3))
        (cond (decide (D.toInt (D.cell v0 0) = 3))
          (opt (RUN E 36 [v0]) fun ρ5 =>
            cond (bif decide (D.toInt (List.getD ρ5 1 D.no) = 0) then false else true)
              (some [D.str (([] : List UInt8)), D.int (D.toInt (List.getD ρ5 1 D.no))])
              (opt (RUN E 37 [D.str (D.toStr (List.getD ρ5 0 D.no))]) fun ρ7 =>
                some [D.str (D.toStr (List.getD ρ7 0 D.no)), D.int 0]))
          (cond (decide (D.toInt (D.cell v0 0) = 5))
            (cond (decide (D.toInt (D.cell v0 0) = 5))
              (C15a depth1 v0)
              (some [D.str (([] : List UInt8)), D.int 10]))
            (cond (decide (D.toInt (D.cell v0 0) = 6))
              (C15a depth1 v0)
              (some [D.str (([] : List UInt8)), D.int 10]))))
        (cond (decide (D.toInt (D.cell v0 0) = 7))
          (cond (decide (D.toInt (D.cell v0 0) = 7))
            (opt (RUN E 36 [v0]) fun ρ6 =>
              cond (bif decide (D.toInt (List.getD ρ6 1 D.no) = 0) then false else true)
                (some [D.str (([] : List UInt8)), D.int (D.toInt (List.getD ρ6 1 D.no))])
                (opt (RUN E 37 [D.str (D.toStr (List.getD ρ6 0 D.no))]) fun ρ8 =>
                  some [D.str (D.toStr (List.getD ρ8 0 D.no)), D.int 0]))
            (cond (decide (D.toInt (D.cell v0 0) = 5))
              (cond (decide (D.toInt (D.cell v0 0) = 5))
                (C15a depth1 v0)
                (some [D.str (([] : List UInt8)), D.int 10]))
              (cond (decide (D.toInt (D.cell v0 0) = 6))
                (C15a depth1 v0)
                (some [D.str (([] : List UInt8)), D.int 10]))))
          (cond (decide (D.toInt (D.cell v0 0) = 4))
            (opt (RUN E 36 [v0]) fun ρ6 =>
              cond (bif decide (D.toInt (List.getD ρ6 1 D.no) = 0) then false else true)
                (some [D.str (([] : List UInt8)), D.int (D.toInt (List.getD ρ6 1 D.no))])
                (opt (RUN E 37 [D.str (D.toStr (List.getD ρ6 0 D.no))]) fun ρ8 =>
                  some [D.str (D.toStr (List.getD ρ8 0 D.no)), D.int 0]))
            (cond (decide (D.toInt (D.cell v0 0) = 5))
              (cond (decide (D.toInt (D.cell v0 0) = 5))
                (C15a depth1 v0)
                (some [D.str (([] : List UInt8)), D.int 10]))
              (cond (decide (D.toInt (D.cell v0 0) = 6))
                (C15a depth1 v0)
                (some [D.str (([] : List UInt8)), D.int 10])))))))) := (RUN_eq _ _ _).trans (by kernel_rfl)
theorem round15a (depth1 : Int) (v2 : D) : C15a depth1 v2 =
    cond (decide (12 < depth1))
  (some [D.str (([] : List UInt8)), D.int 13])
  (L15b depth1 (D.toList (D.cell v2 4)) ((↑(List.length (D.toList (D.cell v2 4))) : Int)) 0 [] v2) := (PART_eq _ _ _ _ _ _).trans (by kernel_rfl)
theorem round15b (depth1 : Int) (v45 : List D) (v46 : Int) (v47 : Int) (parts8s : List D) (v2 : D) : L15b depth1 v45 v46 v47 parts8s v2 =
    cond (decide (v47 < v46))
  (cond (inb v47 (List.length v45))
    (opt (RUN E 15 [List.getD v45 (Int.toNat v47) D.no, D.int (IntKind.wrap IntKind.i64 (depth1 + 1))]) fun ρ2 =>
      cond (bif decide (D.toInt (List.getD ρ2 1 D.no) = 0) then false else true)
        (some [D.str (([] : List UInt8)), D.int (D.toInt (List.getD ρ2 1 D.no))])
        (cond (decide (D.toInt (D.cell v2 0) = 6))
          (cond (decide (v47 < (↑(List.length (D.toList (D.cell v2 5))) : Int)))
            (cond (inb v47 (List.length (D.toList (D.cell v2 5))))
              (opt (RUN E 37 [D.str (D.toStr (List.getD (D.toList (D.cell v2 5)) (Int.toNat v47) D.no))]) fun ρ7 =>
                cond (decide (List.length (D.toStr (List.getD ρ7 0 D.no)) + List.length (([58] : List UInt8)) ≤ lim))
                  (cond (decide (List.length (D.toStr (List.getD ρ7 0 D.no) ++ ([58] : List UInt8)) + List.length (D.toStr (List.getD ρ2 0 D.no)) ≤ lim))
                    (cond (fitL (List.length parts8s) (List.length [D.str (D.toStr (List.getD ρ7 0 D.no) ++ ([58] : List UInt8) ++ D.toStr (List.getD ρ2 0 D.no))]))
                      (L15b depth1 v45 v46 (IntKind.wrap IntKind.i64 (v47 + 1)) (parts8s ++ [D.str (D.toStr (List.getD ρ7 0 D.no) ++ ([58] : List UInt8) ++ D.toStr (List.getD ρ2 0 D.no))]) v2)
                      (none))
                    (none))
                  (none))
              (none))
            (opt (RUN E 37 [D.str (([] : List UInt8))]) fun ρ6 =>
              cond (decide (List.length (D.toStr (List.getD ρ6 0 D.no)) + List.length (([58] : List UInt8)) ≤ lim))
                (cond (decide (List.length (D.toStr (List.getD ρ6 0 D.no) ++ ([58] : List UInt8)) + List.length (D.toStr (List.getD ρ2 0 D.no)) ≤ lim))
                  (cond (fitL (List.length parts8s) (List.length [D.str (D.toStr (List.getD ρ6 0 D.no) ++ ([58] : List UInt8) ++ D.toStr (List.getD ρ2 0 D.no))]))
                    (L15b depth1 v45 v46 (IntKind.wrap IntKind.i64 (v47 + 1)) (parts8s ++ [D.str (D.toStr (List.getD ρ6 0 D.no) ++ ([58] : List UInt8) ++ D.toStr (List.getD ρ2 0 D.no))]) v2)
                    (none))
                  (none))
                (none)))
          (cond (fitL (List.length parts8s) (List.length [D.str (D.toStr (List.getD ρ2 0 D.no))]))
            (L15b depth1 v45 v46 (IntKind.wrap IntKind.i64 (v47 + 1)) (parts8s ++ [D.str (D.toStr (List.getD ρ2 0 D.no))]) v2)
            (none))))
    (none))
  (cond (decide (D.toInt (D.cell v2 0) = 6))
    (opt (RUN E 38 [D.list parts8s, D.str (([44] : List UInt8))]) fun ρ2 =>
      cond (decide (List.length (([123] : List UInt8)) + List.length (D.toStr (List.getD ρ2 0 D.no)) ≤ lim))
        (cond (decide (List.length (([123] : List UInt8) ++ D.toStr (List.getD ρ2 0 D.no)) + List.length (([125] : List UInt8)) ≤ lim))
          (some [D.str (([123] : List UInt8) ++ D.toStr (List.getD ρ2 0 D.no) ++ ([125] : List UInt8)), D.int 0])
          (none))
        (none))
    (opt (RUN E 38 [D.list parts8s, D.str (([44] : List UInt8))]) fun ρ2 =>
      cond (decide (List.length (([91] : List UInt8)) + List.length (D.toStr (List.getD ρ2 0 D.no)) ≤ lim))
        (cond (decide (List.length (([91] : List UInt8) ++ D.toStr (List.getD ρ2 0 D.no)) + List.length (([93] : List UInt8)) ≤ lim))
          (some [D.str (([91] : List UInt8) ++ D.toStr (List.getD ρ2 0 D.no) ++ ([93] : List UInt8)), D.int 0])
          (none))
        (none))) := (LOOP_eq _ _ _ _ _ _).trans (by kernel_rfl)
/-! masthead/tmpl.quoted -/
def h35a (deep2 : Int) (out0s : List D) (v4 : D) : St := mkSt 111 [(0, SV.own 0), (2, SV.val (KT.int IntKind.i64) (D.int deep2)), (4, SV.bptr 4 29 0 (KT.agg 29))] [(0, Obj.arr 5 out0s), (4, Obj.box 29 (BC.whole v4))]
noncomputable def C35a (deep2 : Int) (out0s : List D) (v4 : D) : R := PART E (RUN E) 35 Tryd.f35 [1, 1] (h35a deep2 out0s v4)
def h35b (deep2 : Int) (signs12 : List UInt8) (out0s : List D) (v4 : D) : St := mkSt 111 [(0, SV.own 0), (2, SV.val (KT.int IntKind.i64) (D.int deep2)), (4, SV.bptr 4 29 0 (KT.agg 29)), (12, SV.val KT.str (D.str signs12))] [(0, Obj.arr 5 out0s), (4, Obj.box 29 (BC.whole v4))]
noncomputable def C35b (deep2 : Int) (signs12 : List UInt8) (out0s : List D) (v4 : D) : R := PART E (RUN E) 35 Tryd.f35 [1, 1, 1, 1, 1] (h35b deep2 signs12 out0s v4)
def h35c (deep2 : Int) (signs12 : List UInt8) (v63 : List D) (v64 : Int) (v65 : Int) (out0s : List D) (v4 : D) : St := mkSt 111 [(0, SV.own 0), (2, SV.val (KT.int IntKind.i64) (D.int deep2)), (4, SV.bptr 4 29 0 (KT.agg 29)), (12, SV.val KT.str (D.str signs12)), (63, SV.val (KT.slice 29) (D.list v63)), (64, SV.val (KT.int IntKind.i64) (D.int v64)), (65, SV.val (KT.int IntKind.i64) (D.int v65))] [(0, Obj.arr 5 out0s), (4, Obj.box 29 (BC.whole v4))]
noncomputable def L35c (deep2 : Int) (signs12 : List UInt8) (v63 : List D) (v64 : Int) (v65 : Int) (out0s : List D) (v4 : D) : R := LOOP E (RUN E) 35 Tryd.f35 [1, 1, 1, 1, 1, 1, 0, 1, 0] (h35c deep2 signs12 v63 v64 v65 out0s v4)
def h35d (deep2 : Int) (signs12 : List UInt8) (i13 : Int) (v63 : List D) (v64 : Int) (v65 : Int) (out0s : List D) (v4 : D) (x14 : D) : St := mkSt 111 [(0, SV.own 0), (2, SV.val (KT.int IntKind.i64) (D.int deep2)), (4, SV.bptr 4 29 0 (KT.agg 29)), (12, SV.val KT.str (D.str signs12)), (13, SV.val (KT.int IntKind.i64) (D.int i13)), (14, SV.bptr 14 29 0 (KT.agg 29)), (63, SV.val (KT.slice 29) (D.list v63)), (64, SV.val (KT.int IntKind.i64) (D.int v64)), (65, SV.val (KT.int IntKind.i64) (D.int v65))] [(0, Obj.arr 5 out0s), (4, Obj.box 29 (BC.whole v4)), (14, Obj.box 29 (BC.whole x14))]
noncomputable def C35d (deep2 : Int) (signs12 : List UInt8) (i13 : Int) (v63 : List D) (v64 : Int) (v65 : Int) (out0s : List D) (v4 : D) (x14 : D) : R := PART E (RUN E) 35 Tryd.f35 [1, 1, 1, 1, 1, 1, 0, 1, 0, 0, 1, 1, 0, 0, 1, 1] (h35d deep2 signs12 i13 v63 v64 v65 out0s v4 x14)
def h35e (deep2 : Int) (signs12 : List UInt8) (v63 : List D) (v64 : Int) (v65 : Int) (out0s : List D) (v4 : D) (x14 : D) : St := mkSt 111 [(0, SV.own 0), (2, SV.val (KT.int IntKind.i64) (D.int deep2)), (4, SV.bptr 4 29 0 (KT.agg 29)), (12, SV.val KT.str (D.str signs12)), (14, SV.bptr 14 29 0 (KT.agg 29)), (63, SV.val (KT.slice 29) (D.list v63)), (64, SV.val (KT.int IntKind.i64) (D.int v64)), (65, SV.val (KT.int IntKind.i64) (D.int v65))] [(0, Obj.arr 5 out0s), (4, Obj.box 29 (BC.whole v4)), (14, Obj.box 29 (BC.whole x14))]
noncomputable def C35e (deep2 : Int) (signs12 : List UInt8) (v63 : List D) (v64 : Int) (v65 : Int) (out0s : List D) (v4 : D) (x14 : D) : R := PART E (RUN E) 35 Tryd.f35 [1, 1, 1, 1, 1, 1, 0, 1, 0, 0, 1, 1, 0, 0, 1, 1, 1] (h35e deep2 signs12 v63 v64 v65 out0s v4 x14)
theorem enter35 (out0 : List D) (v1 : D) (deep2 : Int) : RUN E 35 [D.list out0, v1, D.int deep2] =
    cond (decide (D.toInt (D.cell v1 0) = 0))
  (cond (fitL (List.length out0) (List.length (bytesD (([110, 117, 108, 108] : List UInt8)))))
    (some [D.list (out0 ++ bytesD (([110, 117, 108, 108] : List UInt8))), D.int 0])
    (none))
  (cond (decide (D.toInt (D.cell v1 0) = 1))
    (cond (decide (D.toInt (D.cell v1 0) = 1))
      (opt (RUN E 52 [v1]) fun ρ3 =>
        cond (fitL (List.length out0) (List.length (bytesD (D.toStr (List.getD ρ3 0 D.no)))))
          (some [D.list (out0 ++ bytesD (D.toStr (List.getD ρ3 0 D.no))), D.int 0])
          (none))
      (cond (decide (D.toInt (D.cell v1 0) = 3))
        (cond (decide (D.toInt (D.cell v1 0) = 3))
          (opt (RUN E 52 [v1]) fun ρ5 =>
            opt (RUN E 53 [D.list out0, D.str (D.toStr (List.getD ρ5 0 D.no))]) fun ρ6 =>
              some [D.list (D.toList (List.getD ρ6 0 D.no)), D.int (D.toInt (List.getD ρ5 1 D.no))])
          (cond (decide (D.toInt (D.cell v1 0) = 5))
            (cond (decide (D.toInt (D.cell v1 0) = 5))
              (C35a deep2 out0 v1)
              (some [D.list out0, D.int 10]))
            (cond (decide (D.toInt (D.cell v1 0) = 6))
              (C35a deep2 out0 v1)
              (some [D.list out0, D.int 10]))))
        (cond (decide (D.toInt (D.cell v1 0) = 7))
          (cond (decide (D.toInt (D.cell v1 0) = 7))
            (opt (RUN E 52 [v1]) fun ρ6 =>
              opt (RUN E 53 [D.list out0, D.str (D.toStr (List.getD ρ6 0 D.no))]) fun ρ7 =>
                some [D.list (D.toList (List.getD ρ7 0 D.no)), D.int (D.toInt (List.getD ρ6 1 D.no))])
            (cond (decide (D.toInt (D.cell v1 0) = 5))
              (cond (decide (D.toInt (D.cell v1 0) = 5))
                (C35a deep2 out0 v1)
                (some [D.list out0, D.int 10]))
              (cond (decide (D.toInt (D.cell v1 0) = 6))
                (C35a deep2 out0 v1)
                (some [D.list out0, D.int 10]))))
          (cond (decide (D.toInt (D.cell v1 0) = 4))
            (opt (RUN E 52 [v1]) fun ρ6 =>
              opt (RUN E 53 [D.list out0, D.str (D.toStr (List.getD ρ6 0 D.no))]) fun ρ7 =>
                some [D.list (D.toList (List.getD ρ7 0 D.no)), D.int (D.toInt (List.getD ρ6 1 D.no))])
            (cond (decide (D.toInt (D.cell v1 0) = 5))
              (cond (decide (D.toInt (D.cell v1 0) = 5))
                (C35a deep2 out0 v1)
                (some [D.list out0, D.int 10]))
              (cond (decide (D.toInt (D.cell v1 0) = 6))
                (C35a deep2 out0 v1)
                (some [D.list out0, D.int 10])))))))
    (cond (decide (D.toInt (D.cell v1 0) = 2))
      (opt (RUN E 52 [v1]) fun ρ3 =>
        cond (fitL (List.length out0) (List.length (bytesD (D.toStr (List.getD ρ3 0 D.no)))))
          (some [D.list (out0 ++ bytesD (D.toStr (List.getD ρ3 0 D.no))), D.int 0])
          (none))
      (cond (decide (D.toInt (D.cell v1 0) = 3))
        (cond (decide (D.toInt (D.cell v1 0) = 3))
          (opt (RUN E 52 [v1]) fun ρ5 =>
            opt (RUN E 53 [D.list out0, D.str (D.toStr (List.getD ρ5 0 D.no))]) fun ρ6 =>
              some [D.list (D.toList (List.getD ρ6 0 D.no)), D.int (D.toInt (List.getD ρ5 1 D.no))])
          (cond (decide (D.toInt (D.cell v1 0) = 5))
            (cond (decide (D.toInt (D.cell v1 0) = 5))
              (C35a deep2 out0 v1)
              (some [D.list out0, D.int 10]))
            (cond (decide (D.toInt (D.cell v1 0) = 6))
              (C35a deep2 out0 v1)
              (some [D.list out0, D.int 10]))))
        (cond (decide (D.toInt (D.cell v1 0) = 7))
          (cond (decide (D.toInt (D.cell v1 0) = 7))
            (opt (RUN E 52 [v1]) fun ρ6 =>
              opt (RUN E 53 [D.list out0, D.str (D.toStr (List.getD ρ6 0 D.no))]) fun ρ7 =>
                some [D.list (D.toList (List.getD ρ7 0 D.no)), D.int (D.toInt (List.getD ρ6 1 D.no))])
            (cond (decide (D.toInt (D.cell v1 0) = 5))
              (cond (decide (D.toInt (D.cell v1 0) = 5))
                (C35a deep2 out0 v1)
                (some [D.list out0, D.int 10]))
              (cond (decide (D.toInt (D.cell v1 0) = 6))
                (C35a deep2 out0 v1)
                (some [D.list out0, D.int 10]))))
          (cond (decide (D.toInt (D.cell v1 0) = 4))
            (opt (RUN E 52 [v1]) fun ρ6 =>
              opt (RUN E 53 [D.list out0, D.str (D.toStr (List.getD ρ6 0 D.no))]) fun ρ7 =>
                some [D.list (D.toList (List.getD ρ7 0 D.no)), D.int (D.toInt (List.getD ρ6 1 D.no))])
            (cond (decide (D.toInt (D.cell v1 0) = 5))
              (cond (decide (D.toInt (D.cell v1 0) = 5))
                (C35a deep2 out0 v1)
                (some [D.list out0, D.int 10]))
              (cond (decide (D.toInt (D.cell v1 0) = 6))
                (C35a deep2 out0 v1)
                (some [D.list out0, D.int 10])))))))) := (RUN_eq _ _ _).trans (by kernel_rfl)
theorem round35a (deep2 : Int) (out0s : List D) (v4 : D) : C35a deep2 out0s v4 =
    cond (decide (deep2 = 12))
  (some [D.list out0s, D.int 13])
  (cond (decide (D.toInt (D.cell v4 0) = 6))
    (C35b deep2 (([123, 125] : List UInt8)) out0s v4)
    (C35b deep2 (([91, 93] : List UInt8)) out0s v4)) := (PART_eq _ _ _ _ _ _).trans (by kernel_rfl)
theorem round35b (deep2 : Int) (signs12 : List UInt8) (out0s : List D) (v4 : D) : C35b deep2 signs12 out0s v4 =
    cond (inb 0 (List.length signs12))
  (cond (fitL (List.length out0s) (List.length [D.int (↑(UInt8.toNat (List.getD signs12 0 0)) : Int)]))
    (L35c deep2 signs12 (D.toList (D.cell v4 4)) ((↑(List.length (D.toList (D.cell v4 4))) : Int)) 0 (out0s ++ [D.int (↑(UInt8.toNat (List.getD signs12 0 0)) : Int)]) v4)
    (none))
  (none) := (PART_eq _ _ _ _ _ _).trans (by kernel_rfl)
theorem round35c (deep2 : Int) (signs12 : List UInt8) (v63 : List D) (v64 : Int) (v65 : Int) (out0s : List D) (v4 : D) : L35c deep2 signs12 v63 v64 v65 out0s v4 =
    cond (decide (v65 < v64))
  (cond (inb v65 (List.length v63))
    (cond (decide (0 < v65))
      (cond (fitL (List.length out0s) (List.length [D.int 44]))
        (C35d deep2 signs12 v65 v63 v64 v65 (out0s ++ [D.int 44]) v4 (List.getD v63 (Int.toNat v65) D.no))
        (none))
      (C35d deep2 signs12 v65 v63 v64 v65 out0s v4 (List.getD v63 (Int.toNat v65) D.no)))
    (none))
  (cond (inb 1 (List.length signs12))
    (cond (fitL (List.length out0s) (List.length [D.int (↑(UInt8.toNat (List.getD signs12 1 0)) : Int)]))
      (some [D.list (out0s ++ [D.int (↑(UInt8.toNat (List.getD signs12 1 0)) : Int)]), D.int 0])
      (none))
    (none)) := (LOOP_eq _ _ _ _ _ _).trans (by kernel_rfl)
theorem round35d (deep2 : Int) (signs12 : List UInt8) (i13 : Int) (v63 : List D) (v64 : Int) (v65 : Int) (out0s : List D) (v4 : D) (x14 : D) : C35d deep2 signs12 i13 v63 v64 v65 out0s v4 x14 =
    cond (decide (D.toInt (D.cell v4 0) = 6))
  (cond (decide (i13 < (↑(List.length (D.toList (D.cell v4 5))) : Int)))
    (cond (inb i13 (List.length (D.toList (D.cell v4 5))))
      (opt (RUN E 53 [D.list out0s, D.str (D.toStr (List.getD (D.toList (D.cell v4 5)) (Int.toNat i13) D.no))]) fun ρ3 =>
        cond (fitL (List.length (D.toList (List.getD ρ3 0 D.no))) (List.length [D.int 58]))
          (C35e deep2 signs12 v63 v64 v65 (D.toList (List.getD ρ3 0 D.no) ++ [D.int 58]) v4 x14)
          (none))
      (none))
    (opt (RUN E 53 [D.list out0s, D.str (([] : List UInt8))]) fun ρ2 =>
      cond (fitL (List.length (D.toList (List.getD ρ2 0 D.no))) (List.length [D.int 58]))
        (C35e deep2 signs12 v63 v64 v65 (D.toList (List.getD ρ2 0 D.no) ++ [D.int 58]) v4 x14)
        (none)))
  (C35e deep2 signs12 v63 v64 v65 out0s v4 x14) := (PART_eq _ _ _ _ _ _).trans (by kernel_rfl)
theorem round35e (deep2 : Int) (signs12 : List UInt8) (v63 : List D) (v64 : Int) (v65 : Int) (out0s : List D) (v4 : D) (x14 : D) : C35e deep2 signs12 v63 v64 v65 out0s v4 x14 =
    opt (RUN E 35 [D.list out0s, x14, D.int (IntKind.wrap IntKind.i64 (deep2 + 1))]) fun ρ0 =>
  cond (bif decide (D.toInt (List.getD ρ0 1 D.no) = 0) then false else true)
    (some [D.list (D.toList (List.getD ρ0 0 D.no)), D.int (D.toInt (List.getD ρ0 1 D.no))])
    (L35c deep2 signs12 v63 v64 (IntKind.wrap IntKind.i64 (v65 + 1)) (D.toList (List.getD ρ0 0 D.no)) v4) := (PART_eq _ _ _ _ _ _).trans (by kernel_rfl)
/-! masthead/mastref1.Shown -/
theorem enter36 (v0 : D) : RUN E 36 [v0] =
    cond (decide (D.toInt (D.cell v0 0) = 0))
  (some [D.str (([] : List UInt8)), D.int 0])
  (cond (decide (D.toInt (D.cell v0 0) = 1))
    (opt (RUN E 54 [D.bool (D.toBool (D.cell v0 1))]) fun ρ2 =>
      some [D.str (D.toStr (List.getD ρ2 0 D.no)), D.int 0])
    (cond (decide (D.toInt (D.cell v0 0) = 2))
      (opt (RUN E 55 [D.int (D.toInt (D.cell v0 2))]) fun ρ3 =>
        some [D.str (D.toStr (List.getD ρ3 0 D.no)), D.int 0])
      (cond (decide (D.toInt (D.cell v0 0) = 3))
        (cond (decide (D.toInt (D.cell v0 0) = 3))
          (some [D.str (D.toStr (D.cell v0 3)), D.int 0])
          (cond (decide (D.toInt (D.cell v0 0) = 4))
            (opt (RUN E 56 [D.int (D.toInt (D.cell v0 2)), D.int 84005]) fun ρ6 =>
              cond (bif D.toBool (List.getD ρ6 0 D.no) then false else true)
                (some [D.str (([] : List UInt8)), D.int 2])
                (opt (RUN E 57 [D.int (D.toInt (D.cell v0 2))]) fun ρ8 =>
                  some [D.str (D.toStr (List.getD ρ8 0 D.no)), D.int 0]))
            (some [D.str (([] : List UInt8)), D.int 10])))
        (cond (decide (D.toInt (D.cell v0 0) = 7))
          (some [D.str (D.toStr (D.cell v0 3)), D.int 0])
          (cond (decide (D.toInt (D.cell v0 0) = 4))
            (opt (RUN E 56 [D.int (D.toInt (D.cell v0 2)), D.int 84005]) fun ρ6 =>
              cond (bif D.toBool (List.getD ρ6 0 D.no) then false else true)
                (some [D.str (([] : List UInt8)), D.int 2])
                (opt (RUN E 57 [D.int (D.toInt (D.cell v0 2))]) fun ρ8 =>
                  some [D.str (D.toStr (List.getD ρ8 0 D.no)), D.int 0]))
            (some [D.str (([] : List UInt8)), D.int 10])))))) := (RUN_eq _ _ _).trans (by kernel_rfl)
/-! masthead/mastref1.quoteString -/
def h37a (s0 : List UInt8) (out3 : List UInt8) (i4 : Int) : St := mkSt 63 [(0, SV.val KT.str (D.str s0)), (3, SV.val KT.str (D.str out3)), (4, SV.val (KT.int IntKind.i64) (D.int i4))] []
noncomputable def L37a (s0 : List UInt8) (out3 : List UInt8) (i4 : Int) : R := LOOP E (RUN E) 37 Tryd.f37 [1, 1, 0, 1, 0] (h37a s0 out3 i4)
theorem enter37 (s0 : List UInt8) : RUN E 37 [D.str s0] =
    L37a s0 (([34] : List UInt8)) 0 := (RUN_eq _ _ _).trans (by kernel_rfl)
theorem round37a (s0 : List UInt8) (out3 : List UInt8) (i4 : Int) : L37a s0 out3 i4 =
    cond (decide (i4 < (↑(List.length s0) : Int)))
  (cond (inb i4 (List.length s0))
    (cond (bif decide ((↑(UInt8.toNat (List.getD s0 (Int.toNat i4) 0)) : Int) = 34) then true else decide ((↑(UInt8.toNat (List.getD s0 (Int.toNat i4) 0)) : Int) = 92))
      (cond (cutOk (List.length s0) (some i4) (some (IntKind.wrap IntKind.i64 (i4 + 1))))
        (cond (decide (List.length (([92] : List UInt8)) + List.length (cutL s0 (some i4) (some (IntKind.wrap IntKind.i64 (i4 + 1)))) ≤ lim))
          (cond (decide (List.length out3 + List.length (([92] : List UInt8) ++ cutL s0 (some i4) (some (IntKind.wrap IntKind.i64 (i4 + 1)))) ≤ lim))
            (L37a s0 (out3 ++ (([92] : List UInt8) ++ cutL s0 (some i4) (some (IntKind.wrap IntKind.i64 (i4 + 1))))) (IntKind.wrap IntKind.i64 (i4 + 1)))
            (none))
          (none))
        (none))
      (opt (cond (bif decide ((↑(UInt8.toNat (List.getD s0 (Int.toNat i4) 0)) : Int) < 32) then false else true)
          (RUN E 39 [D.str (([60, 62, 38, 39] : List UInt8)), D.int (↑(UInt8.toNat (List.getD s0 (Int.toNat i4) 0)) : Int)])
          (some [])) fun ρ3 =>
        cond (bif decide ((↑(UInt8.toNat (List.getD s0 (Int.toNat i4) 0)) : Int) < 32) then true else decide (0 ≤ D.toInt (List.getD ρ3 0 D.no)))
          (cond (cutOk (List.length (([48, 49, 50, 51, 52, 53, 54, 55, 56, 57, 97, 98, 99, 100, 101, 102] : List UInt8))) (some (IntKind.wrap IntKind.u8 (Int.tdiv (↑(UInt8.toNat (List.getD s0 (Int.toNat i4) 0)) : Int) 16))) (some (IntKind.wrap IntKind.u8 (IntKind.wrap IntKind.u8 (Int.tdiv (↑(UInt8.toNat (List.getD s0 (Int.toNat i4) 0)) : Int) 16) + 1))))
            (cond (decide (List.length (([92, 117, 48, 48] : List UInt8)) + List.length (cutL (([48, 49, 50, 51, 52, 53, 54, 55, 56, 57, 97, 98, 99, 100, 101, 102] : List UInt8)) (some (IntKind.wrap IntKind.u8 (Int.tdiv (↑(UInt8.toNat (List.getD s0 (Int.toNat i4) 0)) : Int) 16))) (some (IntKind.wrap IntKind.u8 (IntKind.wrap IntKind.u8 (Int.tdiv (↑(UInt8.toNat (List.getD s0 (Int.toNat i4) 0)) : Int) 16) + 1)))) ≤ lim))
              (cond (cutOk (List.length (([48, 49, 50, 51, 52, 53, 54, 55, 56, 57, 97, 98, 99, 100, 101, 102] : List UInt8))) (some (Int.tmod (↑(UInt8.toNat (List.getD s0 (Int.toNat i4) 0)) : Int) 16)) (some (IntKind.wrap IntKind.u8 (Int.tmod (↑(UInt8.toNat (List.getD s0 (Int.toNat i4) 0)) : Int) 16 + 1))))
                (cond (decide (List.length (([92, 117, 48, 48] : List UInt8) ++ cutL (([48, 49, 50, 51, 52, 53, 54, 55, 56, 57, 97, 98, 99, 100, 101, 102] : List UInt8)) (some (IntKind.wrap IntKind.u8 (Int.tdiv (↑(UInt8.toNat (List.getD s0 (Int.toNat i4) 0)) : Int) 16))) (some (IntKind.wrap IntKind.u8 (IntKind.wrap IntKind.u8 (Int.tdiv (↑(UInt8.toNat (List.getD s0 (Int.toNat i4) 0)) : Int) 16) + 1)))) + List.length (cutL (([48, 49, 50, 51, 52, 53, 54, 55, 56, 57, 97, 98, 99, 100, 101, 102] : List UInt8)) (some (Int.tmod (↑(UInt8.toNat (List.getD s0 (Int.toNat i4) 0)) : Int) 16)) (some (IntKind.wrap IntKind.u8 (Int.tmod (↑(UInt8.toNat (List.getD s0 (Int.toNat i4) 0)) : Int) 16 + 1)))) ≤ lim))
                  (cond (decide (List.length out3 + List.length (([92, 117, 48, 48] : List UInt8) ++ cutL (([48, 49, 50, 51, 52, 53, 54, 55, 56, 57, 97, 98, 99, 100, 101, 102] : List UInt8)) (some (IntKind.wrap IntKind.u8 (Int.tdiv (↑(UInt8.toNat (List.getD s0 (Int.toNat i4) 0)) : Int) 16))) (some (IntKind.wrap IntKind.u8 (IntKind.wrap IntKind.u8 (Int.tdiv (↑(UInt8.toNat (List.getD s0 (Int.toNat i4) 0)) : Int) 16) + 1))) ++ cutL (([48, 49, 50, 51, 52, 53, 54, 55, 56, 57, 97, 98, 99, 100, 101, 102] : List UInt8)) (some (Int.tmod (↑(UInt8.toNat (List.getD s0 (Int.toNat i4) 0)) : Int) 16)) (some (IntKind.wrap IntKind.u8 (Int.tmod (↑(UInt8.toNat (List.getD s0 (Int.toNat i4) 0)) : Int) 16 + 1)))) ≤ lim))
                    (L37a s0 (out3 ++ (([92, 117, 48, 48] : List UInt8) ++ cutL (([48, 49, 50, 51, 52, 53, 54, 55, 56, 57, 97, 98, 99, 100, 101, 102] : List UInt8)) (some (IntKind.wrap IntKind.u8 (Int.tdiv (↑(UInt8.toNat (List.getD s0 (Int.toNat i4) 0)) : Int) 16))) (some (IntKind.wrap IntKind.u8 (IntKind.wrap IntKind.u8 (Int.tdiv (↑(UInt8.toNat (List.getD s0 (Int.toNat i4) 0)) : Int) 16) + 1))) ++ cutL (([48, 49, 50, 51, 52, 53, 54, 55, 56, 57, 97, 98, 99, 100, 101, 102] : List UInt8)) (some (Int.tmod (↑(UInt8.toNat (List.getD s0 (Int.toNat i4) 0)) : Int) 16)) (some (IntKind.wrap IntKind.u8 (Int.tmod (↑(UInt8.toNat (List.getD s0 (Int.toNat i4) 0)) : Int) 16 + 1))))) (IntKind.wrap IntKind.i64 (i4 + 1)))
                    (none))
                  (none))
                (none))
              (none))
            (none))
          (cond (cutOk (List.length s0) (some i4) (some (IntKind.wrap IntKind.i64 (i4 + 1))))
            (cond (decide (List.length out3 + List.length (cutL s0 (some i4) (some (IntKind.wrap IntKind.i64 (i4 + 1)))) ≤ lim))
              (L37a s0 (out3 ++ cutL s0 (some i4) (some (IntKind.wrap IntKind.i64 (i4 + 1)))) (IntKind.wrap IntKind.i64 (i4 + 1)))
              (none))
            (none))))
    (none))
  (cond (decide (List.length out3 + List.length (([34] : List UInt8)) ≤ lim))
    (some [D.str (out3 ++ ([34] : List UInt8))])
    (none)) := (LOOP_eq _ _ _ _ _ _).trans (by kernel_rfl)
/-! masthead/tmpl.Show -/
theorem enter52 (v0 : D) : RUN E 52 [v0] =
    cond (decide (D.toInt (D.cell v0 0) = 0))
  (some [D.str (([] : List UInt8)), D.int 0])
  (cond (decide (D.toInt (D.cell v0 0) = 1))
    (opt (RUN E 69 [D.bool (D.toBool (D.cell v0 1))]) fun ρ2 =>
      some [D.str (D.toStr (List.getD ρ2 0 D.no)), D.int 0])
    (cond (decide (D.toInt (D.cell v0 0) = 2))
      (opt (RUN E 55 [D.int (D.toInt (D.cell v0 2))]) fun ρ3 =>
        some [D.str (D.toStr (List.getD ρ3 0 D.no)), D.int 0])
      (cond (decide (D.toInt (D.cell v0 0) = 3))
        (cond (decide (D.toInt (D.cell v0 0) = 3))
          (some [D.str (D.toStr (D.cell v0 3)), D.int 0])
          (cond (decide (D.toInt (D.cell v0 0) = 4))
            (cond (bif decide (D.toInt (D.cell v0 2) < 0) then true else decide (84005 < D.toInt (D.cell v0 2)))
              (some [D.str (([] : List UInt8)), D.int 2])
              (opt (RUN E 70 [D.int (D.toInt (D.cell v0 2))]) fun ρ7 =>
                opt (RUN E 71 [D.int (D.toInt (List.getD ρ7 0 D.no)), D.int 4]) fun ρ8 =>
                  cond (decide (List.length (D.toStr (List.getD ρ8 0 D.no)) + List.length (([45] : List UInt8)) ≤ lim))
                    (opt (RUN E 71 [D.int (D.toInt (List.getD ρ7 1 D.no)), D.int 2]) fun ρ10 =>
                      cond (decide (List.length (D.toStr (List.getD ρ8 0 D.no) ++ ([45] : List UInt8)) + List.length (D.toStr (List.getD ρ10 0 D.no)) ≤ lim))
                        (cond (decide (List.length (D.toStr (List.getD ρ8 0 D.no) ++ ([45] : List UInt8) ++ D.toStr (List.getD ρ10 0 D.no)) + List.length (([45] : List UInt8)) ≤ lim))
                          (opt (RUN E 71 [D.int (D.toInt (List.getD ρ7 2 D.no)), D.int 2]) fun ρ13 =>
                            cond (decide (List.length (D.toStr (List.getD ρ8 0 D.no) ++ ([45] : List UInt8) ++ D.toStr (List.getD ρ10 0 D.no) ++ ([45] : List UInt8)) + List.length (D.toStr (List.getD ρ13 0 D.no)) ≤ lim))
                              (some [D.str (D.toStr (List.getD ρ8 0 D.no) ++ ([45] : List UInt8) ++ D.toStr (List.getD ρ10 0 D.no) ++ ([45] : List UInt8) ++ D.toStr (List.getD ρ13 0 D.no)), D.int 0])
                              (none))
                          (none))
                        (none))
                    (none)))
            (some [D.str (([] : List UInt8)), D.int 10])))
        (cond (decide (D.toInt (D.cell v0 0) = 7))
          (some [D.str (D.toStr (D.cell v0 3)), D.int 0])
          (cond (decide (D.toInt (D.cell v0 0) = 4))
            (cond (bif decide (D.toInt (D.cell v0 2) < 0) then true else decide (84005 < D.toInt (D.cell v0 2)))
              (some [D.str (([] : List UInt8)), D.int 2])
              (opt (RUN E 70 [D.int (D.toInt (D.cell v0 2))]) fun ρ7 =>
                opt (RUN E 71 [D.int (D.toInt (List.getD ρ7 0 D.no)), D.int 4]) fun ρ8 =>
                  cond (decide (List.length (D.toStr (List.getD ρ8 0 D.no)) + List.length (([45] : List UInt8)) ≤ lim))
                    (opt (RUN E 71 [D.int (D.toInt (List.getD ρ7 1 D.no)), D.int 2]) fun ρ10 =>
                      cond (decide (List.length (D.toStr (List.getD ρ8 0 D.no) ++ ([45] : List UInt8)) + List.length (D.toStr (List.getD ρ10 0 D.no)) ≤ lim))
                        (cond (decide (List.length (D.toStr (List.getD ρ8 0 D.no) ++ ([45] : List UInt8) ++ D.toStr (List.getD ρ10 0 D.no)) + List.length (([45] : List UInt8)) ≤ lim))
                          (opt (RUN E 71 [D.int (D.toInt (List.getD ρ7 2 D.no)), D.int 2]) fun ρ13 =>
                            cond (decide (List.length (D.toStr (List.getD ρ8 0 D.no) ++ ([45] : List UInt8) ++ D.toStr (List.getD ρ10 0 D.no) ++ ([45] : List UInt8)) + List.length (D.toStr (List.getD ρ13 0 D.no)) ≤ lim))
                              (some [D.str (D.toStr (List.getD ρ8 0 D.no) ++ ([45] : List UInt8) ++ D.toStr (List.getD ρ10 0 D.no) ++ ([45] : List UInt8) ++ D.toStr (List.getD ρ13 0 D.no)), D.int 0])
                              (none))
                          (none))
                        (none))
                    (none)))
            (some [D.str (([] : List UInt8)), D.int 10])))))) := (RUN_eq _ _ _).trans (by kernel_rfl)
/-! masthead/tmpl.quoteText -/
def h53a (s1 : List UInt8) (i5 : Int) (out0s : List D) : St := mkSt 49 [(0, SV.own 0), (1, SV.val KT.str (D.str s1)), (5, SV.val (KT.int IntKind.i64) (D.int i5))] [(0, Obj.arr 5 out0s)]
noncomputable def L53a (s1 : List UInt8) (i5 : Int) (out0s : List D) : R := LOOP E (RUN E) 53 Tryd.f53 [1, 1, 0, 1, 0] (h53a s1 i5 out0s)
theorem enter53 (out0 : List D) (s1 : List UInt8) : RUN E 53 [D.list out0, D.str s1] =
    cond (fitL (List.length out0) (List.length [D.int 34]))
  (L53a s1 0 (out0 ++ [D.int 34]))
  (none) := (RUN_eq _ _ _).trans (by kernel_rfl)
theorem round53a (s1 : List UInt8) (i5 : Int) (out0s : List D) : L53a s1 i5 out0s =
    cond (decide (i5 < (↑(List.length s1) : Int)))
  (cond (inb i5 (List.length s1))
    (cond (bif decide ((↑(UInt8.toNat (List.getD s1 (Int.toNat i5) 0)) : Int) = 34) then true else decide ((↑(UInt8.toNat (List.getD s1 (Int.toNat i5) 0)) : Int) = 92))
      (cond (fitL (List.length out0s) (List.length [D.int 92, D.int (↑(UInt8.toNat (List.getD s1 (Int.toNat i5) 0)) : Int)]))
        (L53a s1 (IntKind.wrap IntKind.i64 (i5 + 1)) (out0s ++ [D.int 92, D.int (↑(UInt8.toNat (List.getD s1 (Int.toNat i5) 0)) : Int)]))
        (none))
      (opt (RUN E 72 [D.int (↑(UInt8.toNat (List.getD s1 (Int.toNat i5) 0)) : Int)]) fun ρ3 =>
        cond (D.toBool (List.getD ρ3 0 D.no))
          (cond (inb (Int.fdiv (↑(UInt8.toNat (List.getD s1 (Int.toNat i5) 0)) : Int) (2 ^ min (Int.toNat 4) (IntKind.bits IntKind.u8))) (List.length (([48, 49, 50, 51, 52, 53, 54, 55, 56, 57, 97, 98, 99, 100, 101, 102] : List UInt8))))
            (cond (inb (IntKind.wrap IntKind.u8 (↑(BitVec.toNat (BitVec.ofInt (IntKind.bits IntKind.u8) (↑(UInt8.toNat (List.getD s1 (Int.toNat i5) 0)) : Int) &&& BitVec.ofInt (IntKind.bits IntKind.u8) 15)) : Int)) (List.length (([48, 49, 50, 51, 52, 53, 54, 55, 56, 57, 97, 98, 99, 100, 101, 102] : List UInt8))))
              (cond (fitL (List.length out0s) (List.length [D.int 92, D.int 117, D.int 48, D.int 48, D.int (↑(UInt8.toNat (List.getD (([48, 49, 50, 51, 52, 53, 54, 55, 56, 57, 97, 98, 99, 100, 101, 102] : List UInt8)) (Int.toNat (Int.fdiv (↑(UInt8.toNat (List.getD s1 (Int.toNat i5) 0)) : Int) (2 ^ min (Int.toNat 4) (IntKind.bits IntKind.u8)))) 0)) : Int), D.int (↑(UInt8.toNat (List.getD (([48, 49, 50, 51, 52, 53, 54, 55, 56, 57, 97, 98, 99, 100, 101, 102] : List UInt8)) (Int.toNat (IntKind.wrap IntKind.u8 (↑(BitVec.toNat (BitVec.ofInt (IntKind.bits IntKind.u8) (↑(UInt8.toNat (List.getD s1 (Int.toNat i5) 0)) : Int) &&& BitVec.ofInt (IntKind.bits IntKind.u8) 15)) : Int))) 0)) : Int)]))
                (L53a s1 (IntKind.wrap IntKind.i64 (i5 + 1)) (out0s ++ [D.int 92, D.int 117, D.int 48, D.int 48, D.int (↑(UInt8.toNat (List.getD (([48, 49, 50, 51, 52, 53, 54, 55, 56, 57, 97, 98, 99, 100, 101, 102] : List UInt8)) (Int.toNat (Int.fdiv (↑(UInt8.toNat (List.getD s1 (Int.toNat i5) 0)) : Int) (2 ^ min (Int.toNat 4) (IntKind.bits IntKind.u8)))) 0)) : Int), D.int (↑(UInt8.toNat (List.getD (([48, 49, 50, 51, 52, 53, 54, 55, 56, 57, 97, 98, 99, 100, 101, 102] : List UInt8)) (Int.toNat (IntKind.wrap IntKind.u8 (↑(BitVec.toNat (BitVec.ofInt (IntKind.bits IntKind.u8) (↑(UInt8.toNat (List.getD s1 (Int.toNat i5) 0)) : Int) &&& BitVec.ofInt (IntKind.bits IntKind.u8) 15)) : Int))) 0)) : Int)]))
                (none))
              (none))
            (none))
          (cond (fitL (List.length out0s) (List.length [D.int (↑(UInt8.toNat (List.getD s1 (Int.toNat i5) 0)) : Int)]))
            (L53a s1 (IntKind.wrap IntKind.i64 (i5 + 1)) (out0s ++ [D.int (↑(UInt8.toNat (List.getD s1 (Int.toNat i5) 0)) : Int)]))
            (none))))
    (none))
  (cond (fitL (List.length out0s) (List.length [D.int 34]))
    (some [D.list (out0s ++ [D.int 34])])
    (none)) := (LOOP_eq _ _ _ _ _ _).trans (by kernel_rfl)
/-! strconv.FormatBool -/
theorem enter54 (b0 : Bool) : RUN E 54 [D.bool b0] =
    opt (RUN E 73 [D.bool b0]) fun ρ0 =>
  some [D.str (D.toStr (List.getD ρ0 0 D.no))] := (RUN_eq _ _ _).trans (by kernel_rfl)
/-! masthead/mastref1.inRange -/
theorem enter56 (n0 : Int) (most1 : Int) : RUN E 56 [D.int n0, D.int most1] =
    some [D.bool (bif decide (0 ≤ n0) then decide (n0 ≤ most1) else false)] := (RUN_eq _ _ _).trans (by kernel_rfl)
/-! masthead/mastref1.DateOf -/
def h57a (day0 : Int) (y6 : Int) : St := mkSt 46 [(0, SV.val (KT.int IntKind.i64) (D.int day0)), (6, SV.val (KT.int IntKind.i64) (D.int y6))] []
noncomputable def L57a (day0 : Int) (y6 : Int) : R := LOOP E (RUN E) 57 Tryd.f57 [1, 1, 0, 0] (h57a day0 y6)
def h57b (day0 : Int) (y6 : Int) (m7 : Int) : St := mkSt 46 [(0, SV.val (KT.int IntKind.i64) (D.int day0)), (6, SV.val (KT.int IntKind.i64) (D.int y6)), (7, SV.val (KT.int IntKind.i64) (D.int m7))] []
noncomputable def L57b (day0 : Int) (y6 : Int) (m7 : Int) : R := LOOP E (RUN E) 57 Tryd.f57 [1, 1, 1, 1, 0, 0] (h57b day0 y6 m7)
theorem enter57 (day0 : Int) : RUN E 57 [D.int day0] =
    L57a day0 1970 := (RUN_eq _ _ _).trans (by kernel_rfl)
theorem round57a (day0 : Int) (y6 : Int) : L57a day0 y6 =
    opt (RUN E 75 [D.int y6]) fun ρ0 =>
  cond (decide (D.toInt (List.getD ρ0 0 D.no) ≤ day0))
    (opt (RUN E 75 [D.int y6]) fun ρ2 =>
      L57a (IntKind.wrap IntKind.i64 (day0 - D.toInt (List.getD ρ2 0 D.no))) (IntKind.wrap IntKind.i64 (y6 + 1)))
    (L57b day0 y6 1) := (LOOP_eq _ _ _ _ _ _).trans (by kernel_rfl)
theorem round57b (day0 : Int) (y6 : Int) (m7 : Int) : L57b day0 y6 m7 =
    opt (RUN E 76 [D.int y6, D.int m7]) fun ρ0 =>
  cond (decide (D.toInt (List.getD ρ0 0 D.no) ≤ day0))
    (opt (RUN E 76 [D.int y6, D.int m7]) fun ρ2 =>
      L57b (IntKind.wrap IntKind.i64 (day0 - D.toInt (List.getD ρ2 0 D.no))) y6 (IntKind.wrap IntKind.i64 (m7 + 1)))
    (opt (RUN E 55 [D.int y6]) fun ρ2 =>
      cond (decide (List.length (D.toStr (List.getD ρ2 0 D.no)) + List.length (([45] : List UInt8)) ≤ lim))
        (opt (RUN E 77 [D.int m7]) fun ρ4 =>
          cond (decide (List.length (D.toStr (List.getD ρ2 0 D.no) ++ ([45] : List UInt8)) + List.length (D.toStr (List.getD ρ4 0 D.no)) ≤ lim))
            (cond (decide (List.length (D.toStr (List.getD ρ2 0 D.no) ++ ([45] : List UInt8) ++ D.toStr (List.getD ρ4 0 D.no)) + List.length (([45] : List UInt8)) ≤ lim))
              (opt (RUN E 77 [D.int (IntKind.wrap IntKind.i64 (day0 + 1))]) fun ρ7 =>
                cond (decide (List.length (D.toStr (List.getD ρ2 0 D.no) ++ ([45] : List UInt8) ++ D.toStr (List.getD ρ4 0 D.no) ++ ([45] : List UInt8)) + List.length (D.toStr (List.getD ρ7 0 D.no)) ≤ lim))
                  (some [D.str (D.toStr (List.getD ρ2 0 D.no) ++ ([45] : List UInt8) ++ D.toStr (List.getD ρ4 0 D.no) ++ ([45] : List UInt8) ++ D.toStr (List.getD ρ7 0 D.no)), D.int y6, D.int m7, D.int (IntKind.wrap IntKind.i64 (day0 + 1))])
                  (none))
              (none))
            (none))
        (none)) := (LOOP_eq _ _ _ _ _ _).trans (by kernel_rfl)
/-! masthead/tmpl.truth -/
theorem enter69 (b0 : Bool) : RUN E 69 [D.bool b0] =
    cond (b0)
  (some [D.str (([116, 114, 117, 101] : List UInt8))])
  (some [D.str (([102, 97, 108, 115, 101] : List UInt8))]) := (RUN_eq _ _ _).trans (by kernel_rfl)
/-! masthead/tmpl.date -/
theorem enter70 (n0 : Int) : RUN E 70 [D.int n0] =
    cond (decide (12 < IntKind.wrap IntKind.i64 (IntKind.wrap IntKind.i64 (Int.tdiv (IntKind.wrap IntKind.i64 (IntKind.wrap IntKind.i64 (5 * IntKind.wrap IntKind.i64 (IntKind.wrap IntKind.i64 (IntKind.wrap IntKind.i64 (n0 + 719468) - IntKind.wrap IntKind.i64 (IntKind.wrap IntKind.i64 (Int.tdiv (IntKind.wrap IntKind.i64 (n0 + 719468)) 146097) * 146097)) - IntKind.wrap IntKind.i64 (IntKind.wrap IntKind.i64 (IntKind.wrap IntKind.i64 (365 * IntKind.wrap IntKind.i64 (Int.tdiv (IntKind.wrap IntKind.i64 (IntKind.wrap IntKind.i64 (IntKind.wrap IntKind.i64 (IntKind.wrap IntKind.i64 (IntKind.wrap IntKind.i64 (n0 + 719468) - IntKind.wrap IntKind.i64 (IntKind.wrap IntKind.i64 (Int.tdiv (IntKind.wrap IntKind.i64 (n0 + 719468)) 146097) * 146097)) - IntKind.wrap IntKind.i64 (Int.tdiv (IntKind.wrap IntKind.i64 (IntKind.wrap IntKind.i64 (n0 + 719468) - IntKind.wrap IntKind.i64 (IntKind.wrap IntKind.i64 (Int.tdiv (IntKind.wrap IntKind.i64 (n0 + 719468)) 146097) * 146097))) 1460)) + IntKind.wrap IntKind.i64 (Int.tdiv (IntKind.wrap IntKind.i64 (IntKind.wrap IntKind.i64 (n0 + 719468) - IntKind.wrap IntKind.i64 (IntKind.wrap IntKind.i64 (Int.tdiv (IntKind.wrap IntKind.i64 (n0 + 719468)) 146097) * 146097))) 36524)) - IntKind.wrap IntKind.i64 (Int.tdiv (IntKind.wrap IntKind.i64 (IntKind.wrap IntKind.i64 (n0 + 719468) - IntKind.wrap IntKind.i64 (IntKind.wrap IntKind.i64 (Int.tdiv (IntKind.wrap IntKind.i64 (n0 + 719468)) 146097) * 146097))) 146096))) 365)) + IntKind.wrap IntKind.i64 (Int.tdiv (IntKind.wrap IntKind.i64 (Int.tdiv (IntKind.wrap IntKind.i64 (IntKind.wrap IntKind.i64 (IntKind.wrap IntKind.i64 (IntKind.wrap IntKind.i64 (IntKind.wrap IntKind.i64 (n0 + 719468) - IntKind.wrap IntKind.i64 (IntKind.wrap IntKind.i64 (Int.tdiv (IntKind.wrap IntKind.i64 (n0 + 719468)) 146097) * 146097)) - IntKind.wrap IntKind.i64 (Int.tdiv (IntKind.wrap IntKind.i64 (IntKind.wrap IntKind.i64 (n0 + 719468) - IntKind.wrap IntKind.i64 (IntKind.wrap IntKind.i64 (Int.tdiv (IntKind.wrap IntKind.i64 (n0 + 719468)) 146097) * 146097))) 1460)) + IntKind.wrap IntKind.i64 (Int.tdiv (IntKind.wrap IntKind.i64 (IntKind.wrap IntKind.i64 (n0 + 719468) - IntKind.wrap IntKind.i64 (IntKind.wrap IntKind.i64 (Int.tdiv (IntKind.wrap IntKind.i64 (n0 + 719468)) 146097) * 146097))) 36524)) - IntKind.wrap IntKind.i64 (Int.tdiv (IntKind.wrap IntKind.i64 (IntKind.wrap IntKind.i64 (n0 + 719468) - IntKind.wrap IntKind.i64 (IntKind.wrap IntKind.i64 (Int.tdiv (IntKind.wrap IntKind.i64 (n0 + 719468)) 146097) * 146097))) 146096))) 365)) 4)) - IntKind.wrap IntKind.i64 (Int.tdiv (IntKind.wrap IntKind.i64 (Int.tdiv (IntKind.wrap IntKind.i64 (IntKind.wrap IntKind.i64 (IntKind.wrap IntKind.i64 (IntKind.wrap IntKind.i64 (IntKind.wrap IntKind.i64 (n0 + 719468) - IntKind.wrap IntKind.i64 (IntKind.wrap IntKind.i64 (Int.tdiv (IntKind.wrap IntKind.i64 (n0 + 719468)) 146097) * 146097)) - IntKind.wrap IntKind.i64 (Int.tdiv (IntKind.wrap IntKind.i64 (IntKind.wrap IntKind.i64 (n0 + 719468) - IntKind.wrap IntKind.i64 (IntKind.wrap IntKind.i64 (Int.tdiv (IntKind.wrap IntKind.i64 (n0 + 719468)) 146097) * 146097))) 1460)) + IntKind.wrap IntKind.i64 (Int.tdiv (IntKind.wrap IntKind.i64 (IntKind.wrap IntKind.i64 (n0 + 719468) - IntKind.wrap IntKind.i64 (IntKind.wrap IntKind.i64 (Int.tdiv (IntKind.wrap IntKind.i64 (n0 + 719468)) 146097) * 146097))) 36524)) - IntKind.wrap IntKind.i64 (Int.tdiv (IntKind.wrap IntKind.i64 (IntKind.wrap IntKind.i64 (n0 + 719468) - IntKind.wrap IntKind.i64 (IntKind.wrap IntKind.i64 (Int.tdiv (IntKind.wrap IntKind.i64 (n0 + 719468)) 146097) * 146097))) 146096))) 365)) 100)))) + 2)) 153) + 3)))
  (cond (decide (IntKind.wrap IntKind.i64 (IntKind.wrap IntKind.i64 (IntKind.wrap IntKind.i64 (Int.tdiv (IntKind.wrap IntKind.i64 (IntKind.wrap IntKind.i64 (5 * IntKind.wrap IntKind.i64 (IntKind.wrap IntKind.i64 (IntKind.wrap IntKind.i64 (n0 + 719468) - IntKind.wrap IntKind.i64 (IntKind.wrap IntKind.i64 (Int.tdiv (IntKind.wrap IntKind.i64 (n0 + 719468)) 146097) * 146097)) - IntKind.wrap IntKind.i64 (IntKind.wrap IntKind.i64 (IntKind.wrap IntKind.i64 (365 * IntKind.wrap IntKind.i64 (Int.tdiv (IntKind.wrap IntKind.i64 (IntKind.wrap IntKind.i64 (IntKind.wrap IntKind.i64 (IntKind.wrap IntKind.i64 (IntKind.wrap IntKind.i64 (n0 + 719468) - IntKind.wrap IntKind.i64 (IntKind.wrap IntKind.i64 (Int.tdiv (IntKind.wrap IntKind.i64 (n0 + 719468)) 146097) * 146097)) - IntKind.wrap IntKind.i64 (Int.tdiv (IntKind.wrap IntKind.i64 (IntKind.wrap IntKind.i64 (n0 + 719468) - IntKind.wrap IntKind.i64 (IntKind.wrap IntKind.i64 (Int.tdiv (IntKind.wrap IntKind.i64 (n0 + 719468)) 146097) * 146097))) 1460)) + IntKind.wrap IntKind.i64 (Int.tdiv (IntKind.wrap IntKind.i64 (IntKind.wrap IntKind.i64 (n0 + 719468) - IntKind.wrap IntKind.i64 (IntKind.wrap IntKind.i64 (Int.tdiv (IntKind.wrap IntKind.i64 (n0 + 719468)) 146097) * 146097))) 36524)) - IntKind.wrap IntKind.i64 (Int.tdiv (IntKind.wrap IntKind.i64 (IntKind.wrap IntKind.i64 (n0 + 719468) - IntKind.wrap IntKind.i64 (IntKind.wrap IntKind.i64 (Int.tdiv (IntKind.wrap IntKind.i64 (n0 + 719468)) 146097) * 146097))) 146096))) 365)) + IntKind.wrap IntKind.i64 (Int.tdiv (IntKind.wrap IntKind.i64 (Int.tdiv (IntKind.wrap IntKind.i64 (IntKind.wrap IntKind.i64 (IntKind.wrap IntKind.i64 (IntKind.wrap IntKind.i64 (IntKind.wrap IntKind.i64 (n0 + 719468) - IntKind.wrap IntKind.i64 (IntKind.wrap IntKind.i64 (Int.tdiv (IntKind.wrap IntKind.i64 (n0 + 719468)) 146097) * 146097)) - IntKind.wrap IntKind.i64 (Int.tdiv (IntKind.wrap IntKind.i64 (IntKind.wrap IntKind.i64 (n0 + 719468) - IntKind.wrap IntKind.i64 (IntKind.wrap IntKind.i64 (Int.tdiv (IntKind.wrap IntKind.i64 (n0 + 719468)) 146097) * 146097))) 1460)) + IntKind.wrap IntKind.i64 (Int.tdiv (IntKind.wrap IntKind.i64 (IntKind.wrap IntKind.i64 (n0 + 719468) - IntKind.wrap IntKind.i64 (IntKind.wrap IntKind.i64 (Int.tdiv (IntKind.wrap IntKind.i64 (n0 + 719468)) 146097) * 146097))) 36524)) - IntKind.wrap IntKind.i64 (Int.tdiv (IntKind.wrap IntKind.i64 (IntKind.wrap IntKind.i64 (n0 + 719468) - IntKind.wrap IntKind.i64 (IntKind.wrap IntKind.i64 (Int.tdiv (IntKind.wrap IntKind.i64 (n0 + 719468)) 146097) * 146097))) 146096))) 365)) 4)) - IntKind.wrap IntKind.i64 (Int.tdiv (IntKind.wrap IntKind.i64 (Int.tdiv (IntKind.wrap IntKind.i64 (IntKind.wrap IntKind.i64 (IntKind.wrap IntKind.i64 (IntKind.wrap IntKind.i64 (IntKind.wrap IntKind.i64 (n0 + 719468) - IntKind.wrap IntKind.i64 (IntKind.wrap IntKind.i64 (Int.tdiv (IntKind.wrap IntKind.i64 (n0 + 719468)) 146097) * 146097)) - IntKind.wrap IntKind.i64 (Int.tdiv (IntKind.wrap IntKind.i64 (IntKind.wrap IntKind.i64 (n0 + 719468) - IntKind.wrap IntKind.i64 (IntKind.wrap IntKind.i64 (Int.tdiv (IntKind.wrap IntKind.i64 (n0 + 719468)) 146097) * 146097))) 1460)) + IntKind.wrap IntKind.i64 (Int.tdiv (IntKind.wrap IntKind.i64 (IntKind.wrap IntKind.i64 (n0 + 719468) - IntKind.wrap IntKind.i64 (IntKind.wrap IntKind.i64 (Int.tdiv (IntKind.wrap IntKind.i64 (n0 + 719468)) 146097) * 146097))) 36524)) - IntKind.wrap IntKind.i64 (Int.tdiv (IntKind.wrap IntKind.i64 (IntKind.wrap IntKind.i64 (n0 + 719468) - IntKind.wrap IntKind.i64 (IntKind.wrap IntKind.i64 (Int.tdiv (IntKind.wrap IntKind.i64 (n0 + 719468)) 146097) * 146097))) 146096))) 365)) 100)))) + 2)) 153) + 3) - 12) ≤ 2))
    (some [D.int (IntKind.wrap IntKind.i64 (IntKind.wrap IntKind.i64 (IntKind.wrap IntKind.i64 (Int.tdiv (IntKind.wrap IntKind.i64 (IntKind.wrap IntKind.i64 (IntKind.wrap IntKind.i64 (IntKind.wrap IntKind.i64 (IntKind.wrap IntKind.i64 (n0 + 719468) - IntKind.wrap IntKind.i64 (IntKind.wrap IntKind.i64 (Int.tdiv (IntKind.wrap IntKind.i64 (n0 + 719468)) 146097) * 146097)) - IntKind.wrap IntKind.i64 (Int.tdiv (IntKind.wrap IntKind.i64 (IntKind.wrap IntKind.i64 (n0 + 719468) - IntKind.wrap IntKind.i64 (IntKind.wrap IntKind.i64 (Int.tdiv (IntKind.wrap IntKind.i64 (n0 + 719468)) 146097) * 146097))) 1460)) + IntKind.wrap IntKind.i64 (Int.tdiv (IntKind.wrap IntKind.i64 (IntKind.wrap IntKind.i64 (n0 + 719468) - IntKind.wrap IntKind.i64 (IntKind.wrap IntKind.i64 (Int.tdiv (IntKind.wrap IntKind.i64 (n0 + 719468)) 146097) * 146097))) 36524)) - IntKind.wrap IntKind.i64 (Int.tdiv (IntKind.wrap IntKind.i64 (IntKind.wrap IntKind.i64 (n0 + 719468) - IntKind.wrap IntKind.i64 (IntKind.wrap IntKind.i64 (Int.tdiv (IntKind.wrap IntKind.i64 (n0 + 719468)) 146097) * 146097))) 146096))) 365) + IntKind.wrap IntKind.i64 (IntKind.wrap IntKind.i64 (Int.tdiv (IntKind.wrap IntKind.i64 (n0 + 719468)) 146097) * 400)) + 1)), D.int (IntKind.wrap IntKind.i64 (IntKind.wrap IntKind.i64 (IntKind.wrap IntKind.i64 (Int.tdiv (IntKind.wrap IntKind.i64 (IntKind.wrap IntKind.i64 (5 * IntKind.wrap IntKind.i64 (IntKind.wrap IntKind.i64 (IntKind.wrap IntKind.i64 (n0 + 719468) - IntKind.wrap IntKind.i64 (IntKind.wrap IntKind.i64 (Int.tdiv (IntKind.wrap IntKind.i64 (n0 + 719468)) 146097) * 146097)) - IntKind.wrap IntKind.i64 (IntKind.wrap IntKind.i64 (IntKind.wrap IntKind.i64 (365 * IntKind.wrap IntKind.i64 (Int.tdiv (IntKind.wrap IntKind.i64 (IntKind.wrap IntKind.i64 (IntKind.wrap IntKind.i64 (IntKind.wrap IntKind.i64 (IntKind.wrap IntKind.i64 (n0 + 719468) - IntKind.wrap IntKind.i64 (IntKind.wrap IntKind.i64 (Int.tdiv (IntKind.wrap IntKind.i64 (n0 + 719468)) 146097) * 146097)) - IntKind.wrap IntKind.i64 (Int.tdiv (IntKind.wrap IntKind.i64 (IntKind.wrap IntKind.i64 (n0 + 719468) - IntKind.wrap IntKind.i64 (IntKind.wrap IntKind.i64 (Int.tdiv (IntKind.wrap IntKind.i64 (n0 + 719468)) 146097) * 146097))) 1460)) + IntKind.wrap IntKind.i64 (Int.tdiv (IntKind.wrap IntKind.i64 (IntKind.wrap IntKind.i64 (n0 + 719468) - IntKind.wrap IntKind.i64 (IntKind.wrap IntKind.i64 (Int.tdiv (IntKind.wrap IntKind.i64 (n0 + 719468)) 146097) * 146097))) 36524)) - IntKind.wrap IntKind.i64 (Int.tdiv (IntKind.wrap IntKind.i64 (IntKind.wrap IntKind.i64 (n0 + 719468) - IntKind.wrap IntKind.i64 (IntKind.wrap IntKind.i64 (Int.tdiv (IntKind.wrap IntKind.i64 (n0 + 719468)) 146097) * 146097))) 146096))) 365)) + IntKind.wrap IntKind.i64 (Int.tdiv (IntKind.wrap IntKind.i64 (Int.tdiv (IntKind.wrap IntKind.i64 (IntKind.wrap IntKind.i64 (IntKind.wrap IntKind.i64 (IntKind.wrap IntKind.i64 (IntKind.wrap IntKind.i64 (n0 + 719468) - IntKind.wrap IntKind.i64 (IntKind.wrap IntKind.i64 (Int.tdiv (IntKind.wrap IntKind.i64 (n0 + 719468)) 146097) * 146097)) - IntKind.wrap IntKind.i64 (Int.tdiv (IntKind.wrap IntKind.i64 (IntKind.wrap IntKind.i64 (n0 + 719468) - IntKind.wrap IntKind.i64 (IntKind.wrap IntKind.i64 (Int.tdiv (IntKind.wrap IntKind.i64 (n0 + 719468)) 146097) * 146097))) 1460)) + IntKind.wrap IntKind.i64 (Int.tdiv (IntKind.wrap IntKind.i64 (IntKind.wrap IntKind.i64 (n0 + 719468) - IntKind.wrap IntKind.i64 (IntKind.wrap IntKind.i64 (Int.tdiv (IntKind.wrap IntKind.i64 (n0 + 719468)) 146097) * 146097))) 36524)) - IntKind.wrap IntKind.i64 (Int.tdiv (IntKind.wrap IntKind.i64 (IntKind.wrap IntKind.i64 (n0 + 719468) - IntKind.wrap IntKind.i64 (IntKind.wrap IntKind.i64 (Int.tdiv (IntKind.wrap IntKind.i64 (n0 + 719468)) 146097) * 146097))) 146096))) 365)) 4)) - IntKind.wrap IntKind.i64 (Int.tdiv (IntKind.wrap IntKind.i64 (Int.tdiv (IntKind.wrap IntKind.i64 (IntKind.wrap IntKind.i64 (IntKind.wrap IntKind.i64 (IntKind.wrap IntKind.i64 (IntKind.wrap IntKind.i64 (n0 + 719468) - IntKind.wrap IntKind.i64 (IntKind.wrap IntKind.i64 (Int.tdiv (IntKind.wrap IntKind.i64 (n0 + 719468)) 146097) * 146097)) - IntKind.wrap IntKind.i64 (Int.tdiv (IntKind.wrap IntKind.i64 (IntKind.wrap IntKind.i64 (n0 + 719468) - IntKind.wrap IntKind.i64 (IntKind.wrap IntKind.i64 (Int.tdiv (IntKind.wrap IntKind.i64 (n0 + 719468)) 146097) * 146097))) 1460)) + IntKind.wrap IntKind.i64 (Int.tdiv (IntKind.wrap IntKind.i64 (IntKind.wrap IntKind.i64 (n0 + 719468) - IntKind.wrap IntKind.i64 (IntKind.wrap IntKind.i64 (Int.tdiv (IntKind.wrap IntKind.i64 (n0 + 719468)) 146097) * 146097))) 36524)) - IntKind.wrap IntKind.i64 (Int.tdiv (IntKind.wrap IntKind.i64 (IntKind.wrap IntKind.i64 (n0 + 719468) - IntKind.wrap IntKind.i64 (IntKind.wrap IntKind.i64 (Int.tdiv (IntKind.wrap IntKind.i64 (n0 + 719468)) 146097) * 146097))) 146096))) 365)) 100)))) + 2)) 153) + 3) - 12)), D.int (IntKind.wrap IntKind.i64 (IntKind.wrap IntKind.i64 (IntKind.wrap IntKind.i64 (IntKind.wrap IntKind.i64 (IntKind.wrap IntKind.i64 (n0 + 719468) - IntKind.wrap IntKind.i64 (IntKind.wrap IntKind.i64 (Int.tdiv (IntKind.wrap IntKind.i64 (n0 + 719468)) 146097) * 146097)) - IntKind.wrap IntKind.i64 (IntKind.wrap IntKind.i64 (IntKind.wrap IntKind.i64 (365 * IntKind.wrap IntKind.i64 (Int.tdiv (IntKind.wrap IntKind.i64 (IntKind.wrap IntKind.i64 (IntKind.wrap IntKind.i64 (IntKind.wrap IntKind.i64 (IntKind.wrap IntKind.i64 (n0 + 719468) - IntKind.wrap IntKind.i64 (IntKind.wrap IntKind.i64 (Int.tdiv (IntKind.wrap IntKind.i64 (n0 + 719468)) 146097) * 146097)) - IntKind.wrap IntKind.i64 (Int.tdiv (IntKind.wrap IntKind.i64 (IntKind.wrap IntKind.i64 (n0 + 719468) - IntKind.wrap IntKind.i64 (IntKind.wrap IntKind.i64 (Int.tdiv (IntKind.wrap IntKind.i64 (n0 + 719468)) 146097) * 146097))) 1460)) + IntKind.wrap IntKind.i64 (Int.tdiv (IntKind.wrap IntKind.i64 (IntKind.wrap IntKind.i64 (n0 + 719468) - IntKind.wrap IntKind.i64 (IntKind.wrap IntKind.i64 (Int.tdiv (IntKind.wrap IntKind.i64 (n0 + 719468)) 146097) * 146097))) 36524)) - IntKind.wrap IntKind.i64 (Int.tdiv (IntKind.wrap IntKind.i64 (IntKind.wrap IntKind.i64 (n0 + 719468) - IntKind.wrap IntKind.i64 (IntKind.wrap IntKind.i64 (Int.tdiv (IntKind.wrap IntKind.i64 (n0 + 719468)) 146097) * 146097))) 146096))) 365)) + IntKind.wrap IntKind.i64 (Int.tdiv (IntKind.wrap IntKind.i64 (Int.tdiv (IntKind.wrap IntKind.i64 (IntKind.wrap IntKind.i64 (IntKind.wrap IntKind.i64 (IntKind.wrap IntKind.i64 (IntKind.wrap IntKind.i64 (n0 + 719468) - IntKind.wrap IntKind.i64 (IntKind.wrap IntKind.i64 (Int.tdiv (IntKind.wrap IntKind.i64 (n0 + 719468)) 146097) * 146097)) - IntKind.wrap IntKind.i64 (Int.tdiv (IntKind.wrap IntKind.i64 (IntKind.wrap IntKind.i64 (n0 + 719468) - IntKind.wrap IntKind.i64 (IntKind.wrap IntKind.i64 (Int.tdiv (IntKind.wrap IntKind.i64 (n0 + 719468)) 146097) * 146097))) 1460)) + IntKind.wrap IntKind.i64 (Int.tdiv (IntKind.wrap IntKind.i64 (IntKind.wrap IntKind.i64 (n0 + 719468) - IntKind.wrap IntKind.i64 (IntKind.wrap IntKind.i64 (Int.tdiv (IntKind.wrap IntKind.i64 (n0 + 719468)) 146097) * 146097))) 36524)) - IntKind.wrap IntKind.i64 (Int.tdiv (IntKind.wrap IntKind.i64 (IntKind.wrap IntKind.i64 (n0 + 719468) - IntKind.wrap IntKind.i64 (IntKind.wrap IntKind.i64 (Int.tdiv (IntKind.wrap IntKind.i64 (n0 + 719468)) 146097) * 146097))) 146096))) 365)) 4)) - IntKind.wrap IntKind.i64 (Int.tdiv (IntKind.wrap IntKind.i64 (Int.tdiv (IntKind.wrap IntKind.i64 (IntKind.wrap IntKind.i64 (IntKind.wrap IntKind.i64 (IntKind.wrap IntKind.i64 (IntKind.wrap IntKind.i64 (n0 + 719468) - IntKind.wrap IntKind.i64 (IntKind.wrap IntKind.i64 (Int.tdiv (IntKind.wrap IntKind.i64 (n0 + 719468)) 146097) * 146097)) - IntKind.wrap IntKind.i64 (Int.tdiv (IntKind.wrap IntKind.i64 (IntKind.wrap IntKind.i64 (n0 + 719468) - IntKind.wrap IntKind.i64 (IntKind.wrap IntKind.i64 (Int.tdiv (IntKind.wrap IntKind.i64 (n0 + 719468)) 146097) * 146097))) 1460)) + IntKind.wrap IntKind.i64 (Int.tdiv (IntKind.wrap IntKind.i64 (IntKind.wrap IntKind.i64 (n0 + 719468) - IntKind.wrap IntKind.i64 (IntKind.wrap IntKind.i64 (Int.tdiv (IntKind.wrap IntKind.i64 (n0 + 719468)) 146097) * 146097))) 36524)) - IntKind.wrap IntKind.i64 (Int.tdiv (IntKind.wrap IntKind.i64 (IntKind.wrap IntKind.i64 (n0 + 719468) - IntKind.wrap IntKind.i64 (IntKind.wrap IntKind.i64 (Int.tdiv (IntKind.wrap IntKind.i64 (n0 + 719468)) 146097) * 146097))) 146096))) 365)) 100))) - IntKind.wrap IntKind.i64 (Int.tdiv (IntKind.wrap IntKind.i64 (IntKind.wrap IntKind.i64 (153 * IntKind.wrap IntKind.i64 (Int.tdiv (IntKind.wrap IntKind.i64 (IntKind.wrap IntKind.i64 (5 * IntKind.wrap IntKind.i64 (IntKind.wrap IntKind.i64 (IntKind.wrap IntKind.i64 (n0 + 719468) - IntKind.wrap IntKind.i64 (IntKind.wrap IntKind.i64 (Int.tdiv (IntKind.wrap IntKind.i64 (n0 + 719468)) 146097) * 146097)) - IntKind.wrap IntKind.i64 (IntKind.wrap IntKind.i64 (IntKind.wrap IntKind.i64 (365 * IntKind.wrap IntKind.i64 (Int.tdiv (IntKind.wrap IntKind.i64 (IntKind.wrap IntKind.i64 (IntKind.wrap IntKind.i64 (IntKind.wrap IntKind.i64 (IntKind.wrap IntKind.i64 (n0 + 719468) - IntKind.wrap IntKind.i64 (IntKind.wrap IntKind.i64 (Int.tdiv (IntKind.wrap IntKind.i64 (n0 + 719468)) 146097) * 146097)) - IntKind.wrap IntKind.i64 (Int.tdiv (IntKind.wrap IntKind.i64 (IntKind.wrap IntKind.i64 (n0 + 719468) - IntKind.wrap IntKind.i64 (IntKind.wrap IntKind.i64 (Int.tdiv (IntKind.wrap IntKind.i64 (n0 + 719468)) 146097) * 146097))) 1460)) + IntKind.wrap IntKind.i64 (Int.tdiv (IntKind.wrap IntKind.i64 (IntKind.wrap IntKind.i64 (n0 + 719468) - IntKind.wrap IntKind.i64 (IntKind.wrap IntKind.i64 (Int.tdiv (IntKind.wrap IntKind.i64 (n0 + 719468)) 146097) * 146097))) 36524)) - IntKind.wrap IntKind.i64 (Int.tdiv (IntKind.wrap IntKind.i64 (IntKind.wrap IntKind.i64 (n0 + 719468) - IntKind.wrap IntKind.i64 (IntKind.wrap IntKind.i64 (Int.tdiv (IntKind.wrap IntKind.i64 (n0 + 719468)) 146097) * 146097))) 146096))) 365)) + IntKind.wrap IntKind.i64 (Int.tdiv (IntKind.wrap IntKind.i64 (Int.tdiv (IntKind.wrap IntKind.i64 (IntKind.wrap IntKind.i64 (IntKind.wrap IntKind.i64 (IntKind.wrap IntKind.i64 (IntKind.wrap IntKind.i64 (n0 + 719468) - IntKind.wrap IntKind.i64 (IntKind.wrap IntKind.i64 (Int.tdiv (IntKind.wrap IntKind.i64 (n0 + 719468)) 146097) * 146097)) - IntKind.wrap IntKind.i64 (Int.tdiv (IntKind.wrap IntKind.i64 (IntKind.wrap IntKind.i64 (n0 + 719468) - IntKind.wrap IntKind.i64 (IntKind.wrap IntKind.i64 (Int.tdiv (IntKind.wrap IntKind.i64 (n0 + 719468)) 146097) * 146097))) 1460)) + IntKind.wrap IntKind.i64 (Int.tdiv (IntKind.wrap IntKind.i64 (IntKind.wrap IntKind.i64 (n0 + 719468) - IntKind.wrap IntKind.i64 (IntKind.wrap IntKind.i64 (Int.tdiv (IntKind.wrap IntKind.i64 (n0 + 719468)) 146097) * 146097))) 36524)) - IntKind.wrap IntKind.i64 (Int.tdiv (IntKind.wrap IntKind.i64 (IntKind.wrap IntKind.i64 (n0 + 719468) - IntKind.wrap IntKind.i64 (IntKind.wrap IntKind.i64 (Int.tdiv (IntKind.wrap IntKind.i64 (n0 + 719468)) 146097) * 146097))) 146096))) 365)) 4)) - IntKind.wrap IntKind.i64 (Int.tdiv (IntKind.wrap IntKind.i64 (Int.tdiv (IntKind.wrap IntKind.i64 (IntKind.wrap IntKind.i64 (IntKind.wrap IntKind.i64 (IntKind.wrap IntKind.i64 (IntKind.wrap IntKind.i64 (n0 + 719468) - IntKind.wrap IntKind.i64 (IntKind.wrap IntKind.i64 (Int.tdiv (IntKind.wrap IntKind.i64 (n0 + 719468)) 146097) * 146097)) - IntKind.wrap IntKind.i64 (Int.tdiv (IntKind.wrap IntKind.i64 (IntKind.wrap IntKind.i64 (n0 + 719468) - IntKind.wrap IntKind.i64 (IntKind.wrap IntKind.i64 (Int.tdiv (IntKind.wrap IntKind.i64 (n0 + 719468)) 146097) * 146097))) 1460)) + IntKind.wrap IntKind.i64 (Int.tdiv (IntKind.wrap IntKind.i64 (IntKind.wrap IntKind.i64 (n0 + 719468) - IntKind.wrap IntKind.i64 (IntKind.wrap IntKind.i64 (Int.tdiv (IntKind.wrap IntKind.i64 (n0 + 719468)) 146097) * 146097))) 36524)) - IntKind.wrap IntKind.i64 (Int.tdiv (IntKind.wrap IntKind.i64 (IntKind.wrap IntKind.i64 (n0 + 719468) - IntKind.wrap IntKind.i64 (IntKind.wrap IntKind.i64 (Int.tdiv (IntKind.wrap IntKind.i64 (n0 + 719468)) 146097) * 146097))) 146096))) 365)) 100)))) + 2)) 153)) + 2)) 5)) + 1))])
    (some [D.int (IntKind.wrap IntKind.i64 (IntKind.wrap IntKind.i64 (Int.tdiv (IntKind.wrap IntKind.i64 (IntKind.wrap IntKind.i64 (IntKind.wrap IntKind.i64 (IntKind.wrap IntKind.i64 (IntKind.wrap IntKind.i64 (n0 + 719468) - IntKind.wrap IntKind.i64 (IntKind.wrap IntKind.i64 (Int.tdiv (IntKind.wrap IntKind.i64 (n0 + 719468)) 146097) * 146097)) - IntKind.wrap IntKind.i64 (Int.tdiv (IntKind.wrap IntKind.i64 (IntKind.wrap IntKind.i64 (n0 + 719468) - IntKind.wrap IntKind.i64 (IntKind.wrap IntKind.i64 (Int.tdiv (IntKind.wrap IntKind.i64 (n0 + 719468)) 146097) * 146097))) 1460)) + IntKind.wrap IntKind.i64 (Int.tdiv (IntKind.wrap IntKind.i64 (IntKind.wrap IntKind.i64 (n0 + 719468) - IntKind.wrap IntKind.i64 (IntKind.wrap IntKind.i64 (Int.tdiv (IntKind.wrap IntKind.i64 (n0 + 719468)) 146097) * 146097))) 36524)) - IntKind.wrap IntKind.i64 (Int.tdiv (IntKind.wrap IntKind.i64 (IntKind.wrap IntKind.i64 (n0 + 719468) - IntKind.wrap IntKind.i64 (IntKind.wrap IntKind.i64 (Int.tdiv (IntKind.wrap IntKind.i64 (n0 + 719468)) 146097) * 146097))) 146096))) 365) + IntKind.wrap IntKind.i64 (IntKind.wrap IntKind.i64 (Int.tdiv (IntKind.wrap IntKind.i64 (n0 + 719468)) 146097) * 400))), D.int (IntKind.wrap IntKind.i64 (IntKind.wrap IntKind.i64 (IntKind.wrap IntKind.i64 (Int.tdiv (IntKind.wrap IntKind.i64 (IntKind.wrap IntKind.i64 (5 * IntKind.wrap IntKind.i64 (IntKind.wrap IntKind.i64 (IntKind.wrap IntKind.i64 (n0 + 719468) - IntKind.wrap IntKind.i64 (IntKind.wrap IntKind.i64 (Int.tdiv (IntKind.wrap IntKind.i64 (n0 + 719468)) 146097) * 146097)) - IntKind.wrap IntKind.i64 (IntKind.wrap IntKind.i64 (IntKind.wrap IntKind.i64 (365 * IntKind.wrap IntKind.i64 (Int.tdiv (IntKind.wrap IntKind.i64 (IntKind.wrap IntKind.i64 (IntKind.wrap IntKind.i64 (IntKind.wrap IntKind.i64 (IntKind.wrap IntKind.i64 (n0 + 719468) - IntKind.wrap IntKind.i64 (IntKind.wrap IntKind.i64 (Int.tdiv (IntKind.wrap IntKind.i64 (n0 + 719468)) 146097) * 146097)) - IntKind.wrap IntKind.i64 (Int.tdiv (IntKind.wrap IntKind.i64 (IntKind.wrap IntKind.i64 (n0 + 719468) - IntKind.wrap IntKind.i64 (IntKind.wrap IntKind.i64 (Int.tdiv (IntKind.wrap IntKind.i64 (n0 + 719468)) 146097) * 146097))) 1460)) + IntKind.wrap IntKind.i64 (Int.tdiv (IntKind.wrap IntKind.i64 (IntKind.wrap IntKind.i64 (n0 + 719468) - IntKind.wrap IntKind.i64 (IntKind.wrap IntKind.i64 (Int.tdiv (IntKind.wrap IntKind.i64 (n0 + 719468)) 146097) * 146097))) 36524)) - IntKind.wrap IntKind.i64 (Int.tdiv (IntKind.wrap IntKind.i64 (IntKind.wrap IntKind.i64 (n0 + 719468) - IntKind.wrap IntKind.i64 (IntKind.wrap IntKind.i64 (Int.tdiv (IntKind.wrap IntKind.i64 (n0 + 719468)) 146097) * 146097))) 146096))) 365)) + IntKind.wrap IntKind.i64 (Int.tdiv (IntKind.wrap IntKind.i64 (Int.tdiv (IntKind.wrap IntKind.i64 (IntKind.wrap IntKind.i64 (IntKind.wrap IntKind.i64 (IntKind.wrap IntKind.i64 (IntKind.wrap IntKind.i64 (n0 + 719468) - IntKind.wrap IntKind.i64 (IntKind.wrap IntKind.i64 (Int.tdiv (IntKind.wrap IntKind.i64 (n0 + 719468)) 146097) * 146097)) - IntKind.wrap IntKind.i64 (Int.tdiv (IntKind.wrap IntKind.i64 (IntKind.wrap IntKind.i64 (n0 + 719468) - IntKind.wrap IntKind.i64 (IntKind.wrap IntKind.i64 (Int.tdiv (IntKind.wrap IntKind.i64 (n0 + 719468)) 146097) * 146097))) 1460)) + IntKind.wrap IntKind.i64 (Int.tdiv (IntKind.wrap IntKind.i64 (IntKind.wrap IntKind.i64 (n0 + 719468) - IntKind.wrap IntKind.i64 (IntKind.wrap IntKind.i64 (Int.tdiv (IntKind.wrap IntKind.i64 (n0 + 719468)) 146097) * 146097))) 36524)) - IntKind.wrap IntKind.i64 (Int.tdiv (IntKind.wrap IntKind.i64 (IntKind.wrap IntKind.i64 (n0 + 719468) - IntKind.wrap IntKind.i64 (IntKind.wrap IntKind.i64 (Int.tdiv (IntKind.wrap IntKind.i64 (n0 + 719468)) 146097) * 146097))) 146096))) 365)) 4)) - IntKind.wrap IntKind.i64 (Int.tdiv (IntKind.wrap IntKind.i64 (Int.tdiv (IntKind.wrap IntKind.i64 (IntKind.wrap IntKind.i64 (IntKind.wrap IntKind.i64 (IntKind.wrap IntKind.i64 (IntKind.wrap IntKind.i64 (n0 + 719468) - IntKind.wrap IntKind.i64 (IntKind.wrap IntKind.i64 (Int.tdiv (IntKind.wrap IntKind.i64 (n0 + 719468)) 146097) * 146097)) - IntKind.wrap IntKind.i64 (Int.tdiv (IntKind.wrap IntKind.i64 (IntKind.wrap IntKind.i64 (n0 + 719468) - IntKind.wrap IntKind.i64 (IntKind.wrap IntKind.i64 (Int.tdiv (IntKind.wrap IntKind.i64 (n0 + 719468)) 146097) * 146097))) 1460)) + IntKind.wrap IntKind.i64 (Int.tdiv (IntKind.wrap IntKind.i64 (IntKind.wrap IntKind.i64 (n0 + 719468) - IntKind.wrap IntKind.i64 (IntKind.wrap IntKind.i64 (Int.tdiv (IntKind.wrap IntKind.i64 (n0 + 719468)) 146097) * 146097))) 36524)) - IntKind.wrap IntKind.i64 (Int.tdiv (IntKind.wrap IntKind.i64 (IntKind.wrap IntKind.i64 (n0 + 719468) - IntKind.wrap IntKind.i64 (IntKind.wrap IntKind.i64 (Int.tdiv (IntKind.wrap IntKind.i64 (n0 + 719468)) 146097) * 146097))) 146096))) 365)) 100)))) + 2)) 153) + 3) - 12)), D.int (IntKind.wrap IntKind.i64 (IntKind.wrap IntKind.i64 (IntKind.wrap IntKind.i64 (IntKind.wrap IntKind.i64 (IntKind.wrap IntKind.i64 (n0 + 719468) - IntKind.wrap IntKind.i64 (IntKind.wrap IntKind.i64 (Int.tdiv (IntKind.wrap IntKind.i64 (n0 + 719468)) 146097) * 146097)) - IntKind.wrap IntKind.i64 (IntKind.wrap IntKind.i64 (IntKind.wrap IntKind.i64 (365 * IntKind.wrap IntKind.i64 (Int.tdiv (IntKind.wrap IntKind.i64 (IntKind.wrap IntKind.i64 (IntKind.wrap IntKind.i64 (IntKind.wrap IntKind.i64 (IntKind.wrap IntKind.i64 (n0 + 719468) - IntKind.wrap IntKind.i64 (IntKind.wrap IntKind.i64 (Int.tdiv (IntKind.wrap IntKind.i64 (n0 + 719468)) 146097) * 146097)) - IntKind.wrap IntKind.i64 (Int.tdiv (IntKind.wrap IntKind.i64 (IntKind.wrap IntKind.i64 (n0 + 719468) - IntKind.wrap IntKind.i64 (IntKind.wrap IntKind.i64 (Int.tdiv (IntKind.wrap IntKind.i64 (n0 + 719468)) 146097) * 146097))) 1460)) + IntKind.wrap IntKind.i64 (Int.tdiv (IntKind.wrap IntKind.i64 (IntKind.wrap IntKind.i64 (n0 + 719468) - IntKind.wrap IntKind.i64 (IntKind.wrap IntKind.i64 (Int.tdiv (IntKind.wrap IntKind.i64 (n0 + 719468)) 146097) * 146097))) 36524)) - IntKind.wrap IntKind.i64 (Int.tdiv (IntKind.wrap IntKind.i64 (IntKind.wrap IntKind.i64 (n0 + 719468) - IntKind.wrap IntKind.i64 (IntKind.wrap IntKind.i64 (Int.tdiv (IntKind.wrap IntKind.i64 (n0 + 719468)) 146097) * 146097))) 146096))) 365)) + IntKind.wrap IntKind.i64 (Int.tdiv (IntKind.wrap IntKind.i64 (Int.tdiv (IntKind.wrap IntKind.i64 (IntKind.wrap IntKind.i64 (IntKind.wrap IntKind.i64 (IntKind.wrap IntKind.i64 (IntKind.wrap IntKind.i64 (n0 + 719468) - IntKind.wrap IntKind.i64 (IntKind.wrap IntKind.i64 (Int.tdiv (IntKind.wrap IntKind.i64 (n0 + 719468)) 146097) * 146097)) - IntKind.wrap IntKind.i64 (Int.tdiv (IntKind.wrap IntKind.i64 (IntKind.wrap IntKind.i64 (n0 + 719468) - IntKind.wrap IntKind.i64 (IntKind.wrap IntKind.i64 (Int.tdiv (IntKind.wrap IntKind.i64 (n0 + 719468)) 146097) * 146097))) 1460)) + IntKind.wrap IntKind.i64 (Int.tdiv (IntKind.wrap IntKind.i64 (IntKind.wrap IntKind.i64 (n0 + 719468) - IntKind.wrap IntKind.i64 (IntKind.wrap IntKind.i64 (Int.tdiv (IntKind.wrap IntKind.i64 (n0 + 719468)) 146097) * 146097))) 36524)) - IntKind.wrap IntKind.i64 (Int.tdiv (IntKind.wrap IntKind.i64 (IntKind.wrap IntKind.i64 (n0 + 719468) - IntKind.wrap IntKind.i64 (IntKind.wrap IntKind.i64 (Int.tdiv (IntKind.wrap IntKind.i64 (n0 + 719468)) 146097) * 146097))) 146096))) 365)) 4)) - IntKind.wrap IntKind.i64 (Int.tdiv (IntKind.wrap IntKind.i64 (Int.tdiv (IntKind.wrap IntKind.i64 (IntKind.wrap IntKind.i64 (IntKind.wrap IntKind.i64 (IntKind.wrap IntKind.i64 (IntKind.wrap IntKind.i64 (n0 + 719468) - IntKind.wrap IntKind.i64 (IntKind.wrap IntKind.i64 (Int.tdiv (IntKind.wrap IntKind.i64 (n0 + 719468)) 146097) * 146097)) - IntKind.wrap IntKind.i64 (Int.tdiv (IntKind.wrap IntKind.i64 (IntKind.wrap IntKind.i64 (n0 + 719468) - IntKind.wrap IntKind.i64 (IntKind.wrap IntKind.i64 (Int.tdiv (IntKind.wrap IntKind.i64 (n0 + 719468)) 146097) * 146097))) 1460)) + IntKind.wrap IntKind.i64 (Int.tdiv (IntKind.wrap IntKind.i64 (IntKind.wrap IntKind.i64 (n0 + 719468) - IntKind.wrap IntKind.i64 (IntKind.wrap IntKind.i64 (Int.tdiv (IntKind.wrap IntKind.i64 (n0 + 719468)) 146097) * 146097))) 36524)) - IntKind.wrap IntKind.i64 (Int.tdiv (IntKind.wrap IntKind.i64 (IntKind.wrap IntKind.i64 (n0 + 719468) - IntKind.wrap IntKind.i64 (IntKind.wrap IntKind.i64 (Int.tdiv (IntKind.wrap IntKind.i64 (n0 + 719468)) 146097) * 146097))) 146096))) 365)) 100))) - IntKind.wrap IntKind.i64 (Int.tdiv (IntKind.wrap IntKind.i64 (IntKind.wrap IntKind.i64 (153 * IntKind.wrap IntKind.i64 (Int.tdiv (IntKind.wrap IntKind.i64 (IntKind.wrap IntKind.i64 (5 * IntKind.wrap IntKind.i64 (IntKind.wrap IntKind.i64 (IntKind.wrap IntKind.i64 (n0 + 719468) - IntKind.wrap IntKind.i64 (IntKind.wrap IntKind.i64 (Int.tdiv (IntKind.wrap IntKind.i64 (n0 + 719468)) 146097) * 146097)) - IntKind.wrap IntKind.i64 (IntKind.wrap IntKind.i64 (IntKind.wrap IntKind.i64 (365 * IntKind.wrap IntKind.i64 (Int.tdiv (IntKind.wrap IntKind.i64 (IntKind.wrap IntKind.i64 (IntKind.wrap IntKind.i64 (IntKind.wrap IntKind.i64 (IntKind.wrap IntKind.i64 (n0 + 719468) - IntKind.wrap IntKind.i64 (IntKind.wrap IntKind.i64 (Int.tdiv (IntKind.wrap IntKind.i64 (n0 + 719468)) 146097) * 146097)) - IntKind.wrap IntKind.i64 (Int.tdiv (IntKind.wrap IntKind.i64 (IntKind.wrap IntKind.i64 (n0 + 719468) - IntKind.wrap IntKind.i64 (IntKind.wrap IntKind.i64 (Int.tdiv (IntKind.wrap IntKind.i64 (n0 + 719468)) 146097) * 146097))) 1460)) + IntKind.wrap IntKind.i64 (Int.tdiv (IntKind.wrap IntKind.i64 (IntKind.wrap IntKind.i64 (n0 + 719468) - IntKind.wrap IntKind.i64 (IntKind.wrap IntKind.i64 (Int.tdiv (IntKind.wrap IntKind.i64 (n0 + 719468)) 146097) * 146097))) 36524)) - IntKind.wrap IntKind.i64 (Int.tdiv (IntKind.wrap IntKind.i64 (IntKind.wrap IntKind.i64 (n0 + 719468) - IntKind.wrap IntKind.i64 (IntKind.wrap IntKind.i64 (Int.tdiv (IntKind.wrap IntKind.i64 (n0 + 719468)) 146097) * 146097))) 146096))) 365)) + IntKind.wrap IntKind.i64 (Int.tdiv (IntKind.wrap IntKind.i64 (Int.tdiv (IntKind.wrap IntKind.i64 (IntKind.wrap IntKind.i64 (IntKind.wrap IntKind.i64 (IntKind.wrap IntKind.i64 (IntKind.wrap IntKind.i64 (n0 + 719468) - IntKind.wrap IntKind.i64 (IntKind.wrap IntKind.i64 (Int.tdiv (IntKind.wrap IntKind.i64 (n0 + 719468)) 146097) * 146097)) - IntKind.wrap IntKind.i64 (Int.tdiv (IntKind.wrap IntKind.i64 (IntKind.wrap IntKind.i64 (n0 + 719468) - IntKind.wrap IntKind.i64 (IntKind.wrap IntKind.i64 (Int.tdiv (IntKind.wrap IntKind.i64 (n0 + 719468)) 146097) * 146097))) 1460)) + IntKind.wrap IntKind.i64 (Int.tdiv (IntKind.wrap IntKind.i64 (IntKind.wrap IntKind.i64 (n0 + 719468) - IntKind.wrap IntKind.i64 (IntKind.wrap IntKind.i64 (Int.tdiv (IntKind.wrap IntKind.i64 (n0 + 719468)) 146097) * 146097))) 36524)) - IntKind.wrap IntKind.i64 (Int.tdiv (IntKind.wrap IntKind.i64 (IntKind.wrap IntKind.i64 (n0 + 719468) - IntKind.wrap IntKind.i64 (IntKind.wrap IntKind.i64 (Int.tdiv (IntKind.wrap IntKind.i64 (n0 + 719468)) 146097) * 146097))) 146096))) 365)) 4)) - IntKind.wrap IntKind.i64 (Int.tdiv (IntKind.wrap IntKind.i64 (Int.tdiv (IntKind.wrap IntKind.i64 (IntKind.wrap IntKind.i64 (IntKind.wrap IntKind.i64 (IntKind.wrap IntKind.i64 (IntKind.wrap IntKind.i64 (n0 + 719468) - IntKind.wrap IntKind.i64 (IntKind.wrap IntKind.i64 (Int.tdiv (IntKind.wrap IntKind.i64 (n0 + 719468)) 146097) * 146097)) - IntKind.wrap IntKind.i64 (Int.tdiv (IntKind.wrap IntKind.i64 (IntKind.wrap IntKind.i64 (n0 + 719468) - IntKind.wrap IntKind.i64 (IntKind.wrap IntKind.i64 (Int.tdiv (IntKind.wrap IntKind.i64 (n0 + 719468)) 146097) * 146097))) 1460)) + IntKind.wrap IntKind.i64 (Int.tdiv (IntKind.wrap IntKind.i64 (IntKind.wrap IntKind.i64 (n0 + 719468) - IntKind.wrap IntKind.i64 (IntKind.wrap IntKind.i64 (Int.tdiv (IntKind.wrap IntKind.i64 (n0 + 719468)) 146097) * 146097))) 36524)) - IntKind.wrap IntKind.i64 (Int.tdiv (IntKind.wrap IntKind.i64 (IntKind.wrap IntKind.i64 (n0 + 719468) - IntKind.wrap IntKind.i64 (IntKind.wrap IntKind.i64 (Int.tdiv (IntKind.wrap IntKind.i64 (n0 + 719468)) 146097) * 146097))) 146096))) 365)) 100)))) + 2)) 153)) + 2)) 5)) + 1))]))
  (cond (decide (IntKind.wrap IntKind.i64 (IntKind.wrap IntKind.i64 (Int.tdiv (IntKind.wrap IntKind.i64 (IntKind.wrap IntKind.i64 (5 * IntKind.wrap IntKind.i64 (IntKind.wrap IntKind.i64 (IntKind.wrap IntKind.i64 (n0 + 719468) - IntKind.wrap IntKind.i64 (IntKind.wrap IntKind.i64 (Int.tdiv (IntKind.wrap IntKind.i64 (n0 + 719468)) 146097) * 146097)) - IntKind.wrap IntKind.i64 (IntKind.wrap IntKind.i64 (IntKind.wrap IntKind.i64 (365 * IntKind.wrap IntKind.i64 (Int.tdiv (IntKind.wrap IntKind.i64 (IntKind.wrap IntKind.i64 (IntKind.wrap IntKind.i64 (IntKind.wrap IntKind.i64 (IntKind.wrap IntKind.i64 (n0 + 719468) - IntKind.wrap IntKind.i64 (IntKind.wrap IntKind.i64 (Int.tdiv (IntKind.wrap IntKind.i64 (n0 + 719468)) 146097) * 146097)) - IntKind.wrap IntKind.i64 (Int.tdiv (IntKind.wrap IntKind.i64 (IntKind.wrap IntKind.i64 (n0 + 719468) - IntKind.wrap IntKind.i64 (IntKind.wrap IntKind.i64 (Int.tdiv (IntKind.wrap IntKind.i64 (n0 + 719468)) 146097) * 146097))) 1460)) + IntKind.wrap IntKind.i64 (Int.tdiv (IntKind.wrap IntKind.i64 (IntKind.wrap IntKind.i64 (n0 + 719468) - IntKind.wrap IntKind.i64 (IntKind.wrap IntKind.i64 (Int.tdiv (IntKind.wrap IntKind.i64 (n0 + 719468)) 146097) * 146097))) 36524)) - IntKind.wrap IntKind.i64 (Int.tdiv (IntKind.wrap IntKind.i64 (IntKind.wrap IntKind.i64 (n0 + 719468) - IntKind.wrap IntKind.i64 (IntKind.wrap IntKind.i64 (Int.tdiv (IntKind.wrap IntKind.i64 (n0 + 719468)) 146097) * 146097))) 146096))) 365)) + IntKind.wrap IntKind.i64 (Int.tdiv (IntKind.wrap IntKind.i64 (Int.tdiv (IntKind.wrap IntKind.i64 (IntKind.wrap IntKind.i64 (IntKind.wrap IntKind.i64 (IntKind.wrap IntKind.i64 (IntKind.wrap IntKind.i64 (n0 + 719468) - IntKind.wrap IntKind.i64 (IntKind.wrap IntKind.i64 (Int.tdiv (IntKind.wrap IntKind.i64 (n0 + 719468)) 146097) * 146097)) - IntKind.wrap IntKind.i64 (Int.tdiv (IntKind.wrap IntKind.i64 (IntKind.wrap IntKind.i64 (n0 + 719468) - IntKind.wrap IntKind.i64 (IntKind.wrap IntKind.i64 (Int.tdiv (IntKind.wrap IntKind.i64 (n0 + 719468)) 146097) * 146097))) 1460)) + IntKind.wrap IntKind.i64 (Int.tdiv (IntKind.wrap IntKind.i64 (IntKind.wrap IntKind.i64 (n0 + 719468) - IntKind.wrap IntKind.i64 (IntKind.wrap IntKind.i64 (Int.tdiv (IntKind.wrap IntKind.i64 (n0 + 719468)) 146097) * 146097))) 36524)) - IntKind.wrap IntKind.i64 (Int.tdiv (IntKind.wrap IntKind.i64 (IntKind.wrap IntKind.i64 (n0 + 719468) - IntKind.wrap IntKind.i64 (IntKind.wrap IntKind.i64 (Int.tdiv (IntKind.wrap IntKind.i64 (n0 + 719468)) 146097) * 146097))) 146096))) 365)) 4)) - IntKind.wrap IntKind.i64 (Int.tdiv (IntKind.wrap IntKind.i64 (Int.tdiv (IntKind.wrap IntKind.i64 (IntKind.wrap IntKind.i64 (IntKind.wrap IntKind.i64 (IntKind.wrap IntKind.i64 (IntKind.wrap IntKind.i64 (n0 + 719468) - IntKind.wrap IntKind.i64 (IntKind.wrap IntKind.i64 (Int.tdiv (IntKind.wrap IntKind.i64 (n0 + 719468)) 146097) * 146097)) - IntKind.wrap IntKind.i64 (Int.tdiv (IntKind.wrap IntKind.i64 (IntKind.wrap IntKind.i64 (n0 + 719468) - IntKind.wrap IntKind.i64 (IntKind.wrap IntKind.i64 (Int.tdiv (IntKind.wrap IntKind.i64 (n0 + 719468)) 146097) * 146097))) 1460)) + IntKind.wrap IntKind.i64 (Int.tdiv (IntKind.wrap IntKind.i64 (IntKind.wrap IntKind.i64 (n0 + 719468) - IntKind.wrap IntKind.i64 (IntKind.wrap IntKind.i64 (Int.tdiv (IntKind.wrap IntKind.i64 (n0 + 719468)) 146097) * 146097))) 36524)) - IntKind.wrap IntKind.i64 (Int.tdiv (IntKind.wrap IntKind.i64 (IntKind.wrap IntKind.i64 (n0 + 719468) - IntKind.wrap IntKind.i64 (IntKind.wrap IntKind.i64 (Int.tdiv (IntKind.wrap IntKind.i64 (n0 + 719468)) 146097) * 146097))) 146096))) 365)) 100)))) + 2)) 153) + 3) ≤ 2))
    (some [D.int (IntKind.wrap IntKind.i64 (IntKind.wrap IntKind.i64 (IntKind.wrap IntKind.i64 (Int.tdiv (IntKind.wrap IntKind.i64 (IntKind.wrap IntKind.i64 (IntKind.wrap IntKind.i64 (IntKind.wrap IntKind.i64 (IntKind.wrap IntKind.i64 (n0 + 719468) - IntKind.wrap IntKind.i64 (IntKind.wrap IntKind.i64 (Int.tdiv (IntKind.wrap IntKind.i64 (n0 + 719468)) 146097) * 146097)) - IntKind.wrap IntKind.i64 (Int.tdiv (IntKind.wrap IntKind.i64 (IntKind.wrap IntKind.i64 (n0 + 719468) - IntKind.wrap IntKind.i64 (IntKind.wrap IntKind.i64 (Int.tdiv (IntKind.wrap IntKind.i64 (n0 + 719468)) 146097) * 146097))) 1460)) + IntKind.wrap IntKind.i64 (Int.tdiv (IntKind.wrap IntKind.i64 (IntKind.wrap IntKind.i64 (n0 + 719468) - IntKind.wrap IntKind.i64 (IntKind.wrap IntKind.i64 (Int.tdiv (IntKind.wrap IntKind.i64 (n0 + 719468)) 146097) * 146097))) 36524)) - IntKind.wrap IntKind.i64 (Int.tdiv (IntKind.wrap IntKind.i64 (IntKind.wrap IntKind.i64 (n0 + 719468) - IntKind.wrap IntKind.i64 (IntKind.wrap IntKind.i64 (Int.tdiv (IntKind.wrap IntKind.i64 (n0 + 719468)) 146097) * 146097))) 146096))) 365) + IntKind.wrap IntKind.i64 (IntKind.wrap IntKind.i64 (Int.tdiv (IntKind.wrap IntKind.i64 (n0 + 719468)) 146097) * 400)) + 1)), D.int (IntKind.wrap IntKind.i64 (IntKind.wrap IntKind.i64 (Int.tdiv (IntKind.wrap IntKind.i64 (IntKind.wrap IntKind.i64 (5 * IntKind.wrap IntKind.i64 (IntKind.wrap IntKind.i64 (IntKind.wrap IntKind.i64 (n0 + 719468) - IntKind.wrap IntKind.i64 (IntKind.wrap IntKind.i64 (Int.tdiv (IntKind.wrap IntKind.i64 (n0 + 719468)) 146097) * 146097)) - IntKind.wrap IntKind.i64 (IntKind.wrap IntKind.i64 (IntKind.wrap IntKind.i64 (365 * IntKind.wrap IntKind.i64 (Int.tdiv (IntKind.wrap IntKind.i64 (IntKind.wrap IntKind.i64 (IntKind.wrap IntKind.i64 (IntKind.wrap IntKind.i64 (IntKind.wrap IntKind.i64 (n0 + 719468) - IntKind.wrap IntKind.i64 (IntKind.wrap IntKind.i64 (Int.tdiv (IntKind.wrap IntKind.i64 (n0 + 719468)) 146097) * 146097)) - IntKind.wrap IntKind.i64 (Int.tdiv (IntKind.wrap IntKind.i64 (IntKind.wrap IntKind.i64 (n0 + 719468) - IntKind.wrap IntKind.i64 (IntKind.wrap IntKind.i64 (Int.tdiv (IntKind.wrap IntKind.i64 (n0 + 719468)) 146097) * 146097))) 1460)) + IntKind.wrap IntKind.i64 (Int.tdiv (IntKind.wrap IntKind.i64 (IntKind.wrap IntKind.i64 (n0 + 719468) - IntKind.wrap IntKind.i64 (IntKind.wrap IntKind.i64 (Int.tdiv (IntKind.wrap IntKind.i64 (n0 + 719468)) 146097) * 146097))) 36524)) - IntKind.wrap IntKind.i64 (Int.tdiv (IntKind.wrap IntKind.i64 (IntKind.wrap IntKind.i64 (n0 + 719468) - IntKind.wrap IntKind.i64 (IntKind.wrap IntKind.i64 (Int.tdiv (IntKind.wrap IntKind.i64 (n0 + 719468)) 146097) * 146097))) 146096))) 365)) + IntKind.wrap IntKind.i64 (Int.tdiv (IntKind.wrap IntKind.i64 (Int.tdiv (IntKind.wrap IntKind.i64 (IntKind.wrap IntKind.i64 (IntKind.wrap IntKind.i64 (IntKind.wrap IntKind.i64 (IntKind.wrap IntKind.i64 (n0 + 719468) - IntKind.wrap IntKind.i64 (IntKind.wrap IntKind.i64 (Int.tdiv (IntKind.wrap IntKind.i64 (n0 + 719468)) 146097) * 146097)) - IntKind.wrap IntKind.i64 (Int.tdiv (IntKind.wrap IntKind.i64 (IntKind.wrap IntKind.i64 (n0 + 719468) - IntKind.wrap IntKind.i64 (IntKind.wrap IntKind.i64 (Int.tdiv (IntKind.wrap IntKind.i64 (n0 + 719468)) 146097) * 146097))) 1460)) + IntKind.wrap IntKind.i64 (Int.tdiv (IntKind.wrap IntKind.i64 (IntKind.wrap IntKind.i64 (n0 + 719468) - IntKind.wrap IntKind.i64 (IntKind.wrap IntKind.i64 (Int.tdiv (IntKind.wrap IntKind.i64 (n0 + 719468)) 146097) * 146097))) 36524)) - IntKind.wrap IntKind.i64 (Int.tdiv (IntKind.wrap IntKind.i64 (IntKind.wrap IntKind.i64 (n0 + 719468) - IntKind.wrap IntKind.i64 (IntKind.wrap IntKind.i64 (Int.tdiv (IntKind.wrap IntKind.i64 (n0 + 719468)) 146097) * 146097))) 146096))) 365)) 4)) - IntKind.wrap IntKind.i64 (Int.tdiv (IntKind.wrap IntKind.i64 (Int.tdiv (IntKind.wrap IntKind.i64 (IntKind.wrap IntKind.i64 (IntKind.wrap IntKind.i64 (IntKind.wrap IntKind.i64 (IntKind.wrap IntKind.i64 (n0 + 719468) - IntKind.wrap IntKind.i64 (IntKind.wrap IntKind.i64 (Int.tdiv (IntKind.wrap IntKind.i64 (n0 + 719468)) 146097) * 146097)) - IntKind.wrap IntKind.i64 (Int.tdiv (IntKind.wrap IntKind.i64 (IntKind.wrap IntKind.i64 (n0 + 719468) - IntKind.wrap IntKind.i64 (IntKind.wrap IntKind.i64 (Int.tdiv (IntKind.wrap IntKind.i64 (n0 + 719468)) 146097) * 146097))) 1460)) + IntKind.wrap IntKind.i64 (Int.tdiv (IntKind.wrap IntKind.i64 (IntKind.wrap IntKind.i64 (n0 + 719468) - IntKind.wrap IntKind.i64 (IntKind.wrap IntKind.i64 (Int.tdiv (IntKind.wrap IntKind.i64 (n0 + 719468)) 146097) * 146097))) 36524)) - IntKind.wrap IntKind.i64 (Int.tdiv (IntKind.wrap IntKind.i64 (IntKind.wrap IntKind.i64 (n0 + 719468) - IntKind.wrap IntKind.i64 (IntKind.wrap IntKind.i64 (Int.tdiv (IntKind.wrap IntKind.i64 (n0 + 719468)) 146097) * 146097))) 146096))) 365)) 100)))) + 2)) 153) + 3)), D.int (IntKind.wrap IntKind.i64 (IntKind.wrap IntKind.i64 (IntKind.wrap IntKind.i64 (IntKind.wrap IntKind.i64 (IntKind.wrap IntKind.i64 (n0 + 719468) - IntKind.wrap IntKind.i64 (IntKind.wrap IntKind.i64 (Int.tdiv (IntKind.wrap IntKind.i64 (n0 + 719468)) 146097) * 146097)) - IntKind.wrap IntKind.i64 (IntKind.wrap IntKind.i64 (IntKind.wrap IntKind.i64 (365 * IntKind.wrap IntKind.i64 (Int.tdiv (IntKind.wrap IntKind.i64 (IntKind.wrap IntKind.i64 (IntKind.wrap IntKind.i64 (IntKind.wrap IntKind.i64 (IntKind.wrap IntKind.i64 (n0 + 719468) - IntKind.wrap IntKind.i64 (IntKind.wrap IntKind.i64 (Int.tdiv (IntKind.wrap IntKind.i64 (n0 + 719468)) 146097) * 146097)) - IntKind.wrap IntKind.i64 (Int.tdiv (IntKind.wrap IntKind.i64 (IntKind.wrap IntKind.i64 (n0 + 719468) - IntKind.wrap IntKind.i64 (IntKind.wrap IntKind.i64 (Int.tdiv (IntKind.wrap IntKind.i64 (n0 + 719468)) 146097) * 146097))) 1460)) + IntKind.wrap IntKind.i64 (Int.tdiv (IntKind.wrap IntKind.i64 (IntKind.wrap IntKind.i64 (n0 + 719468) - IntKind.wrap IntKind.i64 (IntKind.wrap IntKind.i64 (Int.tdiv (IntKind.wrap IntKind.i64 (n0 + 719468)) 146097) * 146097))) 36524)) - IntKind.wrap IntKind.i64 (Int.tdiv (IntKind.wrap IntKind.i64 (IntKind.wrap IntKind.i64 (n0 + 719468) - IntKind.wrap IntKind.i64 (IntKind.wrap IntKind.i64 (Int.tdiv (IntKind.wrap IntKind.i64 (n0 + 719468)) 146097) * 146097))) 146096))) 365)) + IntKind.wrap IntKind.i64 (Int.tdiv (IntKind.wrap IntKind.i64 (Int.tdiv (IntKind.wrap IntKind.i64 (IntKind.wrap IntKind.i64 (IntKind.wrap IntKind.i64 (IntKind.wrap IntKind.i64 (IntKind.wrap IntKind.i64 (n0 + 719468) - IntKind.wrap IntKind.i64 (IntKind.wrap IntKind.i64 (Int.tdiv (IntKind.wrap IntKind.i64 (n0 + 719468)) 146097) * 146097)) - IntKind.wrap IntKind.i64 (Int.tdiv (IntKind.wrap IntKind.i64 (IntKind.wrap IntKind.i64 (n0 + 719468) - IntKind.wrap IntKind.i64 (IntKind.wrap IntKind.i64 (Int.tdiv (IntKind.wrap IntKind.i64 (n0 + 719468)) 146097) * 146097))) 1460)) + IntKind.wrap IntKind.i64 (Int.tdiv (IntKind.wrap IntKind.i64 (IntKind.wrap IntKind.i64 (n0 + 719468) - IntKind.wrap IntKind.i64 (IntKind.wrap IntKind.i64 (Int.tdiv (IntKind.wrap IntKind.i64 (n0 + 719468)) 146097) * 146097))) 36524)) - IntKind.wrap IntKind.i64 (Int.tdiv (IntKind.wrap IntKind.i64 (IntKind.wrap IntKind.i64 (n0 + 719468) - IntKind.wrap IntKind.i64 (IntKind.wrap IntKind.i64 (Int.tdiv (IntKind.wrap IntKind.i64 (n0 + 719468)) 146097) * 146097))) 146096))) 365)) 4)) - IntKind.wrap IntKind.i64 (Int.tdiv (IntKind.wrap IntKind.i64 (Int.tdiv (IntKind.wrap IntKind.i64 (IntKind.wrap IntKind.i64 (IntKind.wrap IntKind.i64 (IntKind.wrap IntKind.i64 (IntKind.wrap IntKind.i64 (n0 + 719468) - IntKind.wrap IntKind.i64 (IntKind.wrap IntKind.i64 (Int.tdiv (IntKind.wrap IntKind.i64 (n0 + 719468)) 146097) * 146097)) - IntKind.wrap IntKind.i64 (Int.tdiv (IntKind.wrap IntKind.i64 (IntKind.wrap IntKind.i64 (n0 + 719468) - IntKind.wrap IntKind.i64 (IntKind.wrap IntKind.i64 (Int.tdiv (IntKind.wrap IntKind.i64 (n0 + 719468)) 146097) * 146097))) 1460)) + IntKind.wrap IntKind.i64 (Int.tdiv (IntKind.wrap IntKind.i64 (IntKind.wrap IntKind.i64 (n0 + 719468) - IntKind.wrap IntKind.i64 (IntKind.wrap IntKind.i64 (Int.tdiv (IntKind.wrap IntKind.i64 (n0 + 719468)) 146097) * 146097))) 36524)) - IntKind.wrap IntKind.i64 (Int.tdiv (IntKind.wrap IntKind.i64 (IntKind.wrap IntKind.i64 (n0 + 719468) - IntKind.wrap IntKind.i64 (IntKind.wrap IntKind.i64 (Int.tdiv (IntKind.wrap IntKind.i64 (n0 + 719468)) 146097) * 146097))) 146096))) 365)) 100))) - IntKind.wrap IntKind.i64 (Int.tdiv (IntKind.wrap IntKind.i64 (IntKind.wrap IntKind.i64 (153 * IntKind.wrap IntKind.i64 (Int.tdiv (IntKind.wrap IntKind.i64 (IntKind.wrap IntKind.i64 (5 * IntKind.wrap IntKind.i64 (IntKind.wrap IntKind.i64 (IntKind.wrap IntKind.i64 (n0 + 719468) - IntKind.wrap IntKind.i64 (IntKind.wrap IntKind.i64 (Int.tdiv (IntKind.wrap IntKind.i64 (n0 + 719468)) 146097) * 146097)) - IntKind.wrap IntKind.i64 (IntKind.wrap IntKind.i64 (IntKind.wrap IntKind.i64 (365 * IntKind.wrap IntKind.i64 (Int.tdiv (IntKind.wrap IntKind.i64 (IntKind.wrap IntKind.i64 (IntKind.wrap IntKind.i64 (IntKind.wrap IntKind.i64 (IntKind.wrap IntKind.i64 (n0 + 719468) - IntKind.wrap IntKind.i64 (IntKind.wrap IntKind.i64 (Int.tdiv (IntKind.wrap IntKind.i64 (n0 + 719468)) 146097) * 146097)) - IntKind.wrap IntKind.i64 (Int.tdiv (IntKind.wrap IntKind.i64 (IntKind.wrap IntKind.i64 (n0 + 719468) - IntKind.wrap IntKind.i64 (IntKind.wrap IntKind.i64 (Int.tdiv (IntKind.wrap IntKind.i64 (n0 + 719468)) 146097) * 146097))) 1460)) + IntKind.wrap IntKind.i64 (Int.tdiv (IntKind.wrap IntKind.i64 (IntKind.wrap IntKind.i64 (n0 + 719468) - IntKind.wrap IntKind.i64 (IntKind.wrap IntKind.i64 (Int.tdiv (IntKind.wrap IntKind.i64 (n0 + 719468)) 146097) * 146097))) 36524)) - IntKind.wrap IntKind.i64 (Int.tdiv (IntKind.wrap IntKind.i64 (IntKind.wrap IntKind.i64 (n0 + 719468) - IntKind.wrap IntKind.i64 (IntKind.wrap IntKind.i64 (Int.tdiv (IntKind.wrap IntKind.i64 (n0 + 719468)) 146097) * 146097))) 146096))) 365)) + IntKind.wrap IntKind.i64 (Int.tdiv (IntKind.wrap IntKind.i64 (Int.tdiv (IntKind.wrap IntKind.i64 (IntKind.wrap IntKind.i64 (IntKind.wrap IntKind.i64 (IntKind.wrap IntKind.i64 (IntKind.wrap IntKind.i64 (n0 + 719468) - IntKind.wrap IntKind.i64 (IntKind.wrap IntKind.i64 (Int.tdiv (IntKind.wrap IntKind.i64 (n0 + 719468)) 146097) * 146097)) - IntKind.wrap IntKind.i64 (Int.tdiv (IntKind.wrap IntKind.i64 (IntKind.wrap IntKind.i64 (n0 + 719468) - IntKind.wrap IntKind.i64 (IntKind.wrap IntKind.i64 (Int.tdiv (IntKind.wrap IntKind.i64 (n0 + 719468)) 146097) * 146097))) 1460)) + IntKind.wrap IntKind.i64 (Int.tdiv (IntKind.wrap IntKind.i64 (IntKind.wrap IntKind.i64 (n0 + 719468) - IntKind.wrap IntKind.i64 (IntKind.wrap IntKind.i64 (Int.tdiv (IntKind.wrap IntKind.i64 (n0 + 719468)) 146097) * 146097))) 36524)) - IntKind.wrap IntKind.i64 (Int.tdiv (IntKind.wrap IntKind.i64 (IntKind.wrap IntKind.i64 (n0 + 719468) - IntKind.wrap IntKind.i64 (IntKind.wrap IntKind.i64 (Int.tdiv (IntKind.wrap IntKind.i64 (n0 + 719468)) 146097) * 146097))) 146096))) 365)) 4)) - IntKind.wrap IntKind.i64 (Int.tdiv (IntKind.wrap IntKind.i64 (Int.tdiv (IntKind.wrap IntKind.i64 (IntKind.wrap IntKind.i64 (IntKind.wrap IntKind.i64 (IntKind.wrap IntKind.i64 (IntKind.wrap IntKind.i64 (n0 + 719468) - IntKind.wrap IntKind.i64 (IntKind.wrap IntKind.i64 (Int.tdiv (IntKind.wrap IntKind.i64 (n0 + 719468)) 146097) * 146097)) - IntKind.wrap IntKind.i64 (Int.tdiv (IntKind.wrap IntKind.i64 (IntKind.wrap IntKind.i64 (n0 + 719468) - IntKind.wrap IntKind.i64 (IntKind.wrap IntKind.i64 (Int.tdiv (IntKind.wrap IntKind.i64 (n0 + 719468)) 146097) * 146097))) 1460)) + IntKind.wrap IntKind.i64 (Int.tdiv (IntKind.wrap IntKind.i64 (IntKind.wrap IntKind.i64 (n0 + 719468) - IntKind.wrap IntKind.i64 (IntKind.wrap IntKind.i64 (Int.tdiv (IntKind.wrap IntKind.i64 (n0 + 719468)) 146097) * 146097))) 36524)) - IntKind.wrap IntKind.i64 (Int.tdiv (IntKind.wrap IntKind.i64 (IntKind.wrap IntKind.i64 (n0 + 719468) - IntKind.wrap IntKind.i64 (IntKind.wrap IntKind.i64 (Int.tdiv (IntKind.wrap IntKind.i64 (n0 + 719468)) 146097) * 146097))) 146096))) 365)) 100)))) + 2)) 153)) + 2)) 5)) + 1))])
    (some [D.int (IntKind.wrap IntKind.i64 (IntKind.wrap IntKind.i64 (Int.tdiv (IntKind.wrap IntKind.i64 (IntKind.wrap IntKind.i64 (IntKind.wrap IntKind.i64 (IntKind.wrap IntKind.i64 (IntKind.wrap IntKind.i64 (n0 + 719468) - IntKind.wrap IntKind.i64 (IntKind.wrap IntKind.i64 (Int.tdiv (IntKind.wrap IntKind.i64 (n0 + 719468)) 146097) * 146097)) - IntKind.wrap IntKind.i64 (Int.tdiv (IntKind.wrap IntKind.i64 (IntKind.wrap IntKind.i64 (n0 + 719468) - IntKind.wrap IntKind.i64 (IntKind.wrap IntKind.i64 (Int.tdiv (IntKind.wrap IntKind.i64 (n0 + 719468)) 146097) * 146097))) 1460)) + IntKind.wrap IntKind.i64 (Int.tdiv (IntKind.wrap IntKind.i64 (IntKind.wrap IntKind.i64 (n0 + 719468) - IntKind.wrap IntKind.i64 (IntKind.wrap IntKind.i64 (Int.tdiv (IntKind.wrap IntKind.i64 (n0 + 719468)) 146097) * 146097))) 36524)) - IntKind.wrap IntKind.i64 (Int.tdiv (IntKind.wrap IntKind.i64 (IntKind.wrap IntKind.i64 (n0 + 719468) - IntKind.wrap IntKind.i64 (IntKind.wrap IntKind.i64 (Int.tdiv (IntKind.wrap IntKind.i64 (n0 + 719468)) 146097) * 146097))) 146096))) 365) + IntKind.wrap IntKind.i64 (IntKind.wrap IntKind.i64 (Int.tdiv (IntKind.wrap IntKind.i64 (n0 + 719468)) 146097) * 400))), D.int (IntKind.wrap IntKind.i64 (IntKind.wrap IntKind.i64 (Int.tdiv (IntKind.wrap IntKind.i64 (IntKind.wrap IntKind.i64 (5 * IntKind.wrap IntKind.i64 (IntKind.wrap IntKind.i64 (IntKind.wrap IntKind.i64 (n0 + 719468) - IntKind.wrap IntKind.i64 (IntKind.wrap IntKind.i64 (Int.tdiv (IntKind.wrap IntKind.i64 (n0 + 719468)) 146097) * 146097)) - IntKind.wrap IntKind.i64 (IntKind.wrap IntKind.i64 (IntKind.wrap IntKind.i64 (365 * IntKind.wrap IntKind.i64 (Int.tdiv (IntKind.wrap IntKind.i64 (IntKind.wrap IntKind.i64 (IntKind.wrap IntKind.i64 (IntKind.wrap IntKind.i64 (IntKind.wrap IntKind.i64 (n0 + 719468) - IntKind.wrap IntKind.i64 (IntKind.wrap IntKind.i64 (Int.tdiv (IntKind.wrap IntKind.i64 (n0 + 719468)) 146097) * 146097)) - IntKind.wrap IntKind.i64 (Int.tdiv (IntKind.wrap IntKind.i64 (IntKind.wrap IntKind.i64 (n0 + 719468) - IntKind.wrap IntKind.i64 (IntKind.wrap IntKind.i64 (Int.tdiv (IntKind.wrap IntKind.i64 (n0 + 719468)) 146097) * 146097))) 1460)) + IntKind.wrap IntKind.i64 (Int.tdiv (IntKind.wrap IntKind.i64 (IntKind.wrap IntKind.i64 (n0 + 719468) - IntKind.wrap IntKind.i64 (IntKind.wrap IntKind.i64 (Int.tdiv (IntKind.wrap IntKind.i64 (n0 + 719468)) 146097) * 146097))) 36524)) - IntKind.wrap IntKind.i64 (Int.tdiv (IntKind.wrap IntKind.i64 (IntKind.wrap IntKind.i64 (n0 + 719468) - IntKind.wrap IntKind.i64 (IntKind.wrap IntKind.i64 (Int.tdiv (IntKind.wrap IntKind.i64 (n0 + 719468)) 146097) * 146097))) 146096))) 365)) + IntKind.wrap IntKind.i64 (Int.tdiv (IntKind.wrap IntKind.i64 (Int.tdiv (IntKind.wrap IntKind.i64 (IntKind.wrap IntKind.i64 (IntKind.wrap IntKind.i64 (IntKind.wrap IntKind.i64 (IntKind.wrap IntKind.i64 (n0 + 719468) - IntKind.wrap IntKind.i64 (IntKind.wrap IntKind.i64 (Int.tdiv (IntKind.wrap IntKind.i64 (n0 + 719468)) 146097) * 146097)) - IntKind.wrap IntKind.i64 (Int.tdiv (IntKind.wrap IntKind.i64 (IntKind.wrap IntKind.i64 (n0 + 719468) - IntKind.wrap IntKind.i64 (IntKind.wrap IntKind.i64 (Int.tdiv (IntKind.wrap IntKind.i64 (n0 + 719468)) 146097) * 146097))) 1460)) + IntKind.wrap IntKind.i64 (Int.tdiv (IntKind.wrap IntKind.i64 (IntKind.wrap IntKind.i64 (n0 + 719468) - IntKind.wrap IntKind.i64 (IntKind.wrap IntKind.i64 (Int.tdiv (IntKind.wrap IntKind.i64 (n0 + 719468)) 146097) * 146097))) 36524)) - IntKind.wrap IntKind.i64 (Int.tdiv (IntKind.wrap IntKind.i64 (IntKind.wrap IntKind.i64 (n0 + 719468) - IntKind.wrap IntKind.i64 (IntKind.wrap IntKind.i64 (Int.tdiv (IntKind.wrap IntKind.i64 (n0 + 719468)) 146097) * 146097))) 146096))) 365)) 4)) - IntKind.wrap IntKind.i64 (Int.tdiv (IntKind.wrap IntKind.i64 (Int.tdiv (IntKind.wrap IntKind.i64 (IntKind.wrap IntKind.i64 (IntKind.wrap IntKind.i64 (IntKind.wrap IntKind.i64 (IntKind.wrap IntKind.i64 (n0 + 719468) - IntKind.wrap IntKind.i64 (IntKind.wrap IntKind.i64 (Int.tdiv (IntKind.wrap IntKind.i64 (n0 + 719468)) 146097) * 146097)) - IntKind.wrap IntKind.i64 (Int.tdiv (IntKind.wrap IntKind.i64 (IntKind.wrap IntKind.i64 (n0 + 719468) - IntKind.wrap IntKind.i64 (IntKind.wrap IntKind.i64 (Int.tdiv (IntKind.wrap IntKind.i64 (n0 + 719468)) 146097) * 146097))) 1460)) + IntKind.wrap IntKind.i64 (Int.tdiv (IntKind.wrap IntKind.i64 (IntKind.wrap IntKind.i64 (n0 + 719468) - IntKind.wrap IntKind.i64 (IntKind.wrap IntKind.i64 (Int.tdiv (IntKind.wrap IntKind.i64 (n0 + 719468)) 146097) * 146097))) 36524)) - IntKind.wrap IntKind.i64 (Int.tdiv (IntKind.wrap IntKind.i64 (IntKind.wrap IntKind.i64 (n0 + 719468) - IntKind.wrap IntKind.i64 (IntKind.wrap IntKind.i64 (Int.tdiv (IntKind.wrap IntKind.i64 (n0 + 719468)) 146097) * 146097))) 146096))) 365)) 100)))) + 2)) 153) + 3)), D.int (IntKind.wrap IntKind.i64 (IntKind.wrap IntKind.i64 (IntKind.wrap IntKind.i64 (IntKind.wrap IntKind.i64 (IntKind.wrap IntKind.i64 (n0 + 719468) - IntKind.wrap IntKind.i64 (IntKind.wrap IntKind.i64 (Int.tdiv (IntKind.wrap IntKind.i64 (n0 + 719468)) 146097) * 146097)) - IntKind.wrap IntKind.i64 (IntKind.wrap IntKind.i64 (IntKind.wrap IntKind.i64 (365 * IntKind.wrap IntKind.i64 (Int.tdiv (IntKind.wrap IntKind.i64 (IntKind.wrap IntKind.i64 (IntKind.wrap IntKind.i64 (IntKind.wrap IntKind.i64 (IntKind.wrap IntKind.i64 (n0 + 719468) - IntKind.wrap IntKind.i64 (IntKind.wrap IntKind.i64 (Int.tdiv (IntKind.wrap IntKind.i64 (n0 + 719468)) 146097) * 146097)) - IntKind.wrap IntKind.i64 (Int.tdiv (IntKind.wrap IntKind.i64 (IntKind.wrap IntKind.i64 (n0 + 719468) - IntKind.wrap IntKind.i64 (IntKind.wrap IntKind.i64 (Int.tdiv (IntKind.wrap IntKind.i64 (n0 + 719468)) 146097) * 146097))) 1460)) + IntKind.wrap IntKind.i64 (Int.tdiv (IntKind.wrap IntKind.i64 (IntKind.wrap IntKind.i64 (n0 + 719468) - IntKind.wrap IntKind.i64 (IntKind.wrap IntKind.i64 (Int.tdiv (IntKind.wrap IntKind.i64 (n0 + 719468)) 146097) * 146097))) 36524)) - IntKind.wrap IntKind.i64 (Int.tdiv (IntKind.wrap IntKind.i64 (IntKind.wrap IntKind.i64 (n0 + 719468) - IntKind.wrap IntKind.i64 (IntKind.wrap IntKind.i64 (Int.tdiv (IntKind.wrap IntKind.i64 (n0 + 719468)) 146097) * 146097))) 146096))) 365)) + IntKind.wrap IntKind.i64 (Int.tdiv (IntKind.wrap IntKind.i64 (Int.tdiv (IntKind.wrap IntKind.i64 (IntKind.wrap IntKind.i64 (IntKind.wrap IntKind.i64 (IntKind.wrap IntKind.i64 (IntKind.wrap IntKind.i64 (n0 + 719468) - IntKind.wrap IntKind.i64 (IntKind.wrap IntKind.i64 (Int.tdiv (IntKind.wrap IntKind.i64 (n0 + 719468)) 146097) * 146097)) - IntKind.wrap IntKind.i64 (Int.tdiv (IntKind.wrap IntKind.i64 (IntKind.wrap IntKind.i64 (n0 + 719468) - IntKind.wrap IntKind.i64 (IntKind.wrap IntKind.i64 (Int.tdiv (IntKind.wrap IntKind.i64 (n0 + 719468)) 146097) * 146097))) 1460)) + IntKind.wrap IntKind.i64 (Int.tdiv (IntKind.wrap IntKind.i64 (IntKind.wrap IntKind.i64 (n0 + 719468) - IntKind.wrap IntKind.i64 (IntKind.wrap IntKind.i64 (Int.tdiv (IntKind.wrap IntKind.i64 (n0 + 719468)) 146097) * 146097))) 36524)) - IntKind.wrap IntKind.i64 (Int.tdiv (IntKind.wrap IntKind.i64 (IntKind.wrap IntKind.i64 (n0 + 719468) - IntKind.wrap IntKind.i64 (IntKind.wrap IntKind.i64 (Int.tdiv (IntKind.wrap IntKind.i64 (n0 + 719468)) 146097) * 146097))) 146096))) 365)) 4)) - IntKind.wrap IntKind.i64 (Int.tdiv (IntKind.wrap IntKind.i64 (Int.tdiv (IntKind.wrap IntKind.i64 (IntKind.wrap IntKind.i64 (IntKind.wrap IntKind.i64 (IntKind.wrap IntKind.i64 (IntKind.wrap IntKind.i64 (n0 + 719468) - IntKind.wrap IntKind.i64 (IntKind.wrap IntKind.i64 (Int.tdiv (IntKind.wrap IntKind.i64 (n0 + 719468)) 146097) * 146097)) - IntKind.wrap IntKind.i64 (Int.tdiv (IntKind.wrap IntKind.i64 (IntKind.wrap IntKind.i64 (n0 + 719468) - IntKind.wrap IntKind.i64 (IntKind.wrap IntKind.i64 (Int.tdiv (IntKind.wrap IntKind.i64 (n0 + 719468)) 146097) * 146097))) 1460)) + IntKind.wrap IntKind.i64 (Int.tdiv (IntKind.wrap IntKind.i64 (IntKind.wrap IntKind.i64 (n0 + 719468) - IntKind.wrap IntKind.i64 (IntKind.wrap IntKind.i64 (Int.tdiv (IntKind.wrap IntKind.i64 (n0 + 719468)) 146097) * 146097))) 36524)) - IntKind.wrap IntKind.i64 (Int.tdiv (IntKind.wrap IntKind.i64 (IntKind.wrap IntKind.i64 (n0 + 719468) - IntKind.wrap IntKind.i64 (IntKind.wrap IntKind.i64 (Int.tdiv (IntKind.wrap IntKind.i64 (n0 + 719468)) 146097) * 146097))) 146096))) 365)) 100))) - IntKind.wrap IntKind.i64 (Int.tdiv (IntKind.wrap IntKind.i64 (IntKind.wrap IntKind.i64 (153 * IntKind.wrap IntKind.i64 (Int.tdiv (IntKind.wrap IntKind.i64 (IntKind.wrap IntKind.i64 (5 * IntKind.wrap IntKind.i64 (IntKind.wrap IntKind.i64 (IntKind.wrap IntKind.i64 (n0 + 719468) - IntKind.wrap IntKind.i64 (IntKind.wrap IntKind.i64 (Int.tdiv (IntKind.wrap IntKind.i64 (n0 + 719468)) 146097) * 146097)) - IntKind.wrap IntKind.i64 (IntKind.wrap IntKind.i64 (IntKind.wrap IntKind.i64 (365 * IntKind.wrap IntKind.i64 (Int.tdiv (IntKind.wrap IntKind.i64 (IntKind.wrap IntKind.i64 (IntKind.wrap IntKind.i64 (IntKind.wrap IntKind.i64 (IntKind.wrap IntKind.i64 (n0 + 719468) - IntKind.wrap IntKind.i64 (IntKind.wrap IntKind.i64 (Int.tdiv (IntKind.wrap IntKind.i64 (n0 + 719468)) 146097) * 146097)) - IntKind.wrap IntKind.i64 (Int.tdiv (IntKind.wrap IntKind.i64 (IntKind.wrap IntKind.i64 (n0 + 719468) - IntKind.wrap IntKind.i64 (IntKind.wrap IntKind.i64 (Int.tdiv (IntKind.wrap IntKind.i64 (n0 + 719468)) 146097) * 146097))) 1460)) + IntKind.wrap IntKind.i64 (Int.tdiv (IntKind.wrap IntKind.i64 (IntKind.wrap IntKind.i64 (n0 + 719468) - IntKind.wrap IntKind.i64 (IntKind.wrap IntKind.i64 (Int.tdiv (IntKind.wrap IntKind.i64 (n0 + 719468)) 146097) * 146097))) 36524)) - IntKind.wrap IntKind.i64 (Int.tdiv (IntKind.wrap IntKind.i64 (IntKind.wrap IntKind.i64 (n0 + 719468) - IntKind.wrap IntKind.i64 (IntKind.wrap IntKind.i64 (Int.tdiv (IntKind.wrap IntKind.i64 (n0 + 719468)) 146097) * 146097))) 146096))) 365)) + IntKind.wrap IntKind.i64 (Int.tdiv (IntKind.wrap IntKind.i64 (Int.tdiv (IntKind.wrap IntKind.i64 (IntKind.wrap IntKind.i64 (IntKind.wrap IntKind.i64 (IntKind.wrap IntKind.i64 (IntKind.wrap IntKind.i64 (n0 + 719468) - IntKind.wrap IntKind.i64 (IntKind.wrap IntKind.i64 (Int.tdiv (IntKind.wrap IntKind.i64 (n0 + 719468)) 146097) * 146097)) - IntKind.wrap IntKind.i64 (Int.tdiv (IntKind.wrap IntKind.i64 (IntKind.wrap IntKind.i64 (n0 + 719468) - IntKind.wrap IntKind.i64 (IntKind.wrap IntKind.i64 (Int.tdiv (IntKind.wrap IntKind.i64 (n0 + 719468)) 146097) * 146097))) 1460)) + IntKind.wrap IntKind.i64 (Int.tdiv (IntKind.wrap IntKind.i64 (IntKind.wrap IntKind.i64 (n0 + 719468) - IntKind.wrap IntKind.i64 (IntKind.wrap IntKind.i64 (Int.tdiv (IntKind.wrap IntKind.i64 (n0 + 719468)) 146097) * 146097))) 36524)) - IntKind.wrap IntKind.i64 (Int.tdiv (IntKind.wrap IntKind.i64 (IntKind.wrap IntKind.i64 (n0 + 719468) - IntKind.wrap IntKind.i64 (IntKind.wrap IntKind.i64 (Int.tdiv (IntKind.wrap IntKind.i64 (n0 + 719468)) 146097) * 146097))) 146096))) 365)) 4)) - IntKind.wrap IntKind.i64 (Int.tdiv (IntKind.wrap IntKind.i64 (Int.tdiv (IntKind.wrap IntKind.i64 (IntKind.wrap IntKind.i64 (IntKind.wrap IntKind.i64 (IntKind.wrap IntKind.i64 (IntKind.wrap IntKind.i64 (n0 + 719468) - IntKind.wrap IntKind.i64 (IntKind.wrap IntKind.i64 (Int.tdiv (IntKind.wrap IntKind.i64 (n0 + 719468)) 146097) * 146097)) - IntKind.wrap IntKind.i64 (Int.tdiv (IntKind.wrap IntKind.i64 (IntKind.wrap IntKind.i64 (n0 + 719468) - IntKind.wrap IntKind.i64 (IntKind.wrap IntKind.i64 (Int.tdiv (IntKind.wrap IntKind.i64 (n0 + 719468)) 146097) * 146097))) 1460)) + IntKind.wrap IntKind.i64 (Int.tdiv (IntKind.wrap IntKind.i64 (IntKind.wrap IntKind.i64 (n0 + 719468) - IntKind.wrap IntKind.i64 (IntKind.wrap IntKind.i64 (Int.tdiv (IntKind.wrap IntKind.i64 (n0 + 719468)) 146097) * 146097))) 36524)) - IntKind.wrap IntKind.i64 (Int.tdiv (IntKind.wrap IntKind.i64 (IntKind.wrap IntKind.i64 (n0 + 719468) - IntKind.wrap IntKind.i64 (IntKind.wrap IntKind.i64 (Int.tdiv (IntKind.wrap IntKind.i64 (n0 + 719468)) 146097) * 146097))) 146096))) 365)) 100)))) + 2)) 153)) + 2)) 5)) + 1))])) := (RUN_eq _ _ _).trans (by kernel_rfl)
/-! masthead/tmpl.padded -/
def h71a (width1 : Int) (s5 : List UInt8) : St := mkSt 15 [(1, SV.val (KT.int IntKind.i64) (D.int width1)), (5, SV.val KT.str (D.str s5))] []
noncomputable def L71a (width1 : Int) (s5 : List UInt8) : R := LOOP E (RUN E) 71 Tryd.f71 [1, 1, 0, 0] (h71a width1 s5)
theorem enter71 (n0 : Int) (width1 : Int) : RUN E 71 [D.int n0, D.int width1] =
    opt (RUN E 55 [D.int n0]) fun ρ0 =>
  L71a width1 (D.toStr (List.getD ρ0 0 D.no)) := (RUN_eq _ _ _).trans (by kernel_rfl)
theorem round71a (width1 : Int) (s5 : List UInt8) : L71a width1 s5 =
    cond (decide ((↑(List.length s5) : Int) < width1))
  (cond (decide (List.length (([48] : List UInt8)) + List.length s5 ≤ lim))
    (L71a width1 (([48] : List UInt8) ++ s5))
    (none))
  (some [D.str s5]) := (LOOP_eq _ _ _ _ _ _).trans (by kernel_rfl)
/-! masthead/tmpl.numbered -/
theorem enter72 (c0 : Int) : RUN E 72 [D.int c0] =
    opt (cond (bif decide (c0 < 32) then false else true)
    (RUN E 39 [D.str (([60, 62, 38, 39] : List UInt8)), D.int c0])
    (some [])) fun ρ0 =>
  some [D.bool (bif decide (c0 < 32) then true else decide (0 ≤ D.toInt (List.getD ρ0 0 D.no)))] := (RUN_eq _ _ _).trans (by kernel_rfl)
/-! internal/strconv.FormatBool -/
theorem enter73 (b0 : Bool) : RUN E 73 [D.bool b0] =
    cond (b0)
  (some [D.str (([116, 114, 117, 101] : List UInt8))])
  (some [D.str (([102, 97, 108, 115, 101] : List UInt8))]) := (RUN_eq _ _ _).trans (by kernel_rfl)
/-! masthead/mastref1.yearDays -/
theorem enter75 (y0 : Int) : RUN E 75 [D.int y0] =
    cond (bif decide (Int.tmod y0 4 = 0) then bif bif decide (Int.tmod y0 100 = 0) then false else true then true else decide (Int.tmod y0 400 = 0) else false)
  (some [D.int 366])
  (some [D.int 365]) := (RUN_eq _ _ _).trans (by kernel_rfl)
/-! masthead/mastref1.monthDays -/
theorem enter76 (y0 : Int) (m1 : Int) : RUN E 76 [D.int y0, D.int m1] =
    cond (decide (m1 = 2))
  (opt (RUN E 75 [D.int y0]) fun ρ1 =>
    some [D.int (IntKind.wrap IntKind.i64 (D.toInt (List.getD ρ1 0 D.no) - 337))])
  (cond (decide (m1 = 4))
    (cond (decide (m1 = 4))
      (some [D.int 30])
      (some [D.int 31]))
    (cond (decide (m1 = 6))
      (cond (decide (m1 = 6))
        (some [D.int 30])
        (some [D.int 31]))
      (cond (decide (m1 = 9))
        (cond (decide (m1 = 9))
          (some [D.int 30])
          (some [D.int 31]))
        (cond (decide (m1 = 11))
          (some [D.int 30])
          (some [D.int 31]))))) := (RUN_eq _ _ _).trans (by kernel_rfl)
/-! masthead/mastref1.two -/
theorem enter77 (n0 : Int) : RUN E 77 [D.int n0] =
    cond (decide (n0 < 10))
  (opt (RUN E 55 [D.int n0]) fun ρ1 =>
    cond (decide (List.length (([48] : List UInt8)) + List.length (D.toStr (List.getD ρ1 0 D.no)) ≤ lim))
      (some [D.str (([48] : List UInt8) ++ D.toStr (List.getD ρ1 0 D.no))])
      (none))
  (opt (RUN E 55 [D.int n0]) fun ρ1 =>
    some [D.str (D.toStr (List.getD ρ1 0 D.no))]) := (RUN_eq _ _ _).trans (by kernel_rfl)
end Go.Proofs.YtjofkhdnidjleabDoor.qt
