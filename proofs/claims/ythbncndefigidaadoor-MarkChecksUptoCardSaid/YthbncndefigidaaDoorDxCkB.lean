/- A part of the proof. -/
import Derived.Test.YthbncndefigidaaDoorDxCkA
set_option linter.unusedVariables false
set_option linter.unusedSimpArgs false
namespace Go.Proofs.YthbncndefigidaaDoor.mc
open Go.Proofs.YthbncndefigidaaDoor.DS

/-! masthead/mastlaw1.MarkChecks -/
theorem enter4 (doc0 : List D) : RUN E 4 [D.list doc0] =
    opt (RUN E 9 [D.list doc0]) fun ρ0 =>
  opt (RUN E 10 [D.list doc0]) fun ρ1 =>
    opt (cond (bif decide (D.toInt (List.getD ρ0 0 D.no) = D.toInt (List.getD ρ1 0 D.no)) then true else false)
        (RUN E 11 [D.list doc0])
        (some [])) fun ρ2 =>
      opt (cond (bif decide (D.toInt (List.getD ρ0 0 D.no) = D.toInt (List.getD ρ1 0 D.no)) then true else false)
          (RUN E 12 [D.list doc0])
          (some [])) fun ρ3 =>
        some [D.bool (bif decide (D.toInt (List.getD ρ0 0 D.no) = D.toInt (List.getD ρ1 0 D.no)) then D.toBool (List.getD ρ2 0 D.no) == D.toBool (List.getD ρ3 0 D.no) else false)] := (RUN_eq _ _ _).trans (by kernel_rfl)
/-! masthead/mark.Check -/
theorem enter9 (doc0 : List D) : RUN E 9 [D.list doc0] =
    opt (RUN E 26 [D.list doc0]) fun ρ0 =>
  cond (decide (4000 < D.toInt (List.getD ρ0 0 D.no)))
    (some [D.int 4])
    (opt (RUN E 27 [D.list doc0, D.int 0, D.int 0]) fun ρ2 =>
      cond (D.toBool (List.getD ρ2 0 D.no))
        (some [D.int 13])
        (opt (RUN E 28 [D.list doc0, D.int 0]) fun ρ4 =>
          some [D.int (D.toInt (List.getD ρ4 0 D.no))])) := (RUN_eq _ _ _).trans (by kernel_rfl)
/-! masthead/mastref1.DocError -/
theorem enter10 (l0 : List D) : RUN E 10 [D.list l0] =
    opt (RUN E 29 [D.list l0]) fun ρ0 =>
  cond (decide (4000 < D.toInt (List.getD ρ0 0 D.no)))
    (some [D.int 4])
    (opt (RUN E 30 [D.list l0, D.int 0, D.int 0]) fun ρ2 =>
      cond (D.toBool (List.getD ρ2 0 D.no))
        (some [D.int 13])
        (opt (RUN E 31 [D.list l0, D.int 0]) fun ρ4 =>
          some [D.int (D.toInt (List.getD ρ4 0 D.no))])) := (RUN_eq _ _ _).trans (by kernel_rfl)
/-! masthead/mark.Printable -/
theorem enter11 (doc0 : List D) : RUN E 11 [D.list doc0] =
    opt (RUN E 9 [D.list doc0]) fun ρ0 =>
  opt (cond (bif decide (D.toInt (List.getD ρ0 0 D.no) = 0) then true else false)
      (RUN E 32 [D.list doc0])
      (some [])) fun ρ1 =>
    some [D.bool (bif decide (D.toInt (List.getD ρ0 0 D.no) = 0) then D.toBool (List.getD ρ1 0 D.no) else false)] := (RUN_eq _ _ _).trans (by kernel_rfl)
/-! masthead/mastref1.CanPrint -/
theorem enter12 (l0 : List D) : RUN E 12 [D.list l0] =
    opt (RUN E 10 [D.list l0]) fun ρ0 =>
  opt (cond (bif decide (D.toInt (List.getD ρ0 0 D.no) = 0) then true else false)
      (RUN E 33 [D.list l0])
      (some [])) fun ρ1 =>
    some [D.bool (bif decide (D.toInt (List.getD ρ0 0 D.no) = 0) then D.toBool (List.getD ρ1 0 D.no) else false)] := (RUN_eq _ _ _).trans (by kernel_rfl)
/-! masthead/mark.count -/
def h26a (l0 : List D) (n3 : Int) (v6 : Int) (v7 : Int) : St := mkSt 28 [(0, SV.val (KT.slice 33) (D.list l0)), (3, SV.val (KT.int IntKind.i64) (D.int n3)), (6, SV.val (KT.int IntKind.i64) (D.int v6)), (7, SV.val (KT.int IntKind.i64) (D.int v7))] []
noncomputable def L26a (l0 : List D) (n3 : Int) (v6 : Int) (v7 : Int) : R := LOOP E (RUN E) 26 Tryd.f26 [1, 1, 0, 1, 0] (h26a l0 n3 v6 v7)
theorem enter26 (l0 : List D) : RUN E 26 [D.list l0] =
    L26a l0 0 ((↑(List.length l0) : Int)) 0 := (RUN_eq _ _ _).trans (by kernel_rfl)
theorem round26a (l0 : List D) (n3 : Int) (v6 : Int) (v7 : Int) : L26a l0 n3 v6 v7 =
    cond (decide (v7 < v6))
  (cond (decide (4000 < IntKind.wrap IntKind.i64 (n3 + 1)))
    (some [D.int (IntKind.wrap IntKind.i64 (n3 + 1))])
    (cond (inb v7 (List.length l0))
      (opt (RUN E 26 [D.list (D.toList (D.cell (List.getD l0 (Int.toNat v7) D.no) 5))]) fun ρ3 =>
        cond (decide (4000 < IntKind.wrap IntKind.i64 (IntKind.wrap IntKind.i64 (n3 + 1) + D.toInt (List.getD ρ3 0 D.no))))
          (some [D.int (IntKind.wrap IntKind.i64 (IntKind.wrap IntKind.i64 (n3 + 1) + D.toInt (List.getD ρ3 0 D.no)))])
          (L26a l0 (IntKind.wrap IntKind.i64 (IntKind.wrap IntKind.i64 (n3 + 1) + D.toInt (List.getD ρ3 0 D.no))) v6 (IntKind.wrap IntKind.i64 (v7 + 1))))
      (none)))
  (some [D.int n3]) := (LOOP_eq _ _ _ _ _ _).trans (by kernel_rfl)
/-! masthead/mark.tooDeep -/
def h27a (l0 : List D) (blocks1 : Int) (inline2 : Int) (v11 : Int) (v12 : Int) : St := mkSt 44 [(0, SV.val (KT.slice 33) (D.list l0)), (1, SV.val (KT.int IntKind.i64) (D.int blocks1)), (2, SV.val (KT.int IntKind.i64) (D.int inline2)), (11, SV.val (KT.int IntKind.i64) (D.int v11)), (12, SV.val (KT.int IntKind.i64) (D.int v12))] []
noncomputable def L27a (l0 : List D) (blocks1 : Int) (inline2 : Int) (v11 : Int) (v12 : Int) : R := LOOP E (RUN E) 27 Tryd.f27 [1, 0, 1, 0] (h27a l0 blocks1 inline2 v11 v12)
theorem enter27 (l0 : List D) (blocks1 : Int) (inline2 : Int) : RUN E 27 [D.list l0, D.int blocks1, D.int inline2] =
    L27a l0 blocks1 inline2 ((↑(List.length l0) : Int)) 0 := (RUN_eq _ _ _).trans (by kernel_rfl)
theorem round27a (l0 : List D) (blocks1 : Int) (inline2 : Int) (v11 : Int) (v12 : Int) : L27a l0 blocks1 inline2 v11 v12 =
    cond (decide (v12 < v11))
  (cond (inb v12 (List.length l0))
    (opt (RUN E 50 [D.int (D.toInt (D.cell (List.getD l0 (Int.toNat v12) D.no) 0))]) fun ρ2 =>
      cond (D.toBool (List.getD ρ2 0 D.no))
        (cond (bif inb v12 (List.length l0) then true else bif bif bif decide (12 < blocks1) then true else decide (12 < IntKind.wrap IntKind.i64 (inline2 + 1)) then false else true then false else true)
          (opt (cond (bif bif decide (12 < blocks1) then true else decide (12 < IntKind.wrap IntKind.i64 (inline2 + 1)) then false else true)
              (RUN E 27 [D.list (D.toList (D.cell (List.getD l0 (Int.toNat v12) D.no) 5)), D.int blocks1, D.int (IntKind.wrap IntKind.i64 (inline2 + 1))])
              (some [])) fun ρ5 =>
            cond (bif bif decide (12 < blocks1) then true else decide (12 < IntKind.wrap IntKind.i64 (inline2 + 1)) then true else D.toBool (List.getD ρ5 0 D.no))
              (some [D.bool true])
              (L27a l0 blocks1 inline2 v11 (IntKind.wrap IntKind.i64 (v12 + 1))))
          (none))
        (cond (bif inb v12 (List.length l0) then true else bif bif bif decide (12 < IntKind.wrap IntKind.i64 (blocks1 + 1)) then true else decide (12 < inline2) then false else true then false else true)
          (opt (cond (bif bif decide (12 < IntKind.wrap IntKind.i64 (blocks1 + 1)) then true else decide (12 < inline2) then false else true)
              (RUN E 27 [D.list (D.toList (D.cell (List.getD l0 (Int.toNat v12) D.no) 5)), D.int (IntKind.wrap IntKind.i64 (blocks1 + 1)), D.int inline2])
              (some [])) fun ρ5 =>
            cond (bif bif decide (12 < IntKind.wrap IntKind.i64 (blocks1 + 1)) then true else decide (12 < inline2) then true else D.toBool (List.getD ρ5 0 D.no))
              (some [D.bool true])
              (L27a l0 blocks1 inline2 v11 (IntKind.wrap IntKind.i64 (v12 + 1))))
          (none)))
    (none))
  (some [D.bool false]) := (LOOP_eq _ _ _ _ _ _).trans (by kernel_rfl)
/-! masthead/mark.nodesFault -/
def h28a (in1 : Int) (v9 : List D) (v10 : Int) (v11 : Int) : St := mkSt 30 [(1, SV.val (KT.int IntKind.i64) (D.int in1)), (9, SV.val (KT.slice 33) (D.list v9)), (10, SV.val (KT.int IntKind.i64) (D.int v10)), (11, SV.val (KT.int IntKind.i64) (D.int v11))] []
noncomputable def L28a (in1 : Int) (v9 : List D) (v10 : Int) (v11 : Int) : R := LOOP E (RUN E) 28 Tryd.f28 [1, 0, 1, 0] (h28a in1 v9 v10 v11)
theorem enter28 (l0 : List D) (in1 : Int) : RUN E 28 [D.list l0, D.int in1] =
    L28a in1 l0 ((↑(List.length l0) : Int)) 0 := (RUN_eq _ _ _).trans (by kernel_rfl)
theorem round28a (in1 : Int) (v9 : List D) (v10 : Int) (v11 : Int) : L28a in1 v9 v10 v11 =
    cond (decide (v11 < v10))
  (cond (inb v11 (List.length v9))
    (opt (RUN E 51 [List.getD v9 (Int.toNat v11) D.no, D.int in1]) fun ρ2 =>
      cond (bif decide (D.toInt (List.getD ρ2 0 D.no) = 0) then false else true)
        (some [D.int (D.toInt (List.getD ρ2 0 D.no))])
        (opt (RUN E 28 [D.list (D.toList (D.cell (List.getD v9 (Int.toNat v11) D.no) 5)), D.int (D.toInt (D.cell (List.getD v9 (Int.toNat v11) D.no) 0))]) fun ρ4 =>
          cond (bif decide (D.toInt (List.getD ρ4 0 D.no) = 0) then false else true)
            (some [D.int (D.toInt (List.getD ρ4 0 D.no))])
            (L28a in1 v9 v10 (IntKind.wrap IntKind.i64 (v11 + 1)))))
    (none))
  (some [D.int 0]) := (LOOP_eq _ _ _ _ _ _).trans (by kernel_rfl)
/-! masthead/mastref1.Nodes -/
def h29a (n3 : Int) (v8 : List D) (v9 : Int) (v10 : Int) : St := mkSt 21 [(3, SV.val (KT.int IntKind.i64) (D.int n3)), (8, SV.val (KT.slice 33) (D.list v8)), (9, SV.val (KT.int IntKind.i64) (D.int v9)), (10, SV.val (KT.int IntKind.i64) (D.int v10))] []
noncomputable def L29a (n3 : Int) (v8 : List D) (v9 : Int) (v10 : Int) : R := LOOP E (RUN E) 29 Tryd.f29 [1, 1, 0, 1, 0] (h29a n3 v8 v9 v10)
theorem enter29 (l0 : List D) : RUN E 29 [D.list l0] =
    L29a ((↑(List.length l0) : Int)) l0 ((↑(List.length l0) : Int)) 0 := (RUN_eq _ _ _).trans (by kernel_rfl)
theorem round29a (n3 : Int) (v8 : List D) (v9 : Int) (v10 : Int) : L29a n3 v8 v9 v10 =
    cond (decide (v10 < v9))
  (cond (inb v10 (List.length v8))
    (opt (RUN E 29 [D.list (D.toList (D.cell (List.getD v8 (Int.toNat v10) D.no) 5))]) fun ρ2 =>
      L29a (IntKind.wrap IntKind.i64 (n3 + D.toInt (List.getD ρ2 0 D.no))) v8 v9 (IntKind.wrap IntKind.i64 (v10 + 1)))
    (none))
  (some [D.int n3]) := (LOOP_eq _ _ _ _ _ _).trans (by kernel_rfl)
/-! masthead/mastref1.deep -/
def h30a (blocks1 : Int) (inlines2 : Int) (v11 : List D) (v12 : Int) (v13 : Int) : St := mkSt 40 [(1, SV.val (KT.int IntKind.i64) (D.int blocks1)), (2, SV.val (KT.int IntKind.i64) (D.int inlines2)), (11, SV.val (KT.slice 33) (D.list v11)), (12, SV.val (KT.int IntKind.i64) (D.int v12)), (13, SV.val (KT.int IntKind.i64) (D.int v13))] []
noncomputable def L30a (blocks1 : Int) (inlines2 : Int) (v11 : List D) (v12 : Int) (v13 : Int) : R := LOOP E (RUN E) 30 Tryd.f30 [1, 0, 1, 0] (h30a blocks1 inlines2 v11 v12 v13)
theorem enter30 (l0 : List D) (blocks1 : Int) (inlines2 : Int) : RUN E 30 [D.list l0, D.int blocks1, D.int inlines2] =
    L30a blocks1 inlines2 l0 ((↑(List.length l0) : Int)) 0 := (RUN_eq _ _ _).trans (by kernel_rfl)
theorem round30a (blocks1 : Int) (inlines2 : Int) (v11 : List D) (v12 : Int) (v13 : Int) : L30a blocks1 inlines2 v11 v12 v13 =
    cond (decide (v13 < v12))
  (cond (inb v13 (List.length v11))
    (opt (RUN E 52 [D.int (D.toInt (D.cell (List.getD v11 (Int.toNat v13) D.no) 0))]) fun ρ2 =>
      cond (D.toBool (List.getD ρ2 0 D.no))
        (opt (cond (bif bif decide (12 < blocks1) then true else decide (12 < IntKind.wrap IntKind.i64 (inlines2 + 1)) then false else true)
            (RUN E 30 [D.list (D.toList (D.cell (List.getD v11 (Int.toNat v13) D.no) 5)), D.int blocks1, D.int (IntKind.wrap IntKind.i64 (inlines2 + 1))])
            (some [])) fun ρ4 =>
          cond (bif bif decide (12 < blocks1) then true else decide (12 < IntKind.wrap IntKind.i64 (inlines2 + 1)) then true else D.toBool (List.getD ρ4 0 D.no))
            (some [D.bool true])
            (L30a blocks1 inlines2 v11 v12 (IntKind.wrap IntKind.i64 (v13 + 1))))
        (opt (cond (bif bif decide (12 < IntKind.wrap IntKind.i64 (blocks1 + 1)) then true else decide (12 < inlines2) then false else true)
            (RUN E 30 [D.list (D.toList (D.cell (List.getD v11 (Int.toNat v13) D.no) 5)), D.int (IntKind.wrap IntKind.i64 (blocks1 + 1)), D.int inlines2])
            (some [])) fun ρ4 =>
          cond (bif bif decide (12 < IntKind.wrap IntKind.i64 (blocks1 + 1)) then true else decide (12 < inlines2) then true else D.toBool (List.getD ρ4 0 D.no))
            (some [D.bool true])
            (L30a blocks1 inlines2 v11 v12 (IntKind.wrap IntKind.i64 (v13 + 1)))))
    (none))
  (some [D.bool false]) := (LOOP_eq _ _ _ _ _ _).trans (by kernel_rfl)
/-! masthead/mastref1.nodesError -/
def h31a (parent1 : Int) (v9 : List D) (v10 : Int) (v11 : Int) : St := mkSt 30 [(1, SV.val (KT.int IntKind.i64) (D.int parent1)), (9, SV.val (KT.slice 33) (D.list v9)), (10, SV.val (KT.int IntKind.i64) (D.int v10)), (11, SV.val (KT.int IntKind.i64) (D.int v11))] []
noncomputable def L31a (parent1 : Int) (v9 : List D) (v10 : Int) (v11 : Int) : R := LOOP E (RUN E) 31 Tryd.f31 [1, 0, 1, 0] (h31a parent1 v9 v10 v11)
theorem enter31 (l0 : List D) (parent1 : Int) : RUN E 31 [D.list l0, D.int parent1] =
    L31a parent1 l0 ((↑(List.length l0) : Int)) 0 := (RUN_eq _ _ _).trans (by kernel_rfl)
theorem round31a (parent1 : Int) (v9 : List D) (v10 : Int) (v11 : Int) : L31a parent1 v9 v10 v11 =
    cond (decide (v11 < v10))
  (cond (inb v11 (List.length v9))
    (opt (RUN E 53 [List.getD v9 (Int.toNat v11) D.no, D.int parent1]) fun ρ2 =>
      cond (bif decide (D.toInt (List.getD ρ2 0 D.no) = 0) then false else true)
        (some [D.int (D.toInt (List.getD ρ2 0 D.no))])
        (opt (RUN E 31 [D.list (D.toList (D.cell (List.getD v9 (Int.toNat v11) D.no) 5)), D.int (D.toInt (D.cell (List.getD v9 (Int.toNat v11) D.no) 0))]) fun ρ4 =>
          cond (bif decide (D.toInt (List.getD ρ4 0 D.no) = 0) then false else true)
            (some [D.int (D.toInt (List.getD ρ4 0 D.no))])
            (L31a parent1 v9 v10 (IntKind.wrap IntKind.i64 (v11 + 1)))))
    (none))
  (some [D.int 0]) := (LOOP_eq _ _ _ _ _ _).trans (by kernel_rfl)
/-! masthead/mark.blocksFit -/
def h32a (l0 : List D) (v5 : List D) (v6 : Int) (v7 : Int) : St := mkSt 45 [(0, SV.val (KT.slice 33) (D.list l0)), (5, SV.val (KT.slice 33) (D.list v5)), (6, SV.val (KT.int IntKind.i64) (D.int v6)), (7, SV.val (KT.int IntKind.i64) (D.int v7))] []
noncomputable def L32a (l0 : List D) (v5 : List D) (v6 : Int) (v7 : Int) : R := LOOP E (RUN E) 32 Tryd.f32 [1, 0, 1, 0] (h32a l0 v5 v6 v7)
theorem enter32 (l0 : List D) : RUN E 32 [D.list l0] =
    L32a l0 l0 ((↑(List.length l0) : Int)) 0 := (RUN_eq _ _ _).trans (by kernel_rfl)
theorem round32a (l0 : List D) (v5 : List D) (v6 : Int) (v7 : Int) : L32a l0 v5 v6 v7 =
    cond (decide (v7 < v6))
  (cond (inb v7 (List.length v5))
    (cond (bif inb (IntKind.wrap IntKind.i64 (v7 - 1)) (List.length l0) then true else bif bif bif decide (0 < v7) then decide (D.toInt (D.cell (List.getD v5 (Int.toNat v7) D.no) 0) = 5) else false then true else false then false else true)
      (cond (bif inb (IntKind.wrap IntKind.i64 (v7 - 1)) (List.length l0) then true else bif bif bif bif decide (0 < v7) then decide (D.toInt (D.cell (List.getD v5 (Int.toNat v7) D.no) 0) = 5) else false then decide (D.toInt (D.cell (List.getD l0 (Int.toNat (IntKind.wrap IntKind.i64 (v7 - 1))) D.no) 0) = 5) else false then true else false then false else true)
        (cond (bif bif bif decide (0 < v7) then decide (D.toInt (D.cell (List.getD v5 (Int.toNat v7) D.no) 0) = 5) else false then decide (D.toInt (D.cell (List.getD l0 (Int.toNat (IntKind.wrap IntKind.i64 (v7 - 1))) D.no) 0) = 5) else false then decide (D.toInt (D.cell (List.getD v5 (Int.toNat v7) D.no) 1) < 0) == decide (D.toInt (D.cell (List.getD l0 (Int.toNat (IntKind.wrap IntKind.i64 (v7 - 1))) D.no) 1) < 0) else false)
          (some [D.bool false])
          (opt (RUN E 54 [List.getD v5 (Int.toNat v7) D.no]) fun ρ5 =>
            cond (bif D.toBool (List.getD ρ5 0 D.no) then false else true)
              (some [D.bool false])
              (L32a l0 v5 v6 (IntKind.wrap IntKind.i64 (v7 + 1)))))
        (none))
      (none))
    (none))
  (some [D.bool true]) := (LOOP_eq _ _ _ _ _ _).trans (by kernel_rfl)
/-! masthead/mastref1.goodBlocks -/
def h33a (l0 : List D) (v5 : List D) (v6 : Int) (v7 : Int) : St := mkSt 78 [(0, SV.val (KT.slice 33) (D.list l0)), (5, SV.val (KT.slice 33) (D.list v5)), (6, SV.val (KT.int IntKind.i64) (D.int v6)), (7, SV.val (KT.int IntKind.i64) (D.int v7))] []
noncomputable def L33a (l0 : List D) (v5 : List D) (v6 : Int) (v7 : Int) : R := LOOP E (RUN E) 33 Tryd.f33 [1, 0, 1, 0] (h33a l0 v5 v6 v7)
theorem enter33 (l0 : List D) : RUN E 33 [D.list l0] =
    L33a l0 l0 ((↑(List.length l0) : Int)) 0 := (RUN_eq _ _ _).trans (by kernel_rfl)
theorem round33a (l0 : List D) (v5 : List D) (v6 : Int) (v7 : Int) : L33a l0 v5 v6 v7 =
    cond (decide (v7 < v6))
  (cond (inb v7 (List.length v5))
    (cond (bif inb (IntKind.wrap IntKind.i64 (v7 - 1)) (List.length l0) then true else bif bif bif decide (0 < v7) then decide (D.toInt (D.cell (List.getD v5 (Int.toNat v7) D.no) 0) = 5) else false then true else false then false else true)
      (cond (bif inb (IntKind.wrap IntKind.i64 (v7 - 1)) (List.length l0) then true else bif bif bif bif decide (0 < v7) then decide (D.toInt (D.cell (List.getD v5 (Int.toNat v7) D.no) 0) = 5) else false then decide (D.toInt (D.cell (List.getD l0 (Int.toNat (IntKind.wrap IntKind.i64 (v7 - 1))) D.no) 0) = 5) else false then true else false then false else true)
        (cond (bif bif bif decide (0 < v7) then decide (D.toInt (D.cell (List.getD v5 (Int.toNat v7) D.no) 0) = 5) else false then decide (D.toInt (D.cell (List.getD l0 (Int.toNat (IntKind.wrap IntKind.i64 (v7 - 1))) D.no) 0) = 5) else false then decide (D.toInt (D.cell (List.getD v5 (Int.toNat v7) D.no) 1) < 0) == decide (D.toInt (D.cell (List.getD l0 (Int.toNat (IntKind.wrap IntKind.i64 (v7 - 1))) D.no) 1) < 0) else false)
          (some [D.bool false])
          (cond (decide (D.toInt (D.cell (List.getD v5 (Int.toNat v7) D.no) 0) = 1))
            (cond (decide (D.toInt (D.cell (List.getD v5 (Int.toNat v7) D.no) 0) = 1))
              (opt (RUN E 55 [List.getD v5 (Int.toNat v7) D.no]) fun ρ7 =>
                cond (bif D.toBool (List.getD ρ7 0 D.no) then false else true)
                  (some [D.bool false])
                  (L33a l0 v5 v6 (IntKind.wrap IntKind.i64 (v7 + 1))))
              (cond (decide (D.toInt (D.cell (List.getD v5 (Int.toNat v7) D.no) 0) = 2))
                (opt (cond (bif decide ((↑(List.length (D.toList (D.cell (List.getD v5 (Int.toNat v7) D.no) 5))) : Int) = 0) then false else true)
                    (RUN E 55 [List.getD v5 (Int.toNat v7) D.no])
                    (some [])) fun ρ8 =>
                  cond (bif decide ((↑(List.length (D.toList (D.cell (List.getD v5 (Int.toNat v7) D.no) 5))) : Int) = 0) then true else bif D.toBool (List.getD ρ8 0 D.no) then false else true)
                    (some [D.bool false])
                    (L33a l0 v5 v6 (IntKind.wrap IntKind.i64 (v7 + 1))))
                (cond (decide (D.toInt (D.cell (List.getD v5 (Int.toNat v7) D.no) 0) = 3))
                  (opt (RUN E 56 [List.getD v5 (Int.toNat v7) D.no]) fun ρ9 =>
                    cond (bif D.toBool (List.getD ρ9 0 D.no) then false else true)
                      (some [D.bool false])
                      (L33a l0 v5 v6 (IntKind.wrap IntKind.i64 (v7 + 1))))
                  (cond (decide (D.toInt (D.cell (List.getD v5 (Int.toNat v7) D.no) 0) = 7))
                    (L33a l0 v5 v6 (IntKind.wrap IntKind.i64 (v7 + 1)))
                    (opt (cond (bif decide ((↑(List.length (D.toList (D.cell (List.getD v5 (Int.toNat v7) D.no) 5))) : Int) = 0) then false else true)
                        (RUN E 33 [D.list (D.toList (D.cell (List.getD v5 (Int.toNat v7) D.no) 5))])
                        (some [])) fun ρ10 =>
                      cond (bif decide ((↑(List.length (D.toList (D.cell (List.getD v5 (Int.toNat v7) D.no) 5))) : Int) = 0) then true else bif D.toBool (List.getD ρ10 0 D.no) then false else true)
                        (some [D.bool false])
                        (L33a l0 v5 v6 (IntKind.wrap IntKind.i64 (v7 + 1))))))))
            (cond (decide (D.toInt (D.cell (List.getD v5 (Int.toNat v7) D.no) 0) = 10))
              (opt (RUN E 55 [List.getD v5 (Int.toNat v7) D.no]) fun ρ7 =>
                cond (bif D.toBool (List.getD ρ7 0 D.no) then false else true)
                  (some [D.bool false])
                  (L33a l0 v5 v6 (IntKind.wrap IntKind.i64 (v7 + 1))))
              (cond (decide (D.toInt (D.cell (List.getD v5 (Int.toNat v7) D.no) 0) = 2))
                (opt (cond (bif decide ((↑(List.length (D.toList (D.cell (List.getD v5 (Int.toNat v7) D.no) 5))) : Int) = 0) then false else true)
                    (RUN E 55 [List.getD v5 (Int.toNat v7) D.no])
                    (some [])) fun ρ8 =>
                  cond (bif decide ((↑(List.length (D.toList (D.cell (List.getD v5 (Int.toNat v7) D.no) 5))) : Int) = 0) then true else bif D.toBool (List.getD ρ8 0 D.no) then false else true)
                    (some [D.bool false])
                    (L33a l0 v5 v6 (IntKind.wrap IntKind.i64 (v7 + 1))))
                (cond (decide (D.toInt (D.cell (List.getD v5 (Int.toNat v7) D.no) 0) = 3))
                  (opt (RUN E 56 [List.getD v5 (Int.toNat v7) D.no]) fun ρ9 =>
                    cond (bif D.toBool (List.getD ρ9 0 D.no) then false else true)
                      (some [D.bool false])
                      (L33a l0 v5 v6 (IntKind.wrap IntKind.i64 (v7 + 1))))
                  (cond (decide (D.toInt (D.cell (List.getD v5 (Int.toNat v7) D.no) 0) = 7))
                    (L33a l0 v5 v6 (IntKind.wrap IntKind.i64 (v7 + 1)))
                    (opt (cond (bif decide ((↑(List.length (D.toList (D.cell (List.getD v5 (Int.toNat v7) D.no) 5))) : Int) = 0) then false else true)
                        (RUN E 33 [D.list (D.toList (D.cell (List.getD v5 (Int.toNat v7) D.no) 5))])
                        (some [])) fun ρ10 =>
                      cond (bif decide ((↑(List.length (D.toList (D.cell (List.getD v5 (Int.toNat v7) D.no) 5))) : Int) = 0) then true else bif D.toBool (List.getD ρ10 0 D.no) then false else true)
                        (some [D.bool false])
                        (L33a l0 v5 v6 (IntKind.wrap IntKind.i64 (v7 + 1))))))))))
        (none))
      (none))
    (none))
  (some [D.bool true]) := (LOOP_eq _ _ _ _ _ _).trans (by kernel_rfl)
/-! masthead/mark.isInline -/
theorem enter50 (kind0 : Int) : RUN E 50 [D.int kind0] =
    some [D.bool (bif decide (11 ≤ kind0) then decide (kind0 ≤ 18) else false)] := (RUN_eq _ _ _).trans (by kernel_rfl)
/-! masthead/mark.nodeFault -/
theorem enter51 (n0 : D) (in1 : Int) : RUN E 51 [n0, D.int in1] =
    opt (RUN E 64 [D.int (D.toInt (D.cell n0 0)), D.int in1]) fun ρ0 =>
  cond (bif D.toBool (List.getD ρ0 0 D.no) then false else true)
    (some [D.int 10])
    (cond (bif bif decide (D.toInt (D.cell n0 0) = 1) then bif decide (D.toInt (D.cell n0 1) < 1) then true else decide (6 < D.toInt (D.cell n0 1)) else false then true else bif decide (D.toInt (D.cell n0 0) = 5) then bif decide (D.toInt (D.cell n0 1) < -1) then true else decide (9999 < D.toInt (D.cell n0 1)) else false)
      (some [D.int 2])
      (opt (RUN E 65 [D.int (D.toInt (D.cell n0 0))]) fun ρ3 =>
        opt (RUN E 66 [D.str (([76] : List UInt8)), D.bool (decide (D.toInt (D.cell n0 1) = 0)), D.str (D.toStr (List.getD ρ3 0 D.no))]) fun ρ4 =>
          opt (cond (bif D.toBool (List.getD ρ4 0 D.no) then false else true)
              (RUN E 66 [D.str (([84] : List UInt8)), D.bool (decide (D.toStr (D.cell n0 2) = ([] : List UInt8))), D.str (D.toStr (List.getD ρ3 0 D.no))])
              (some [])) fun ρ5 =>
            opt (cond (bif bif D.toBool (List.getD ρ4 0 D.no) then true else D.toBool (List.getD ρ5 0 D.no) then false else true)
                (RUN E 66 [D.str (([68] : List UInt8)), D.bool (decide (D.toStr (D.cell n0 3) = ([] : List UInt8))), D.str (D.toStr (List.getD ρ3 0 D.no))])
                (some [])) fun ρ6 =>
              opt (cond (bif bif bif D.toBool (List.getD ρ4 0 D.no) then true else D.toBool (List.getD ρ5 0 D.no) then true else D.toBool (List.getD ρ6 0 D.no) then false else true)
                  (RUN E 66 [D.str (([78] : List UInt8)), D.bool (decide (D.toStr (D.cell n0 4) = ([] : List UInt8))), D.str (D.toStr (List.getD ρ3 0 D.no))])
                  (some [])) fun ρ7 =>
                opt (cond (bif bif bif bif D.toBool (List.getD ρ4 0 D.no) then true else D.toBool (List.getD ρ5 0 D.no) then true else D.toBool (List.getD ρ6 0 D.no) then true else D.toBool (List.getD ρ7 0 D.no) then false else true)
                    (RUN E 66 [D.str (([75] : List UInt8)), D.bool (decide ((↑(List.length (D.toList (D.cell n0 5))) : Int) = 0)), D.str (D.toStr (List.getD ρ3 0 D.no))])
                    (some [])) fun ρ8 =>
                  cond (bif bif bif bif D.toBool (List.getD ρ4 0 D.no) then true else D.toBool (List.getD ρ5 0 D.no) then true else D.toBool (List.getD ρ6 0 D.no) then true else D.toBool (List.getD ρ7 0 D.no) then true else D.toBool (List.getD ρ8 0 D.no))
                    (some [D.int 1])
                    (opt (RUN E 68 [n0]) fun ρ10 =>
                      cond (D.toBool (List.getD ρ10 0 D.no))
                        (some [D.int 9])
                        (some [D.int 0])))) := (RUN_eq _ _ _).trans (by kernel_rfl)
/-! masthead/mastref1.isInline -/
theorem enter52 (k0 : Int) : RUN E 52 [D.int k0] =
    some [D.bool (bif decide (11 ≤ k0) then decide (k0 ≤ 18) else false)] := (RUN_eq _ _ _).trans (by kernel_rfl)
/-! masthead/mastref1.nodeError -/
theorem enter53 (x0 : D) (parent1 : Int) : RUN E 53 [x0, D.int parent1] =
    opt (RUN E 69 [D.int parent1, D.int (D.toInt (D.cell x0 0))]) fun ρ0 =>
  cond (bif D.toBool (List.getD ρ0 0 D.no) then false else true)
    (some [D.int 10])
    (cond (bif bif decide (D.toInt (D.cell x0 0) = 1) then bif decide (D.toInt (D.cell x0 1) < 1) then true else decide (6 < D.toInt (D.cell x0 1)) else false then true else bif decide (D.toInt (D.cell x0 0) = 5) then bif decide (D.toInt (D.cell x0 1) < -1) then true else decide (9999 < D.toInt (D.cell x0 1)) else false)
      (some [D.int 2])
      (cond (bif bif bif bif bif bif bif decide (D.toInt (D.cell x0 0) = 1) then false else true then bif decide (D.toInt (D.cell x0 0) = 5) then false else true else false then bif decide (D.toInt (D.cell x0 1) = 0) then false else true else false then true else bif bif bif bif bif decide (D.toInt (D.cell x0 0) = 3) then true else decide (D.toInt (D.cell x0 0) = 11) then true else decide (D.toInt (D.cell x0 0) = 16) then true else decide (D.toInt (D.cell x0 0) = 18) then false else true then bif decide (D.toStr (D.cell x0 2) = ([] : List UInt8)) then false else true else false then true else bif bif bif bif decide (D.toInt (D.cell x0 0) = 3) then true else decide (D.toInt (D.cell x0 0) = 17) then true else decide (D.toInt (D.cell x0 0) = 18) then false else true then bif decide (D.toStr (D.cell x0 3) = ([] : List UInt8)) then false else true else false then true else bif bif bif decide (D.toInt (D.cell x0 0) = 17) then true else decide (D.toInt (D.cell x0 0) = 18) then false else true then bif decide (D.toStr (D.cell x0 4) = ([] : List UInt8)) then false else true else false then true else bif bif bif bif bif bif bif bif bif decide (D.toInt (D.cell x0 0) = 3) then false else true then bif decide (D.toInt (D.cell x0 0) = 7) then false else true else false then bif decide (D.toInt (D.cell x0 0) = 11) then false else true else false then bif decide (D.toInt (D.cell x0 0) = 12) then false else true else false then bif decide (D.toInt (D.cell x0 0) = 13) then false else true else false then bif decide (D.toInt (D.cell x0 0) = 16) then false else true else false then bif decide (D.toInt (D.cell x0 0) = 18) then false else true else false then false else true then decide (0 < (↑(List.length (D.toList (D.cell x0 5))) : Int)) else false)
        (some [D.int 1])
        (opt (RUN E 70 [D.str (D.toStr (D.cell x0 2)), D.bool true, D.bool (decide (D.toInt (D.cell x0 0) = 3))]) fun ρ4 =>
          opt (cond (bif D.toBool (List.getD ρ4 0 D.no) then false else true)
              (RUN E 70 [D.str (D.toStr (D.cell x0 3)), D.bool (decide (D.toInt (D.cell x0 0) = 3)), D.bool false])
              (some [])) fun ρ5 =>
            opt (cond (bif bif D.toBool (List.getD ρ4 0 D.no) then true else D.toBool (List.getD ρ5 0 D.no) then false else true)
                (RUN E 70 [D.str (D.toStr (D.cell x0 4)), D.bool true, D.bool false])
                (some [])) fun ρ6 =>
              cond (bif bif D.toBool (List.getD ρ4 0 D.no) then true else D.toBool (List.getD ρ5 0 D.no) then true else D.toBool (List.getD ρ6 0 D.no))
                (some [D.int 9])
                (some [D.int 0])))) := (RUN_eq _ _ _).trans (by kernel_rfl)
/-! masthead/mark.blockFits -/
theorem enter54 (n0 : D) : RUN E 54 [n0] =
    cond (decide (D.toInt (D.cell n0 0) = 7))
  (some [D.bool true])
  (cond (decide (D.toInt (D.cell n0 0) = 3))
    (opt (RUN E 71 [n0]) fun ρ2 =>
      some [D.bool (D.toBool (List.getD ρ2 0 D.no))])
    (cond (decide (D.toInt (D.cell n0 0) = 1))
      (opt (RUN E 72 [D.list (D.toList (D.cell n0 5)), D.int (D.toInt (D.cell n0 0))]) fun ρ3 =>
        some [D.bool (D.toBool (List.getD ρ3 0 D.no))])
      (cond (decide (D.toInt (D.cell n0 0) = 2))
        (opt (cond (bif decide (0 < (↑(List.length (D.toList (D.cell n0 5))) : Int)) then true else false)
            (RUN E 72 [D.list (D.toList (D.cell n0 5)), D.int (D.toInt (D.cell n0 0))])
            (some [])) fun ρ4 =>
          some [D.bool (bif decide (0 < (↑(List.length (D.toList (D.cell n0 5))) : Int)) then D.toBool (List.getD ρ4 0 D.no) else false)])
        (cond (decide (D.toInt (D.cell n0 0) = 10))
          (opt (RUN E 72 [D.list (D.toList (D.cell n0 5)), D.int (D.toInt (D.cell n0 0))]) fun ρ5 =>
            some [D.bool (D.toBool (List.getD ρ5 0 D.no))])
          (opt (cond (bif decide (0 < (↑(List.length (D.toList (D.cell n0 5))) : Int)) then true else false)
              (RUN E 32 [D.list (D.toList (D.cell n0 5))])
              (some [])) fun ρ5 =>
            some [D.bool (bif decide (0 < (↑(List.length (D.toList (D.cell n0 5))) : Int)) then D.toBool (List.getD ρ5 0 D.no) else false)]))))) := (RUN_eq _ _ _).trans (by kernel_rfl)
/-! masthead/mastref1.goodLine -/
theorem enter55 (x0 : D) : RUN E 55 [x0] =
    cond (decide (0 < (↑(List.length (D.toList (D.cell x0 5))) : Int)))
  (cond (inb 0 (List.length (D.toList (D.cell x0 5))))
    (opt (RUN E 73 [D.str (D.toStr (D.cell (List.getD (D.toList (D.cell x0 5)) 0 D.no) 2))]) fun ρ2 =>
      cond (inb (IntKind.wrap IntKind.i64 ((↑(List.length (D.toList (D.cell x0 5))) : Int) - 1)) (List.length (D.toList (D.cell x0 5))))
        (opt (RUN E 73 [D.str (D.toStr (D.cell (List.getD (D.toList (D.cell x0 5)) (Int.toNat (IntKind.wrap IntKind.i64 ((↑(List.length (D.toList (D.cell x0 5))) : Int) - 1))) D.no) 2))]) fun ρ4 =>
          cond (inb 0 (List.length (D.toList (D.cell x0 5))))
            (cond (bif inb (IntKind.wrap IntKind.i64 ((↑(List.length (D.toList (D.cell x0 5))) : Int) - 1)) (List.length (D.toList (D.cell x0 5))) then true else bif bif bif decide (D.toInt (D.cell (List.getD (D.toList (D.cell x0 5)) 0 D.no) 0) = 11) then D.toBool (List.getD ρ2 0 D.no) else false then false else true then false else true)
              (cond (bif bif decide (D.toInt (D.cell (List.getD (D.toList (D.cell x0 5)) 0 D.no) 0) = 11) then D.toBool (List.getD ρ2 0 D.no) else false then true else bif decide (D.toInt (D.cell (List.getD (D.toList (D.cell x0 5)) (Int.toNat (IntKind.wrap IntKind.i64 ((↑(List.length (D.toList (D.cell x0 5))) : Int) - 1))) D.no) 0) = 11) then D.toBool (List.getD ρ4 1 D.no) else false)
                (some [D.bool false])
                (opt (RUN E 74 [D.list (D.toList (D.cell x0 5)), D.int (D.toInt (D.cell x0 0)), D.agg [D.bool false, D.bool false, D.bool false, D.bool (decide (D.toInt (D.cell x0 0) = 10)), D.bool (decide (D.toInt (D.cell x0 0) = 2))]]) fun ρ8 =>
                  some [D.bool (D.toBool (List.getD ρ8 0 D.no))]))
              (none))
            (none))
        (none))
    (none))
  (opt (RUN E 74 [D.list (D.toList (D.cell x0 5)), D.int (D.toInt (D.cell x0 0)), D.agg [D.bool false, D.bool false, D.bool false, D.bool (decide (D.toInt (D.cell x0 0) = 10)), D.bool (decide (D.toInt (D.cell x0 0) = 2))]]) fun ρ1 =>
    some [D.bool (D.toBool (List.getD ρ1 0 D.no))]) := (RUN_eq _ _ _).trans (by kernel_rfl)
/-! masthead/mastref1.goodFence -/
def h56a (v30 : List D) (v31 : Int) (v32 : Int) : St := mkSt 47 [(30, SV.val (KT.slice 9) (D.list v30)), (31, SV.val (KT.int IntKind.i64) (D.int v31)), (32, SV.val (KT.int IntKind.i64) (D.int v32))] []
noncomputable def L56a (v30 : List D) (v31 : Int) (v32 : Int) : R := LOOP E (RUN E) 56 Tryd.f56 [1, 1, 0, 1, 0] (h56a v30 v31 v32)
theorem enter56 (x0 : D) : RUN E 56 [x0] =
    opt (RUN E 73 [D.str (D.toStr (D.cell x0 3))]) fun ρ0 =>
  opt (cond (bif bif bif decide (D.toStr (D.cell x0 2) = ([] : List UInt8)) then false else true then true else false then bif bif D.toBool (List.getD ρ0 0 D.no) then true else D.toBool (List.getD ρ0 1 D.no) then false else true else false)
      (RUN E 24 [D.str (D.toStr (D.cell x0 2)), D.str (([10] : List UInt8))])
      (some [])) fun ρ1 =>
    cond (bif bif D.toBool (List.getD ρ0 0 D.no) then true else D.toBool (List.getD ρ0 1 D.no) then true else bif bif decide (D.toStr (D.cell x0 2) = ([] : List UInt8)) then false else true then bif D.toBool (List.getD ρ1 0 D.no) then false else true else false)
      (some [D.bool false])
      (opt (RUN E 75 [D.str (D.toStr (D.cell x0 2))]) fun ρ3 =>
        L56a (D.toList (List.getD ρ3 0 D.no)) ((↑(List.length (D.toList (List.getD ρ3 0 D.no))) : Int)) 0) := (RUN_eq _ _ _).trans (by kernel_rfl)
theorem round56a (v30 : List D) (v31 : Int) (v32 : Int) : L56a v30 v31 v32 =
    cond (decide (v32 < v31))
  (cond (inb v32 (List.length v30))
    (opt (cond (bif bif decide (D.toStr (List.getD v30 (Int.toNat v32) D.no) = ([] : List UInt8)) then false else true then true else false)
        (RUN E 76 [D.str (D.toStr (List.getD v30 (Int.toNat v32) D.no))])
        (some [])) fun ρ2 =>
      opt (cond (bif bif bif decide (D.toStr (List.getD v30 (Int.toNat v32) D.no) = ([] : List UInt8)) then false else true then D.toBool (List.getD ρ2 0 D.no) else false then false else true)
          (RUN E 77 [D.str (D.toStr (List.getD v30 (Int.toNat v32) D.no))])
          (some [])) fun ρ3 =>
        cond (bif bif bif decide (D.toStr (List.getD v30 (Int.toNat v32) D.no) = ([] : List UInt8)) then false else true then D.toBool (List.getD ρ2 0 D.no) else false then true else D.toBool (List.getD ρ3 0 D.no))
          (some [D.bool false])
          (L56a v30 v31 (IntKind.wrap IntKind.i64 (v32 + 1))))
    (none))
  (some [D.bool true]) := (LOOP_eq _ _ _ _ _ _).trans (by kernel_rfl)
/-! masthead/mark.permitted -/
theorem enter64 (kind0 : Int) (in1 : Int) : RUN E 64 [D.int kind0, D.int in1] =
    cond (decide (in1 = 0))
  (cond (decide (in1 = 0))
    (opt (RUN E 82 [D.int kind0]) fun ρ2 =>
      some [D.bool (bif bif bif D.toBool (List.getD ρ2 0 D.no) then !decide (kind0 = 6) else false then !decide (kind0 = 9) else false then !decide (kind0 = 10) else false)])
    (cond (decide (in1 = 5))
      (some [D.bool (decide (kind0 = 6))])
      (cond (decide (in1 = 8))
        (some [D.bool (decide (kind0 = 9))])
        (cond (decide (in1 = 9))
          (some [D.bool (decide (kind0 = 10))])
          (cond (decide (in1 = 1))
            (cond (decide (in1 = 1))
              (opt (RUN E 50 [D.int kind0]) fun ρ7 =>
                some [D.bool (D.toBool (List.getD ρ7 0 D.no))])
              (some [D.bool false]))
            (cond (decide (in1 = 2))
              (cond (decide (in1 = 2))
                (opt (RUN E 50 [D.int kind0]) fun ρ8 =>
                  some [D.bool (D.toBool (List.getD ρ8 0 D.no))])
                (some [D.bool false]))
              (cond (decide (in1 = 10))
                (cond (decide (in1 = 10))
                  (opt (RUN E 50 [D.int kind0]) fun ρ9 =>
                    some [D.bool (D.toBool (List.getD ρ9 0 D.no))])
                  (some [D.bool false]))
                (cond (decide (in1 = 14))
                  (cond (decide (in1 = 14))
                    (opt (RUN E 50 [D.int kind0]) fun ρ10 =>
                      some [D.bool (D.toBool (List.getD ρ10 0 D.no))])
                    (some [D.bool false]))
                  (cond (decide (in1 = 15))
                    (cond (decide (in1 = 15))
                      (opt (RUN E 50 [D.int kind0]) fun ρ11 =>
                        some [D.bool (D.toBool (List.getD ρ11 0 D.no))])
                      (some [D.bool false]))
                    (cond (decide (in1 = 17))
                      (opt (RUN E 50 [D.int kind0]) fun ρ11 =>
                        some [D.bool (D.toBool (List.getD ρ11 0 D.no))])
                      (some [D.bool false])))))))))))
  (cond (decide (in1 = 4))
    (cond (decide (in1 = 4))
      (opt (RUN E 82 [D.int kind0]) fun ρ3 =>
        some [D.bool (bif bif bif D.toBool (List.getD ρ3 0 D.no) then !decide (kind0 = 6) else false then !decide (kind0 = 9) else false then !decide (kind0 = 10) else false)])
      (cond (decide (in1 = 5))
        (some [D.bool (decide (kind0 = 6))])
        (cond (decide (in1 = 8))
          (some [D.bool (decide (kind0 = 9))])
          (cond (decide (in1 = 9))
            (some [D.bool (decide (kind0 = 10))])
            (cond (decide (in1 = 1))
              (cond (decide (in1 = 1))
                (opt (RUN E 50 [D.int kind0]) fun ρ8 =>
                  some [D.bool (D.toBool (List.getD ρ8 0 D.no))])
                (some [D.bool false]))
              (cond (decide (in1 = 2))
                (cond (decide (in1 = 2))
                  (opt (RUN E 50 [D.int kind0]) fun ρ9 =>
                    some [D.bool (D.toBool (List.getD ρ9 0 D.no))])
                  (some [D.bool false]))
                (cond (decide (in1 = 10))
                  (cond (decide (in1 = 10))
                    (opt (RUN E 50 [D.int kind0]) fun ρ10 =>
                      some [D.bool (D.toBool (List.getD ρ10 0 D.no))])
                    (some [D.bool false]))
                  (cond (decide (in1 = 14))
                    (cond (decide (in1 = 14))
                      (opt (RUN E 50 [D.int kind0]) fun ρ11 =>
                        some [D.bool (D.toBool (List.getD ρ11 0 D.no))])
                      (some [D.bool false]))
                    (cond (decide (in1 = 15))
                      (cond (decide (in1 = 15))
                        (opt (RUN E 50 [D.int kind0]) fun ρ12 =>
                          some [D.bool (D.toBool (List.getD ρ12 0 D.no))])
                        (some [D.bool false]))
                      (cond (decide (in1 = 17))
                        (opt (RUN E 50 [D.int kind0]) fun ρ12 =>
                          some [D.bool (D.toBool (List.getD ρ12 0 D.no))])
                        (some [D.bool false])))))))))))
    (cond (decide (in1 = 6))
      (opt (RUN E 82 [D.int kind0]) fun ρ3 =>
        some [D.bool (bif bif bif D.toBool (List.getD ρ3 0 D.no) then !decide (kind0 = 6) else false then !decide (kind0 = 9) else false then !decide (kind0 = 10) else false)])
      (cond (decide (in1 = 5))
        (some [D.bool (decide (kind0 = 6))])
        (cond (decide (in1 = 8))
          (some [D.bool (decide (kind0 = 9))])
          (cond (decide (in1 = 9))
            (some [D.bool (decide (kind0 = 10))])
            (cond (decide (in1 = 1))
              (cond (decide (in1 = 1))
                (opt (RUN E 50 [D.int kind0]) fun ρ8 =>
                  some [D.bool (D.toBool (List.getD ρ8 0 D.no))])
                (some [D.bool false]))
              (cond (decide (in1 = 2))
                (cond (decide (in1 = 2))
                  (opt (RUN E 50 [D.int kind0]) fun ρ9 =>
                    some [D.bool (D.toBool (List.getD ρ9 0 D.no))])
                  (some [D.bool false]))
                (cond (decide (in1 = 10))
                  (cond (decide (in1 = 10))
                    (opt (RUN E 50 [D.int kind0]) fun ρ10 =>
                      some [D.bool (D.toBool (List.getD ρ10 0 D.no))])
                    (some [D.bool false]))
                  (cond (decide (in1 = 14))
                    (cond (decide (in1 = 14))
                      (opt (RUN E 50 [D.int kind0]) fun ρ11 =>
                        some [D.bool (D.toBool (List.getD ρ11 0 D.no))])
                      (some [D.bool false]))
                    (cond (decide (in1 = 15))
                      (cond (decide (in1 = 15))
                        (opt (RUN E 50 [D.int kind0]) fun ρ12 =>
                          some [D.bool (D.toBool (List.getD ρ12 0 D.no))])
                        (some [D.bool false]))
                      (cond (decide (in1 = 17))
                        (opt (RUN E 50 [D.int kind0]) fun ρ12 =>
                          some [D.bool (D.toBool (List.getD ρ12 0 D.no))])
                        (some [D.bool false])))))))))))) := (RUN_eq _ _ _).trans (by kernel_rfl)
/-! masthead/mark.uses -/
theorem enter65 (kind0 : Int) : RUN E 65 [D.int kind0] =
    cond (decide (kind0 = 1))
  (cond (decide (kind0 = 1))
    (some [D.str (([76, 75] : List UInt8))])
    (cond (decide (kind0 = 2))
      (cond (decide (kind0 = 2))
        (some [D.str (([75] : List UInt8))])
        (cond (decide (kind0 = 3))
          (some [D.str (([84, 68] : List UInt8))])
          (cond (decide (kind0 = 11))
            (cond (decide (kind0 = 11))
              (some [D.str (([84] : List UInt8))])
              (cond (decide (kind0 = 17))
                (some [D.str (([68, 78, 75] : List UInt8))])
                (cond (decide (kind0 = 18))
                  (some [D.str (([68, 78, 84] : List UInt8))])
                  (some [D.str (([] : List UInt8))]))))
            (cond (decide (kind0 = 16))
              (some [D.str (([84] : List UInt8))])
              (cond (decide (kind0 = 17))
                (some [D.str (([68, 78, 75] : List UInt8))])
                (cond (decide (kind0 = 18))
                  (some [D.str (([68, 78, 84] : List UInt8))])
                  (some [D.str (([] : List UInt8))])))))))
      (cond (decide (kind0 = 4))
        (cond (decide (kind0 = 4))
          (some [D.str (([75] : List UInt8))])
          (cond (decide (kind0 = 3))
            (some [D.str (([84, 68] : List UInt8))])
            (cond (decide (kind0 = 11))
              (cond (decide (kind0 = 11))
                (some [D.str (([84] : List UInt8))])
                (cond (decide (kind0 = 17))
                  (some [D.str (([68, 78, 75] : List UInt8))])
                  (cond (decide (kind0 = 18))
                    (some [D.str (([68, 78, 84] : List UInt8))])
                    (some [D.str (([] : List UInt8))]))))
              (cond (decide (kind0 = 16))
                (some [D.str (([84] : List UInt8))])
                (cond (decide (kind0 = 17))
                  (some [D.str (([68, 78, 75] : List UInt8))])
                  (cond (decide (kind0 = 18))
                    (some [D.str (([68, 78, 84] : List UInt8))])
                    (some [D.str (([] : List UInt8))])))))))
        (cond (decide (kind0 = 6))
          (cond (decide (kind0 = 6))
            (some [D.str (([75] : List UInt8))])
            (cond (decide (kind0 = 3))
              (some [D.str (([84, 68] : List UInt8))])
              (cond (decide (kind0 = 11))
                (cond (decide (kind0 = 11))
                  (some [D.str (([84] : List UInt8))])
                  (cond (decide (kind0 = 17))
                    (some [D.str (([68, 78, 75] : List UInt8))])
                    (cond (decide (kind0 = 18))
                      (some [D.str (([68, 78, 84] : List UInt8))])
                      (some [D.str (([] : List UInt8))]))))
                (cond (decide (kind0 = 16))
                  (some [D.str (([84] : List UInt8))])
                  (cond (decide (kind0 = 17))
                    (some [D.str (([68, 78, 75] : List UInt8))])
                    (cond (decide (kind0 = 18))
                      (some [D.str (([68, 78, 84] : List UInt8))])
                      (some [D.str (([] : List UInt8))])))))))
          (cond (decide (kind0 = 8))
            (cond (decide (kind0 = 8))
              (some [D.str (([75] : List UInt8))])
              (cond (decide (kind0 = 3))
                (some [D.str (([84, 68] : List UInt8))])
                (cond (decide (kind0 = 11))
                  (cond (decide (kind0 = 11))
                    (some [D.str (([84] : List UInt8))])
                    (cond (decide (kind0 = 17))
                      (some [D.str (([68, 78, 75] : List UInt8))])
                      (cond (decide (kind0 = 18))
                        (some [D.str (([68, 78, 84] : List UInt8))])
                        (some [D.str (([] : List UInt8))]))))
                  (cond (decide (kind0 = 16))
                    (some [D.str (([84] : List UInt8))])
                    (cond (decide (kind0 = 17))
                      (some [D.str (([68, 78, 75] : List UInt8))])
                      (cond (decide (kind0 = 18))
                        (some [D.str (([68, 78, 84] : List UInt8))])
                        (some [D.str (([] : List UInt8))])))))))
            (cond (decide (kind0 = 9))
              (cond (decide (kind0 = 9))
                (some [D.str (([75] : List UInt8))])
                (cond (decide (kind0 = 3))
                  (some [D.str (([84, 68] : List UInt8))])
                  (cond (decide (kind0 = 11))
                    (cond (decide (kind0 = 11))
                      (some [D.str (([84] : List UInt8))])
                      (cond (decide (kind0 = 17))
                        (some [D.str (([68, 78, 75] : List UInt8))])
                        (cond (decide (kind0 = 18))
                          (some [D.str (([68, 78, 84] : List UInt8))])
                          (some [D.str (([] : List UInt8))]))))
                    (cond (decide (kind0 = 16))
                      (some [D.str (([84] : List UInt8))])
                      (cond (decide (kind0 = 17))
                        (some [D.str (([68, 78, 75] : List UInt8))])
                        (cond (decide (kind0 = 18))
                          (some [D.str (([68, 78, 84] : List UInt8))])
                          (some [D.str (([] : List UInt8))])))))))
              (cond (decide (kind0 = 10))
                (cond (decide (kind0 = 10))
                  (some [D.str (([75] : List UInt8))])
                  (cond (decide (kind0 = 3))
                    (some [D.str (([84, 68] : List UInt8))])
                    (cond (decide (kind0 = 11))
                      (cond (decide (kind0 = 11))
                        (some [D.str (([84] : List UInt8))])
                        (cond (decide (kind0 = 17))
                          (some [D.str (([68, 78, 75] : List UInt8))])
                          (cond (decide (kind0 = 18))
                            (some [D.str (([68, 78, 84] : List UInt8))])
                            (some [D.str (([] : List UInt8))]))))
                      (cond (decide (kind0 = 16))
                        (some [D.str (([84] : List UInt8))])
                        (cond (decide (kind0 = 17))
                          (some [D.str (([68, 78, 75] : List UInt8))])
                          (cond (decide (kind0 = 18))
                            (some [D.str (([68, 78, 84] : List UInt8))])
                            (some [D.str (([] : List UInt8))])))))))
                (cond (decide (kind0 = 14))
                  (cond (decide (kind0 = 14))
                    (some [D.str (([75] : List UInt8))])
                    (cond (decide (kind0 = 3))
                      (some [D.str (([84, 68] : List UInt8))])
                      (cond (decide (kind0 = 11))
                        (cond (decide (kind0 = 11))
                          (some [D.str (([84] : List UInt8))])
                          (cond (decide (kind0 = 17))
                            (some [D.str (([68, 78, 75] : List UInt8))])
                            (cond (decide (kind0 = 18))
                              (some [D.str (([68, 78, 84] : List UInt8))])
                              (some [D.str (([] : List UInt8))]))))
                        (cond (decide (kind0 = 16))
                          (some [D.str (([84] : List UInt8))])
                          (cond (decide (kind0 = 17))
                            (some [D.str (([68, 78, 75] : List UInt8))])
                            (cond (decide (kind0 = 18))
                              (some [D.str (([68, 78, 84] : List UInt8))])
                              (some [D.str (([] : List UInt8))])))))))
                  (cond (decide (kind0 = 15))
                    (some [D.str (([75] : List UInt8))])
                    (cond (decide (kind0 = 3))
                      (some [D.str (([84, 68] : List UInt8))])
                      (cond (decide (kind0 = 11))
                        (cond (decide (kind0 = 11))
                          (some [D.str (([84] : List UInt8))])
                          (cond (decide (kind0 = 17))
                            (some [D.str (([68, 78, 75] : List UInt8))])
                            (cond (decide (kind0 = 18))
                              (some [D.str (([68, 78, 84] : List UInt8))])
                              (some [D.str (([] : List UInt8))]))))
                        (cond (decide (kind0 = 16))
                          (some [D.str (([84] : List UInt8))])
                          (cond (decide (kind0 = 17))
                            (some [D.str (([68, 78, 75] : List UInt8))])
                            (cond (decide (kind0 = 18))
                              (some [D.str (([68, 78, 84] : List UInt8))])
                              (some [D.str (([] : List UInt8))])))))))))))))))
  (cond (decide (kind0 = 5))
    (some [D.str (([76, 75] : List UInt8))])
    (cond (decide (kind0 = 2))
      (cond (decide (kind0 = 2))
        (some [D.str (([75] : List UInt8))])
        (cond (decide (kind0 = 3))
          (some [D.str (([84, 68] : List UInt8))])
          (cond (decide (kind0 = 11))
            (cond (decide (kind0 = 11))
              (some [D.str (([84] : List UInt8))])
              (cond (decide (kind0 = 17))
                (some [D.str (([68, 78, 75] : List UInt8))])
                (cond (decide (kind0 = 18))
                  (some [D.str (([68, 78, 84] : List UInt8))])
                  (some [D.str (([] : List UInt8))]))))
            (cond (decide (kind0 = 16))
              (some [D.str (([84] : List UInt8))])
              (cond (decide (kind0 = 17))
                (some [D.str (([68, 78, 75] : List UInt8))])
                (cond (decide (kind0 = 18))
                  (some [D.str (([68, 78, 84] : List UInt8))])
                  (some [D.str (([] : List UInt8))])))))))
      (cond (decide (kind0 = 4))
        (cond (decide (kind0 = 4))
          (some [D.str (([75] : List UInt8))])
          (cond (decide (kind0 = 3))
            (some [D.str (([84, 68] : List UInt8))])
            (cond (decide (kind0 = 11))
              (cond (decide (kind0 = 11))
                (some [D.str (([84] : List UInt8))])
                (cond (decide (kind0 = 17))
                  (some [D.str (([68, 78, 75] : List UInt8))])
                  (cond (decide (kind0 = 18))
                    (some [D.str (([68, 78, 84] : List UInt8))])
                    (some [D.str (([] : List UInt8))]))))
              (cond (decide (kind0 = 16))
                (some [D.str (([84] : List UInt8))])
                (cond (decide (kind0 = 17))
                  (some [D.str (([68, 78, 75] : List UInt8))])
                  (cond (decide (kind0 = 18))
                    (some [D.str (([68, 78, 84] : List UInt8))])
                    (some [D.str (([] : List UInt8))])))))))
        (cond (decide (kind0 = 6))
          (cond (decide (kind0 = 6))
            (some [D.str (([75] : List UInt8))])
            (cond (decide (kind0 = 3))
              (some [D.str (([84, 68] : List UInt8))])
              (cond (decide (kind0 = 11))
                (cond (decide (kind0 = 11))
                  (some [D.str (([84] : List UInt8))])
                  (cond (decide (kind0 = 17))
                    (some [D.str (([68, 78, 75] : List UInt8))])
                    (cond (decide (kind0 = 18))
                      (some [D.str (([68, 78, 84] : List UInt8))])
                      (some [D.str (([] : List UInt8))]))))
                (cond (decide (kind0 = 16))
                  (some [D.str (([84] : List UInt8))])
                  (cond (decide (kind0 = 17))
                    (some [D.str (([68, 78, 75] : List UInt8))])
                    (cond (decide (kind0 = 18))
                      (some [D.str (([68, 78, 84] : List UInt8))])
                      (some [D.str (([] : List UInt8))])))))))
          (cond (decide (kind0 = 8))
            (cond (decide (kind0 = 8))
              (some [D.str (([75] : List UInt8))])
              (cond (decide (kind0 = 3))
                (some [D.str (([84, 68] : List UInt8))])
                (cond (decide (kind0 = 11))
                  (cond (decide (kind0 = 11))
                    (some [D.str (([84] : List UInt8))])
                    (cond (decide (kind0 = 17))
                      (some [D.str (([68, 78, 75] : List UInt8))])
                      (cond (decide (kind0 = 18))
                        (some [D.str (([68, 78, 84] : List UInt8))])
                        (some [D.str (([] : List UInt8))]))))
                  (cond (decide (kind0 = 16))
                    (some [D.str (([84] : List UInt8))])
                    (cond (decide (kind0 = 17))
                      (some [D.str (([68, 78, 75] : List UInt8))])
                      (cond (decide (kind0 = 18))
                        (some [D.str (([68, 78, 84] : List UInt8))])
                        (some [D.str (([] : List UInt8))])))))))
            (cond (decide (kind0 = 9))
              (cond (decide (kind0 = 9))
                (some [D.str (([75] : List UInt8))])
                (cond (decide (kind0 = 3))
                  (some [D.str (([84, 68] : List UInt8))])
                  (cond (decide (kind0 = 11))
                    (cond (decide (kind0 = 11))
                      (some [D.str (([84] : List UInt8))])
                      (cond (decide (kind0 = 17))
                        (some [D.str (([68, 78, 75] : List UInt8))])
                        (cond (decide (kind0 = 18))
                          (some [D.str (([68, 78, 84] : List UInt8))])
                          (some [D.str (([] : List UInt8))]))))
                    (cond (decide (kind0 = 16))
                      (some [D.str (([84] : List UInt8))])
                      (cond (decide (kind0 = 17))
                        (some [D.str (([68, 78, 75] : List UInt8))])
                        (cond (decide (kind0 = 18))
                          (some [D.str (([68, 78, 84] : List UInt8))])
                          (some [D.str (([] : List UInt8))])))))))
              (cond (decide (kind0 = 10))
                (cond (decide (kind0 = 10))
                  (some [D.str (([75] : List UInt8))])
                  (cond (decide (kind0 = 3))
                    (some [D.str (([84, 68] : List UInt8))])
                    (cond (decide (kind0 = 11))
                      (cond (decide (kind0 = 11))
                        (some [D.str (([84] : List UInt8))])
                        (cond (decide (kind0 = 17))
                          (some [D.str (([68, 78, 75] : List UInt8))])
                          (cond (decide (kind0 = 18))
                            (some [D.str (([68, 78, 84] : List UInt8))])
                            (some [D.str (([] : List UInt8))]))))
                      (cond (decide (kind0 = 16))
                        (some [D.str (([84] : List UInt8))])
                        (cond (decide (kind0 = 17))
                          (some [D.str (([68, 78, 75] : List UInt8))])
                          (cond (decide (kind0 = 18))
                            (some [D.str (([68, 78, 84] : List UInt8))])
                            (some [D.str (([] : List UInt8))])))))))
                (cond (decide (kind0 = 14))
                  (cond (decide (kind0 = 14))
                    (some [D.str (([75] : List UInt8))])
                    (cond (decide (kind0 = 3))
                      (some [D.str (([84, 68] : List UInt8))])
                      (cond (decide (kind0 = 11))
                        (cond (decide (kind0 = 11))
                          (some [D.str (([84] : List UInt8))])
                          (cond (decide (kind0 = 17))
                            (some [D.str (([68, 78, 75] : List UInt8))])
                            (cond (decide (kind0 = 18))
                              (some [D.str (([68, 78, 84] : List UInt8))])
                              (some [D.str (([] : List UInt8))]))))
                        (cond (decide (kind0 = 16))
                          (some [D.str (([84] : List UInt8))])
                          (cond (decide (kind0 = 17))
                            (some [D.str (([68, 78, 75] : List UInt8))])
                            (cond (decide (kind0 = 18))
                              (some [D.str (([68, 78, 84] : List UInt8))])
                              (some [D.str (([] : List UInt8))])))))))
                  (cond (decide (kind0 = 15))
                    (some [D.str (([75] : List UInt8))])
                    (cond (decide (kind0 = 3))
                      (some [D.str (([84, 68] : List UInt8))])
                      (cond (decide (kind0 = 11))
                        (cond (decide (kind0 = 11))
                          (some [D.str (([84] : List UInt8))])
                          (cond (decide (kind0 = 17))
                            (some [D.str (([68, 78, 75] : List UInt8))])
                            (cond (decide (kind0 = 18))
                              (some [D.str (([68, 78, 84] : List UInt8))])
                              (some [D.str (([] : List UInt8))]))))
                        (cond (decide (kind0 = 16))
                          (some [D.str (([84] : List UInt8))])
                          (cond (decide (kind0 = 17))
                            (some [D.str (([68, 78, 75] : List UInt8))])
                            (cond (decide (kind0 = 18))
                              (some [D.str (([68, 78, 84] : List UInt8))])
                              (some [D.str (([] : List UInt8))]))))))))))))))) := (RUN_eq _ _ _).trans (by kernel_rfl)
/-! masthead/mark.nodeFault$1 -/
theorem enter66 (c0 : List UInt8) (zero1 : Bool) (a2 : List UInt8) : RUN E 66 [D.str c0, D.bool zero1, D.str a2] =
    opt (cond (bif bif zero1 then false else true then true else false)
    (RUN E 67 [D.str a2, D.str c0])
    (some [])) fun ρ0 =>
  some [D.bool (bif !zero1 then !D.toBool (List.getD ρ0 0 D.no) else false)] := (RUN_eq _ _ _).trans (by kernel_rfl)
/-! masthead/mark.byteFault -/
theorem enter68 (n0 : D) : RUN E 68 [n0] =
    cond (decide (D.toInt (D.cell n0 0) = 11))
  (cond (decide (D.toInt (D.cell n0 0) = 11))
    (opt (RUN E 84 [D.str (D.toStr (D.cell n0 2)), D.str (([9] : List UInt8))]) fun ρ2 =>
      opt (cond (bif D.toBool (List.getD ρ2 0 D.no) then false else true)
          (RUN E 84 [D.str (D.toStr (D.cell n0 3)), D.str (([] : List UInt8))])
          (some [])) fun ρ3 =>
        opt (cond (bif bif D.toBool (List.getD ρ2 0 D.no) then true else D.toBool (List.getD ρ3 0 D.no) then false else true)
            (RUN E 84 [D.str (D.toStr (D.cell n0 4)), D.str (([9] : List UInt8))])
            (some [])) fun ρ4 =>
          some [D.bool (bif bif D.toBool (List.getD ρ2 0 D.no) then true else D.toBool (List.getD ρ3 0 D.no) then true else D.toBool (List.getD ρ4 0 D.no))])
    (cond (decide (D.toInt (D.cell n0 0) = 3))
      (opt (RUN E 84 [D.str (D.toStr (D.cell n0 2)), D.str (([9, 10] : List UInt8))]) fun ρ3 =>
        opt (cond (bif D.toBool (List.getD ρ3 0 D.no) then false else true)
            (RUN E 84 [D.str (D.toStr (D.cell n0 3)), D.str (([9] : List UInt8))])
            (some [])) fun ρ4 =>
          opt (cond (bif bif D.toBool (List.getD ρ3 0 D.no) then true else D.toBool (List.getD ρ4 0 D.no) then false else true)
              (RUN E 84 [D.str (D.toStr (D.cell n0 4)), D.str (([9] : List UInt8))])
              (some [])) fun ρ5 =>
            some [D.bool (bif bif D.toBool (List.getD ρ3 0 D.no) then true else D.toBool (List.getD ρ4 0 D.no) then true else D.toBool (List.getD ρ5 0 D.no))])
      (opt (RUN E 84 [D.str (D.toStr (D.cell n0 2)), D.str (([] : List UInt8))]) fun ρ3 =>
        opt (cond (bif D.toBool (List.getD ρ3 0 D.no) then false else true)
            (RUN E 84 [D.str (D.toStr (D.cell n0 3)), D.str (([] : List UInt8))])
            (some [])) fun ρ4 =>
          opt (cond (bif bif D.toBool (List.getD ρ3 0 D.no) then true else D.toBool (List.getD ρ4 0 D.no) then false else true)
              (RUN E 84 [D.str (D.toStr (D.cell n0 4)), D.str (([9] : List UInt8))])
              (some [])) fun ρ5 =>
            some [D.bool (bif bif D.toBool (List.getD ρ3 0 D.no) then true else D.toBool (List.getD ρ4 0 D.no) then true else D.toBool (List.getD ρ5 0 D.no))])))
  (cond (decide (D.toInt (D.cell n0 0) = 16))
    (cond (decide (D.toInt (D.cell n0 0) = 16))
      (opt (RUN E 84 [D.str (D.toStr (D.cell n0 2)), D.str (([9] : List UInt8))]) fun ρ3 =>
        opt (cond (bif D.toBool (List.getD ρ3 0 D.no) then false else true)
            (RUN E 84 [D.str (D.toStr (D.cell n0 3)), D.str (([] : List UInt8))])
            (some [])) fun ρ4 =>
          opt (cond (bif bif D.toBool (List.getD ρ3 0 D.no) then true else D.toBool (List.getD ρ4 0 D.no) then false else true)
              (RUN E 84 [D.str (D.toStr (D.cell n0 4)), D.str (([9] : List UInt8))])
              (some [])) fun ρ5 =>
            some [D.bool (bif bif D.toBool (List.getD ρ3 0 D.no) then true else D.toBool (List.getD ρ4 0 D.no) then true else D.toBool (List.getD ρ5 0 D.no))])
      (cond (decide (D.toInt (D.cell n0 0) = 3))
        (opt (RUN E 84 [D.str (D.toStr (D.cell n0 2)), D.str (([9, 10] : List UInt8))]) fun ρ4 =>
          opt (cond (bif D.toBool (List.getD ρ4 0 D.no) then false else true)
              (RUN E 84 [D.str (D.toStr (D.cell n0 3)), D.str (([9] : List UInt8))])
              (some [])) fun ρ5 =>
            opt (cond (bif bif D.toBool (List.getD ρ4 0 D.no) then true else D.toBool (List.getD ρ5 0 D.no) then false else true)
                (RUN E 84 [D.str (D.toStr (D.cell n0 4)), D.str (([9] : List UInt8))])
                (some [])) fun ρ6 =>
              some [D.bool (bif bif D.toBool (List.getD ρ4 0 D.no) then true else D.toBool (List.getD ρ5 0 D.no) then true else D.toBool (List.getD ρ6 0 D.no))])
        (opt (RUN E 84 [D.str (D.toStr (D.cell n0 2)), D.str (([] : List UInt8))]) fun ρ4 =>
          opt (cond (bif D.toBool (List.getD ρ4 0 D.no) then false else true)
              (RUN E 84 [D.str (D.toStr (D.cell n0 3)), D.str (([] : List UInt8))])
              (some [])) fun ρ5 =>
            opt (cond (bif bif D.toBool (List.getD ρ4 0 D.no) then true else D.toBool (List.getD ρ5 0 D.no) then false else true)
                (RUN E 84 [D.str (D.toStr (D.cell n0 4)), D.str (([9] : List UInt8))])
                (some [])) fun ρ6 =>
              some [D.bool (bif bif D.toBool (List.getD ρ4 0 D.no) then true else D.toBool (List.getD ρ5 0 D.no) then true else D.toBool (List.getD ρ6 0 D.no))])))
    (cond (decide (D.toInt (D.cell n0 0) = 18))
      (opt (RUN E 84 [D.str (D.toStr (D.cell n0 2)), D.str (([9] : List UInt8))]) fun ρ3 =>
        opt (cond (bif D.toBool (List.getD ρ3 0 D.no) then false else true)
            (RUN E 84 [D.str (D.toStr (D.cell n0 3)), D.str (([] : List UInt8))])
            (some [])) fun ρ4 =>
          opt (cond (bif bif D.toBool (List.getD ρ3 0 D.no) then true else D.toBool (List.getD ρ4 0 D.no) then false else true)
              (RUN E 84 [D.str (D.toStr (D.cell n0 4)), D.str (([9] : List UInt8))])
              (some [])) fun ρ5 =>
            some [D.bool (bif bif D.toBool (List.getD ρ3 0 D.no) then true else D.toBool (List.getD ρ4 0 D.no) then true else D.toBool (List.getD ρ5 0 D.no))])
      (cond (decide (D.toInt (D.cell n0 0) = 3))
        (opt (RUN E 84 [D.str (D.toStr (D.cell n0 2)), D.str (([9, 10] : List UInt8))]) fun ρ4 =>
          opt (cond (bif D.toBool (List.getD ρ4 0 D.no) then false else true)
              (RUN E 84 [D.str (D.toStr (D.cell n0 3)), D.str (([9] : List UInt8))])
              (some [])) fun ρ5 =>
            opt (cond (bif bif D.toBool (List.getD ρ4 0 D.no) then true else D.toBool (List.getD ρ5 0 D.no) then false else true)
                (RUN E 84 [D.str (D.toStr (D.cell n0 4)), D.str (([9] : List UInt8))])
                (some [])) fun ρ6 =>
              some [D.bool (bif bif D.toBool (List.getD ρ4 0 D.no) then true else D.toBool (List.getD ρ5 0 D.no) then true else D.toBool (List.getD ρ6 0 D.no))])
        (opt (RUN E 84 [D.str (D.toStr (D.cell n0 2)), D.str (([] : List UInt8))]) fun ρ4 =>
          opt (cond (bif D.toBool (List.getD ρ4 0 D.no) then false else true)
              (RUN E 84 [D.str (D.toStr (D.cell n0 3)), D.str (([] : List UInt8))])
              (some [])) fun ρ5 =>
            opt (cond (bif bif D.toBool (List.getD ρ4 0 D.no) then true else D.toBool (List.getD ρ5 0 D.no) then false else true)
                (RUN E 84 [D.str (D.toStr (D.cell n0 4)), D.str (([9] : List UInt8))])
                (some [])) fun ρ6 =>
              some [D.bool (bif bif D.toBool (List.getD ρ4 0 D.no) then true else D.toBool (List.getD ρ5 0 D.no) then true else D.toBool (List.getD ρ6 0 D.no))])))) := (RUN_eq _ _ _).trans (by kernel_rfl)
/-! masthead/mastref1.permitted -/
theorem enter69 (parent0 : Int) (kind1 : Int) : RUN E 69 [D.int parent0, D.int kind1] =
    cond (decide (parent0 = 0))
  (cond (decide (parent0 = 0))
    (opt (RUN E 57 [D.int kind1]) fun ρ2 =>
      some [D.bool (bif bif bif D.toBool (List.getD ρ2 0 D.no) then !decide (kind1 = 6) else false then !decide (kind1 = 9) else false then !decide (kind1 = 10) else false)])
    (cond (decide (parent0 = 5))
      (some [D.bool (decide (kind1 = 6))])
      (cond (decide (parent0 = 8))
        (some [D.bool (decide (kind1 = 9))])
        (cond (decide (parent0 = 9))
          (some [D.bool (decide (kind1 = 10))])
          (cond (decide (parent0 = 1))
            (cond (decide (parent0 = 1))
              (opt (RUN E 52 [D.int kind1]) fun ρ7 =>
                some [D.bool (D.toBool (List.getD ρ7 0 D.no))])
              (some [D.bool false]))
            (cond (decide (parent0 = 2))
              (cond (decide (parent0 = 2))
                (opt (RUN E 52 [D.int kind1]) fun ρ8 =>
                  some [D.bool (D.toBool (List.getD ρ8 0 D.no))])
                (some [D.bool false]))
              (cond (decide (parent0 = 10))
                (cond (decide (parent0 = 10))
                  (opt (RUN E 52 [D.int kind1]) fun ρ9 =>
                    some [D.bool (D.toBool (List.getD ρ9 0 D.no))])
                  (some [D.bool false]))
                (cond (decide (parent0 = 14))
                  (cond (decide (parent0 = 14))
                    (opt (RUN E 52 [D.int kind1]) fun ρ10 =>
                      some [D.bool (D.toBool (List.getD ρ10 0 D.no))])
                    (some [D.bool false]))
                  (cond (decide (parent0 = 15))
                    (cond (decide (parent0 = 15))
                      (opt (RUN E 52 [D.int kind1]) fun ρ11 =>
                        some [D.bool (D.toBool (List.getD ρ11 0 D.no))])
                      (some [D.bool false]))
                    (cond (decide (parent0 = 17))
                      (opt (RUN E 52 [D.int kind1]) fun ρ11 =>
                        some [D.bool (D.toBool (List.getD ρ11 0 D.no))])
                      (some [D.bool false])))))))))))
  (cond (decide (parent0 = 4))
    (cond (decide (parent0 = 4))
      (opt (RUN E 57 [D.int kind1]) fun ρ3 =>
        some [D.bool (bif bif bif D.toBool (List.getD ρ3 0 D.no) then !decide (kind1 = 6) else false then !decide (kind1 = 9) else false then !decide (kind1 = 10) else false)])
      (cond (decide (parent0 = 5))
        (some [D.bool (decide (kind1 = 6))])
        (cond (decide (parent0 = 8))
          (some [D.bool (decide (kind1 = 9))])
          (cond (decide (parent0 = 9))
            (some [D.bool (decide (kind1 = 10))])
            (cond (decide (parent0 = 1))
              (cond (decide (parent0 = 1))
                (opt (RUN E 52 [D.int kind1]) fun ρ8 =>
                  some [D.bool (D.toBool (List.getD ρ8 0 D.no))])
                (some [D.bool false]))
              (cond (decide (parent0 = 2))
                (cond (decide (parent0 = 2))
                  (opt (RUN E 52 [D.int kind1]) fun ρ9 =>
                    some [D.bool (D.toBool (List.getD ρ9 0 D.no))])
                  (some [D.bool false]))
                (cond (decide (parent0 = 10))
                  (cond (decide (parent0 = 10))
                    (opt (RUN E 52 [D.int kind1]) fun ρ10 =>
                      some [D.bool (D.toBool (List.getD ρ10 0 D.no))])
                    (some [D.bool false]))
                  (cond (decide (parent0 = 14))
                    (cond (decide (parent0 = 14))
                      (opt (RUN E 52 [D.int kind1]) fun ρ11 =>
                        some [D.bool (D.toBool (List.getD ρ11 0 D.no))])
                      (some [D.bool false]))
                    (cond (decide (parent0 = 15))
                      (cond (decide (parent0 = 15))
                        (opt (RUN E 52 [D.int kind1]) fun ρ12 =>
                          some [D.bool (D.toBool (List.getD ρ12 0 D.no))])
                        (some [D.bool false]))
                      (cond (decide (parent0 = 17))
                        (opt (RUN E 52 [D.int kind1]) fun ρ12 =>
                          some [D.bool (D.toBool (List.getD ρ12 0 D.no))])
                        (some [D.bool false])))))))))))
    (cond (decide (parent0 = 6))
      (opt (RUN E 57 [D.int kind1]) fun ρ3 =>
        some [D.bool (bif bif bif D.toBool (List.getD ρ3 0 D.no) then !decide (kind1 = 6) else false then !decide (kind1 = 9) else false then !decide (kind1 = 10) else false)])
      (cond (decide (parent0 = 5))
        (some [D.bool (decide (kind1 = 6))])
        (cond (decide (parent0 = 8))
          (some [D.bool (decide (kind1 = 9))])
          (cond (decide (parent0 = 9))
            (some [D.bool (decide (kind1 = 10))])
            (cond (decide (parent0 = 1))
              (cond (decide (parent0 = 1))
                (opt (RUN E 52 [D.int kind1]) fun ρ8 =>
                  some [D.bool (D.toBool (List.getD ρ8 0 D.no))])
                (some [D.bool false]))
              (cond (decide (parent0 = 2))
                (cond (decide (parent0 = 2))
                  (opt (RUN E 52 [D.int kind1]) fun ρ9 =>
                    some [D.bool (D.toBool (List.getD ρ9 0 D.no))])
                  (some [D.bool false]))
                (cond (decide (parent0 = 10))
                  (cond (decide (parent0 = 10))
                    (opt (RUN E 52 [D.int kind1]) fun ρ10 =>
                      some [D.bool (D.toBool (List.getD ρ10 0 D.no))])
                    (some [D.bool false]))
                  (cond (decide (parent0 = 14))
                    (cond (decide (parent0 = 14))
                      (opt (RUN E 52 [D.int kind1]) fun ρ11 =>
                        some [D.bool (D.toBool (List.getD ρ11 0 D.no))])
                      (some [D.bool false]))
                    (cond (decide (parent0 = 15))
                      (cond (decide (parent0 = 15))
                        (opt (RUN E 52 [D.int kind1]) fun ρ12 =>
                          some [D.bool (D.toBool (List.getD ρ12 0 D.no))])
                        (some [D.bool false]))
                      (cond (decide (parent0 = 17))
                        (opt (RUN E 52 [D.int kind1]) fun ρ12 =>
                          some [D.bool (D.toBool (List.getD ρ12 0 D.no))])
                        (some [D.bool false])))))))))))) := (RUN_eq _ _ _).trans (by kernel_rfl)
/-! masthead/mastref1.badBytes -/
def h70a (s0 : List UInt8) (tab1 : Bool) (feed2 : Bool) (i7 : Int) : St := mkSt 38 [(0, SV.val KT.str (D.str s0)), (1, SV.val KT.bool (D.bool tab1)), (2, SV.val KT.bool (D.bool feed2)), (7, SV.val (KT.int IntKind.i64) (D.int i7))] []
noncomputable def L70a (s0 : List UInt8) (tab1 : Bool) (feed2 : Bool) (i7 : Int) : R := LOOP E (RUN E) 70 Tryd.f70 [1, 0, 1, 0] (h70a s0 tab1 feed2 i7)
theorem enter70 (s0 : List UInt8) (tab1 : Bool) (feed2 : Bool) : RUN E 70 [D.str s0, D.bool tab1, D.bool feed2] =
    L70a s0 tab1 feed2 0 := (RUN_eq _ _ _).trans (by kernel_rfl)
theorem round70a (s0 : List UInt8) (tab1 : Bool) (feed2 : Bool) (i7 : Int) : L70a s0 tab1 feed2 i7 =
    cond (decide (i7 < (↑(List.length s0) : Int)))
  (cond (inb i7 (List.length s0))
    (cond (bif inb i7 (List.length s0) then true else bif bif bif tab1 then true else false then bif decide ((↑(UInt8.toNat (List.getD s0 (Int.toNat i7) 0)) : Int) < 32) then true else false else false then false else true)
      (cond (bif inb i7 (List.length s0) then true else bif bif bif feed2 then true else false then bif bif decide ((↑(UInt8.toNat (List.getD s0 (Int.toNat i7) 0)) : Int) < 32) then bif bif tab1 then decide ((↑(UInt8.toNat (List.getD s0 (Int.toNat i7) 0)) : Int) = 9) else false then false else true else false then true else false else false then false else true)
        (cond (bif bif decide ((↑(UInt8.toNat (List.getD s0 (Int.toNat i7) 0)) : Int) < 32) then bif bif tab1 then decide ((↑(UInt8.toNat (List.getD s0 (Int.toNat i7) 0)) : Int) = 9) else false then false else true else false then bif bif feed2 then decide ((↑(UInt8.toNat (List.getD s0 (Int.toNat i7) 0)) : Int) = 10) else false then false else true else false)
          (some [D.bool true])
          (L70a s0 tab1 feed2 (IntKind.wrap IntKind.i64 (i7 + 1))))
        (none))
      (none))
    (none))
  (some [D.bool false]) := (LOOP_eq _ _ _ _ _ _).trans (by kernel_rfl)
/-! masthead/mark.fenceFits -/
def h71a (v24 : List D) (v25 : Int) (v26 : Int) : St := mkSt 41 [(24, SV.val (KT.slice 9) (D.list v24)), (25, SV.val (KT.int IntKind.i64) (D.int v25)), (26, SV.val (KT.int IntKind.i64) (D.int v26))] []
noncomputable def L71a (v24 : List D) (v25 : Int) (v26 : Int) : R := LOOP E (RUN E) 71 Tryd.f71 [1, 1, 0, 1, 0] (h71a v24 v25 v26)
theorem enter71 (n0 : D) : RUN E 71 [n0] =
    opt (cond (bif bif decide (D.toStr (D.cell n0 2) = ([] : List UInt8)) then false else true then true else false)
    (RUN E 24 [D.str (D.toStr (D.cell n0 2)), D.str (([10] : List UInt8))])
    (some [])) fun ρ0 =>
  opt (cond (bif bif bif decide (D.toStr (D.cell n0 2) = ([] : List UInt8)) then false else true then bif D.toBool (List.getD ρ0 0 D.no) then false else true else false then false else true)
      (RUN E 85 [D.str (D.toStr (D.cell n0 3))])
      (some [])) fun ρ1 =>
    cond (bif bif bif decide (D.toStr (D.cell n0 2) = ([] : List UInt8)) then false else true then bif D.toBool (List.getD ρ0 0 D.no) then false else true else false then true else bif decide (D.toStr (List.getD ρ1 0 D.no) = D.toStr (D.cell n0 3)) then false else true)
      (some [D.bool false])
      (opt (RUN E 86 [D.str (D.toStr (D.cell n0 2))]) fun ρ3 =>
        L71a (D.toList (List.getD ρ3 0 D.no)) ((↑(List.length (D.toList (List.getD ρ3 0 D.no))) : Int)) 0) := (RUN_eq _ _ _).trans (by kernel_rfl)
theorem round71a (v24 : List D) (v25 : Int) (v26 : Int) : L71a v24 v25 v26 =
    cond (decide (v26 < v25))
  (cond (inb v26 (List.length v24))
    (opt (cond (bif bif decide (D.toStr (List.getD v24 (Int.toNat v26) D.no) = ([] : List UInt8)) then false else true then true else false)
        (RUN E 87 [D.str (D.toStr (List.getD v24 (Int.toNat v26) D.no))])
        (some [])) fun ρ2 =>
      opt (cond (bif bif bif decide (D.toStr (List.getD v24 (Int.toNat v26) D.no) = ([] : List UInt8)) then false else true then D.toBool (List.getD ρ2 0 D.no) else false then false else true)
          (RUN E 88 [D.str (D.toStr (List.getD v24 (Int.toNat v26) D.no))])
          (some [])) fun ρ3 =>
        cond (bif bif bif decide (D.toStr (List.getD v24 (Int.toNat v26) D.no) = ([] : List UInt8)) then false else true then D.toBool (List.getD ρ2 0 D.no) else false then true else D.toBool (List.getD ρ3 0 D.no))
          (some [D.bool false])
          (L71a v24 v25 (IntKind.wrap IntKind.i64 (v26 + 1))))
    (none))
  (some [D.bool true]) := (LOOP_eq _ _ _ _ _ _).trans (by kernel_rfl)
/-! masthead/mark.lineFits -/
theorem enter72 (l0 : List D) (kind1 : Int) : RUN E 72 [D.list l0, D.int kind1] =
    cond (decide (0 < (↑(List.length l0) : Int)))
  (cond (inb 0 (List.length l0))
    (cond (inb (IntKind.wrap IntKind.i64 ((↑(List.length l0) : Int) - 1)) (List.length l0))
      (opt (RUN E 89 [List.getD l0 0 D.no]) fun ρ3 =>
        opt (cond (bif D.toBool (List.getD ρ3 0 D.no) then false else true)
            (RUN E 89 [List.getD l0 (Int.toNat (IntKind.wrap IntKind.i64 ((↑(List.length l0) : Int) - 1))) D.no])
            (some [])) fun ρ4 =>
          cond (bif inb 0 (List.length (D.toStr (D.cell (List.getD l0 0 D.no) 2))) then true else bif bif bif bif decide (D.toInt (D.cell (List.getD l0 0 D.no) 0) = 11) then bif decide (D.toStr (D.cell (List.getD l0 0 D.no) 2) = ([] : List UInt8)) then false else true else false then true else false then bif bif D.toBool (List.getD ρ3 0 D.no) then true else D.toBool (List.getD ρ4 0 D.no) then false else true else false then false else true)
            (opt (cond (bif bif bif decide (D.toInt (D.cell (List.getD l0 0 D.no) 0) = 11) then bif decide (D.toStr (D.cell (List.getD l0 0 D.no) 2) = ([] : List UInt8)) then false else true else false then true else false then bif bif D.toBool (List.getD ρ3 0 D.no) then true else D.toBool (List.getD ρ4 0 D.no) then false else true else false)
                (RUN E 90 [D.int (↑(UInt8.toNat (List.getD (D.toStr (D.cell (List.getD l0 0 D.no) 2)) 0 0)) : Int)])
                (some [])) fun ρ6 =>
              cond (bif inb (IntKind.wrap IntKind.i64 ((↑(List.length (D.toStr (D.cell (List.getD l0 (Int.toNat (IntKind.wrap IntKind.i64 ((↑(List.length l0) : Int) - 1))) D.no) 2))) : Int) - 1)) (List.length (D.toStr (D.cell (List.getD l0 (Int.toNat (IntKind.wrap IntKind.i64 ((↑(List.length l0) : Int) - 1))) D.no) 2))) then true else bif bif bif bif decide (D.toInt (D.cell (List.getD l0 (Int.toNat (IntKind.wrap IntKind.i64 ((↑(List.length l0) : Int) - 1))) D.no) 0) = 11) then bif decide (D.toStr (D.cell (List.getD l0 (Int.toNat (IntKind.wrap IntKind.i64 ((↑(List.length l0) : Int) - 1))) D.no) 2) = ([] : List UInt8)) then false else true else false then true else false then bif bif bif D.toBool (List.getD ρ3 0 D.no) then true else D.toBool (List.getD ρ4 0 D.no) then true else bif bif decide (D.toInt (D.cell (List.getD l0 0 D.no) 0) = 11) then bif decide (D.toStr (D.cell (List.getD l0 0 D.no) 2) = ([] : List UInt8)) then false else true else false then D.toBool (List.getD ρ6 0 D.no) else false then false else true else false then false else true)
                (opt (cond (bif bif bif decide (D.toInt (D.cell (List.getD l0 (Int.toNat (IntKind.wrap IntKind.i64 ((↑(List.length l0) : Int) - 1))) D.no) 0) = 11) then bif decide (D.toStr (D.cell (List.getD l0 (Int.toNat (IntKind.wrap IntKind.i64 ((↑(List.length l0) : Int) - 1))) D.no) 2) = ([] : List UInt8)) then false else true else false then true else false then bif bif bif D.toBool (List.getD ρ3 0 D.no) then true else D.toBool (List.getD ρ4 0 D.no) then true else bif bif decide (D.toInt (D.cell (List.getD l0 0 D.no) 0) = 11) then bif decide (D.toStr (D.cell (List.getD l0 0 D.no) 2) = ([] : List UInt8)) then false else true else false then D.toBool (List.getD ρ6 0 D.no) else false then false else true else false)
                    (RUN E 90 [D.int (↑(UInt8.toNat (List.getD (D.toStr (D.cell (List.getD l0 (Int.toNat (IntKind.wrap IntKind.i64 ((↑(List.length l0) : Int) - 1))) D.no) 2)) (Int.toNat (IntKind.wrap IntKind.i64 ((↑(List.length (D.toStr (D.cell (List.getD l0 (Int.toNat (IntKind.wrap IntKind.i64 ((↑(List.length l0) : Int) - 1))) D.no) 2))) : Int) - 1))) 0)) : Int)])
                    (some [])) fun ρ8 =>
                  cond (bif bif bif D.toBool (List.getD ρ3 0 D.no) then true else D.toBool (List.getD ρ4 0 D.no) then true else bif bif decide (D.toInt (D.cell (List.getD l0 0 D.no) 0) = 11) then bif decide (D.toStr (D.cell (List.getD l0 0 D.no) 2) = ([] : List UInt8)) then false else true else false then D.toBool (List.getD ρ6 0 D.no) else false then true else bif bif decide (D.toInt (D.cell (List.getD l0 (Int.toNat (IntKind.wrap IntKind.i64 ((↑(List.length l0) : Int) - 1))) D.no) 0) = 11) then bif decide (D.toStr (D.cell (List.getD l0 (Int.toNat (IntKind.wrap IntKind.i64 ((↑(List.length l0) : Int) - 1))) D.no) 2) = ([] : List UInt8)) then false else true else false then D.toBool (List.getD ρ8 0 D.no) else false)
                    (some [D.bool false])
                    (opt (RUN E 91 [D.list l0, D.agg [D.bool false, D.bool false, D.bool false, D.int kind1]]) fun ρ10 =>
                      some [D.bool (D.toBool (List.getD ρ10 0 D.no))]))
                (none))
            (none))
      (none))
    (none))
  (opt (RUN E 91 [D.list l0, D.agg [D.bool false, D.bool false, D.bool false, D.int kind1]]) fun ρ1 =>
    some [D.bool (D.toBool (List.getD ρ1 0 D.no))]) := (RUN_eq _ _ _).trans (by kernel_rfl)
/-! masthead/mastref1.blankEnds -/
theorem enter73 (s0 : List UInt8) : RUN E 73 [D.str s0] =
    cond (bif inb 0 (List.length s0) then true else bif bif bif decide (s0 = ([] : List UInt8)) then false else true then true else false then false else true)
  (opt (cond (bif bif decide (s0 = ([] : List UInt8)) then false else true then true else false)
      (RUN E 92 [D.int (↑(UInt8.toNat (List.getD s0 0 0)) : Int)])
      (some [])) fun ρ1 =>
    cond (bif inb (IntKind.wrap IntKind.i64 ((↑(List.length s0) : Int) - 1)) (List.length s0) then true else bif bif bif decide (s0 = ([] : List UInt8)) then false else true then true else false then false else true)
      (opt (cond (bif bif decide (s0 = ([] : List UInt8)) then false else true then true else false)
          (RUN E 92 [D.int (↑(UInt8.toNat (List.getD s0 (Int.toNat (IntKind.wrap IntKind.i64 ((↑(List.length s0) : Int) - 1))) 0)) : Int)])
          (some [])) fun ρ3 =>
        some [D.bool (bif !decide (s0 = ([] : List UInt8)) then D.toBool (List.getD ρ1 0 D.no) else false), D.bool (bif !decide (s0 = ([] : List UInt8)) then D.toBool (List.getD ρ3 0 D.no) else false)])
      (none))
  (none) := (RUN_eq _ _ _).trans (by kernel_rfl)
/-! masthead/mastref1.goodInlines -/
def h74a (l0 : List D) (parent1 : Int) (v10 : List D) (v11 : Int) (v12 : Int) (w5 : D) : St := mkSt 68 [(0, SV.val (KT.slice 33) (D.list l0)), (1, SV.val (KT.int IntKind.i64) (D.int parent1)), (5, SV.bptr 5 83 0 (KT.agg 83)), (10, SV.val (KT.slice 33) (D.list v10)), (11, SV.val (KT.int IntKind.i64) (D.int v11)), (12, SV.val (KT.int IntKind.i64) (D.int v12))] [(5, Obj.box 83 (BC.whole w5))]
noncomputable def L74a (l0 : List D) (parent1 : Int) (v10 : List D) (v11 : Int) (v12 : Int) (w5 : D) : R := LOOP E (RUN E) 74 Tryd.f74 [1, 0, 1, 0] (h74a l0 parent1 v10 v11 v12 w5)
theorem enter74 (l0 : List D) (parent1 : Int) (w2 : D) : RUN E 74 [D.list l0, D.int parent1, w2] =
    L74a l0 parent1 l0 ((↑(List.length l0) : Int)) 0 w2 := (RUN_eq _ _ _).trans (by kernel_rfl)
theorem round74a (l0 : List D) (parent1 : Int) (v10 : List D) (v11 : Int) (v12 : Int) (w5 : D) : L74a l0 parent1 v10 v11 v12 w5 =
    cond (decide (v12 < v11))
  (cond (inb v12 (List.length v10))
    (opt (cond (bif bif decide (v12 = 0) then true else decide (v12 = IntKind.wrap IntKind.i64 ((↑(List.length l0) : Int) - 1)) then true else false)
        (RUN E 93 [D.int (D.toInt (D.cell (List.getD v10 (Int.toNat v12) D.no) 0))])
        (some [])) fun ρ2 =>
      opt (cond (bif bif D.toBool (List.getD ρ2 0 D.no) then false else true then bif bif decide (v12 = 0) then true else decide (v12 = IntKind.wrap IntKind.i64 ((↑(List.length l0) : Int) - 1)) then true else false else false)
          (RUN E 94 [D.int parent1])
          (some [])) fun ρ3 =>
        opt (cond (bif bif D.toBool (List.getD ρ3 0 D.no) then true else false then bif bif D.toBool (List.getD ρ2 0 D.no) then false else true then bif bif decide (v12 = 0) then true else decide (v12 = IntKind.wrap IntKind.i64 ((↑(List.length l0) : Int) - 1)) then true else false else false else false)
            (RUN E 94 [D.int (D.toInt (D.cell (List.getD v10 (Int.toNat v12) D.no) 0))])
            (some [])) fun ρ4 =>
          opt (cond (bif bif bif decide (v12 = 0) then true else decide (v12 = IntKind.wrap IntKind.i64 ((↑(List.length l0) : Int) - 1)) then bif D.toBool (List.getD ρ2 0 D.no) then true else bif D.toBool (List.getD ρ3 0 D.no) then D.toBool (List.getD ρ4 0 D.no) else false else false then false else true)
              (RUN E 93 [D.int (D.toInt (D.cell (List.getD v10 (Int.toNat v12) D.no) 0))])
              (some [])) fun ρ5 =>
            cond (bif bif bif decide (v12 = 0) then true else decide (v12 = IntKind.wrap IntKind.i64 ((↑(List.length l0) : Int) - 1)) then bif D.toBool (List.getD ρ2 0 D.no) then true else bif D.toBool (List.getD ρ3 0 D.no) then D.toBool (List.getD ρ4 0 D.no) else false else false then true else bif D.toBool (List.getD ρ5 0 D.no) then bif D.toBool (D.cell w5 4) then false else true else false)
              (some [D.bool false])
              (cond (bif inb (IntKind.wrap IntKind.i64 (v12 - 1)) (List.length l0) then true else bif bif decide (0 < v12) then true else false then false else true)
                (opt (cond (bif decide (0 < v12) then true else false)
                    (RUN E 95 [List.getD l0 (Int.toNat (IntKind.wrap IntKind.i64 (v12 - 1))) D.no, List.getD v10 (Int.toNat v12) D.no])
                    (some [])) fun ρ8 =>
                  cond (bif decide (0 < v12) then bif D.toBool (List.getD ρ8 0 D.no) then false else true else false)
                    (some [D.bool false])
                    (opt (RUN E 96 [List.getD v10 (Int.toNat v12) D.no, w5]) fun ρ10 =>
                      cond (bif D.toBool (List.getD ρ10 0 D.no) then false else true)
                        (some [D.bool false])
                        (L74a l0 parent1 v10 v11 (IntKind.wrap IntKind.i64 (v12 + 1)) w5)))
                (none)))
    (none))
  (some [D.bool true]) := (LOOP_eq _ _ _ _ _ _).trans (by kernel_rfl)
/-! strings.HasSuffix -/
theorem enter24 (s0 : List UInt8) (suffix1 : List UInt8) : RUN E 24 [D.str s0, D.str suffix1] =
    opt (RUN E 42 [D.str s0, D.str suffix1]) fun ρ0 =>
  some [D.bool (D.toBool (List.getD ρ0 0 D.no))] := (RUN_eq _ _ _).trans (by kernel_rfl)
/-! masthead/mastref1.LinesOf -/
theorem enter75 (s0 : List UInt8) : RUN E 75 [D.str s0] =
    opt (RUN E 24 [D.str s0, D.str (([10] : List UInt8))]) fun ρ0 =>
  cond (D.toBool (List.getD ρ0 0 D.no))
    (cond (cutOk (List.length s0) none (some (IntKind.wrap IntKind.i64 ((↑(List.length s0) : Int) - 1))))
      (opt (RUN E 97 [D.str (cutL s0 none (some (IntKind.wrap IntKind.i64 ((↑(List.length s0) : Int) - 1)))), D.str (([10] : List UInt8))]) fun ρ3 =>
        some [D.list (D.toList (List.getD ρ3 0 D.no))])
      (none))
    (cond (decide (s0 = ([] : List UInt8)))
      (some [D.list []])
      (opt (RUN E 97 [D.str s0, D.str (([10] : List UInt8))]) fun ρ3 =>
        some [D.list (D.toList (List.getD ρ3 0 D.no))])) := (RUN_eq _ _ _).trans (by kernel_rfl)
/-! masthead/mastref1.empty -/
theorem enter76 (s0 : List UInt8) : RUN E 76 [D.str s0] =
    opt (RUN E 98 [D.str s0]) fun ρ0 =>
  some [D.bool (decide (D.toStr (List.getD ρ0 0 D.no) = ([] : List UInt8)))] := (RUN_eq _ _ _).trans (by kernel_rfl)
/-! masthead/mastref1.fenceEnd -/
theorem enter77 (s0 : List UInt8) : RUN E 77 [D.str s0] =
    opt (RUN E 99 [D.str s0]) fun ρ0 =>
  cond (bif cutOk (List.length s0) (some 3) none then true else bif bif D.toBool (List.getD ρ0 0 D.no) then true else false then false else true)
    (opt (cond (bif D.toBool (List.getD ρ0 0 D.no) then true else false)
        (RUN E 76 [D.str (cutL s0 (some 3) none)])
        (some [])) fun ρ2 =>
      some [D.bool (bif D.toBool (List.getD ρ0 0 D.no) then D.toBool (List.getD ρ2 0 D.no) else false)])
    (none) := (RUN_eq _ _ _).trans (by kernel_rfl)
/-! masthead/mark.isBlock -/
theorem enter82 (kind0 : Int) : RUN E 82 [D.int kind0] =
    some [D.bool (bif decide (1 ≤ kind0) then decide (kind0 ≤ 10) else false)] := (RUN_eq _ _ _).trans (by kernel_rfl)
/-! masthead/mark.control -/
def h84a (s0 : List UInt8) (permitted1 : List UInt8) (i5 : Int) : St := mkSt 24 [(0, SV.val KT.str (D.str s0)), (1, SV.val KT.str (D.str permitted1)), (5, SV.val (KT.int IntKind.i64) (D.int i5))] []
noncomputable def L84a (s0 : List UInt8) (permitted1 : List UInt8) (i5 : Int) : R := LOOP E (RUN E) 84 Tryd.f84 [1, 0, 1, 0] (h84a s0 permitted1 i5)
theorem enter84 (s0 : List UInt8) (permitted1 : List UInt8) : RUN E 84 [D.str s0, D.str permitted1] =
    L84a s0 permitted1 0 := (RUN_eq _ _ _).trans (by kernel_rfl)
theorem round84a (s0 : List UInt8) (permitted1 : List UInt8) (i5 : Int) : L84a s0 permitted1 i5 =
    cond (decide (i5 < (↑(List.length s0) : Int)))
  (cond (inb i5 (List.length s0))
    (cond (bif inb i5 (List.length s0) then true else bif bif decide ((↑(UInt8.toNat (List.getD s0 (Int.toNat i5) 0)) : Int) < 32) then true else false then false else true)
      (opt (cond (bif decide ((↑(UInt8.toNat (List.getD s0 (Int.toNat i5) 0)) : Int) < 32) then true else false)
          (RUN E 104 [D.str permitted1, D.int (↑(UInt8.toNat (List.getD s0 (Int.toNat i5) 0)) : Int)])
          (some [])) fun ρ3 =>
        cond (bif decide ((↑(UInt8.toNat (List.getD s0 (Int.toNat i5) 0)) : Int) < 32) then decide (D.toInt (List.getD ρ3 0 D.no) < 0) else false)
          (some [D.bool true])
          (L84a s0 permitted1 (IntKind.wrap IntKind.i64 (i5 + 1))))
      (none))
    (none))
  (some [D.bool false]) := (LOOP_eq _ _ _ _ _ _).trans (by kernel_rfl)
/-! masthead/mastref1.isBlock -/
theorem enter57 (k0 : Int) : RUN E 57 [D.int k0] =
    some [D.bool (bif decide (1 ≤ k0) then decide (k0 ≤ 10) else false)] := (RUN_eq _ _ _).trans (by kernel_rfl)
/-! masthead/mark.trim -/
def h85a (s0 : List UInt8) : St := mkSt 28 [(0, SV.val KT.str (D.str s0))] []
noncomputable def L85a (s0 : List UInt8) : R := LOOP E (RUN E) 85 Tryd.f85 [1, 0, 0] (h85a s0)
def h85b (s0 : List UInt8) : St := mkSt 28 [(0, SV.val KT.str (D.str s0))] []
noncomputable def L85b (s0 : List UInt8) : R := LOOP E (RUN E) 85 Tryd.f85 [1, 1, 0, 0] (h85b s0)
theorem enter85 (s0 : List UInt8) : RUN E 85 [D.str s0] =
    L85a s0 := (RUN_eq _ _ _).trans (by kernel_rfl)
theorem round85a (s0 : List UInt8) : L85a s0 =
    cond (bif inb 0 (List.length s0) then true else bif bif bif decide (s0 = ([] : List UInt8)) then false else true then true else false then false else true)
  (opt (cond (bif bif decide (s0 = ([] : List UInt8)) then false else true then true else false)
      (RUN E 90 [D.int (↑(UInt8.toNat (List.getD s0 0 0)) : Int)])
      (some [])) fun ρ1 =>
    cond (bif bif decide (s0 = ([] : List UInt8)) then false else true then D.toBool (List.getD ρ1 0 D.no) else false)
      (cond (cutOk (List.length s0) (some 1) none)
        (L85a (cutL s0 (some 1) none))
        (none))
      (L85b s0))
  (none) := (LOOP_eq _ _ _ _ _ _).trans (by kernel_rfl)
theorem round85b (s0 : List UInt8) : L85b s0 =
    cond (bif inb (IntKind.wrap IntKind.i64 ((↑(List.length s0) : Int) - 1)) (List.length s0) then true else bif bif bif decide (s0 = ([] : List UInt8)) then false else true then true else false then false else true)
  (opt (cond (bif bif decide (s0 = ([] : List UInt8)) then false else true then true else false)
      (RUN E 90 [D.int (↑(UInt8.toNat (List.getD s0 (Int.toNat (IntKind.wrap IntKind.i64 ((↑(List.length s0) : Int) - 1))) 0)) : Int)])
      (some [])) fun ρ1 =>
    cond (bif bif decide (s0 = ([] : List UInt8)) then false else true then D.toBool (List.getD ρ1 0 D.no) else false)
      (cond (cutOk (List.length s0) none (some (IntKind.wrap IntKind.i64 ((↑(List.length s0) : Int) - 1))))
        (L85b (cutL s0 none (some (IntKind.wrap IntKind.i64 ((↑(List.length s0) : Int) - 1)))))
        (none))
      (some [D.str s0]))
  (none) := (LOOP_eq _ _ _ _ _ _).trans (by kernel_rfl)
/-! masthead/mark.lines -/
theorem enter86 (s0 : List UInt8) : RUN E 86 [D.str s0] =
    cond (decide (s0 = ([] : List UInt8)))
  (some [D.list []])
  (opt (RUN E 109 [D.str s0, D.str (([10] : List UInt8))]) fun ρ1 =>
    opt (RUN E 97 [D.str (D.toStr (List.getD ρ1 0 D.no)), D.str (([10] : List UInt8))]) fun ρ2 =>
      some [D.list (D.toList (List.getD ρ2 0 D.no))]) := (RUN_eq _ _ _).trans (by kernel_rfl)
/-! masthead/mark.allBlank -/
theorem enter87 (s0 : List UInt8) : RUN E 87 [D.str s0] =
    opt (RUN E 85 [D.str s0]) fun ρ0 =>
  some [D.bool (decide (D.toStr (List.getD ρ0 0 D.no) = ([] : List UInt8)))] := (RUN_eq _ _ _).trans (by kernel_rfl)
/-! masthead/mark.endsFence -/
theorem enter88 (s0 : List UInt8) : RUN E 88 [D.str s0] =
    opt (RUN E 110 [D.str s0]) fun ρ0 =>
  cond (bif cutOk (List.length s0) (some 3) none then true else bif bif D.toBool (List.getD ρ0 0 D.no) then true else false then false else true)
    (opt (cond (bif D.toBool (List.getD ρ0 0 D.no) then true else false)
        (RUN E 87 [D.str (cutL s0 (some 3) none)])
        (some [])) fun ρ2 =>
      some [D.bool (bif D.toBool (List.getD ρ0 0 D.no) then D.toBool (List.getD ρ2 0 D.no) else false)])
    (none) := (RUN_eq _ _ _).trans (by kernel_rfl)
/-! masthead/mark.isBreak -/
theorem enter89 (n0 : D) : RUN E 89 [n0] =
    some [D.bool (bif decide (D.toInt (D.cell n0 0) = 12) then true else decide (D.toInt (D.cell n0 0) = 13))] := (RUN_eq _ _ _).trans (by kernel_rfl)
/-! masthead/mark.isBlank -/
theorem enter90 (c0 : Int) : RUN E 90 [D.int c0] =
    some [D.bool (bif decide (c0 = 32) then true else decide (c0 = 9))] := (RUN_eq _ _ _).trans (by kernel_rfl)
/-! masthead/mark.inlinesFit -/
def h91a (l0 : List D) (v7 : List D) (v8 : Int) (v9 : Int) (w3 : D) : St := mkSt 31 [(0, SV.val (KT.slice 33) (D.list l0)), (3, SV.bptr 3 90 0 (KT.agg 90)), (7, SV.val (KT.slice 33) (D.list v7)), (8, SV.val (KT.int IntKind.i64) (D.int v8)), (9, SV.val (KT.int IntKind.i64) (D.int v9))] [(3, Obj.box 90 (BC.whole w3))]
noncomputable def L91a (l0 : List D) (v7 : List D) (v8 : Int) (v9 : Int) (w3 : D) : R := LOOP E (RUN E) 91 Tryd.f91 [1, 0, 1, 0] (h91a l0 v7 v8 v9 w3)
theorem enter91 (l0 : List D) (w1 : D) : RUN E 91 [D.list l0, w1] =
    L91a l0 l0 ((↑(List.length l0) : Int)) 0 w1 := (RUN_eq _ _ _).trans (by kernel_rfl)
theorem round91a (l0 : List D) (v7 : List D) (v8 : Int) (v9 : Int) (w3 : D) : L91a l0 v7 v8 v9 w3 =
    cond (decide (v9 < v8))
  (cond (inb v9 (List.length v7))
    (cond (bif inb (IntKind.wrap IntKind.i64 (v9 - 1)) (List.length l0) then true else bif bif decide (0 < v9) then true else false then false else true)
      (opt (cond (bif decide (0 < v9) then true else false)
          (RUN E 111 [List.getD l0 (Int.toNat (IntKind.wrap IntKind.i64 (v9 - 1))) D.no, List.getD v7 (Int.toNat v9) D.no])
          (some [])) fun ρ3 =>
        cond (bif decide (0 < v9) then bif D.toBool (List.getD ρ3 0 D.no) then false else true else false)
          (some [D.bool false])
          (opt (RUN E 112 [List.getD v7 (Int.toNat v9) D.no, w3]) fun ρ5 =>
            cond (bif D.toBool (List.getD ρ5 0 D.no) then false else true)
              (some [D.bool false])
              (L91a l0 v7 v8 (IntKind.wrap IntKind.i64 (v9 + 1)) w3)))
      (none))
    (none))
  (some [D.bool true]) := (LOOP_eq _ _ _ _ _ _).trans (by kernel_rfl)
/-! masthead/mastref1.isBlank -/
theorem enter92 (c0 : Int) : RUN E 92 [D.int c0] =
    some [D.bool (bif decide (c0 = 32) then true else decide (c0 = 9))] := (RUN_eq _ _ _).trans (by kernel_rfl)
/-! masthead/mastref1.ended -/
theorem enter93 (k0 : Int) : RUN E 93 [D.int k0] =
    some [D.bool (bif decide (k0 = 12) then true else decide (k0 = 13))] := (RUN_eq _ _ _).trans (by kernel_rfl)
/-! masthead/mastref1.starred -/
theorem enter94 (k0 : Int) : RUN E 94 [D.int k0] =
    some [D.bool (bif decide (k0 = 14) then true else decide (k0 = 15))] := (RUN_eq _ _ _).trans (by kernel_rfl)
/-! masthead/mastref1.goodPair -/
theorem enter95 (a0 : D) (b1 : D) : RUN E 95 [a0, b1] =
    opt (RUN E 73 [D.str (D.toStr (D.cell a0 2))]) fun ρ0 =>
  opt (RUN E 73 [D.str (D.toStr (D.cell b1 2))]) fun ρ1 =>
    cond (bif decide (D.toInt (D.cell a0 0) = 11) then decide (D.toInt (D.cell b1 0) = 11) else false)
      (cond (bif decide (D.toInt (D.cell a0 0) = 11) then decide (D.toInt (D.cell b1 0) = 11) else false)
        (some [D.bool false])
        (opt (cond (bif decide (D.toInt (D.cell a0 0) = 11) then true else false)
            (RUN E 93 [D.int (D.toInt (D.cell b1 0))])
            (some [])) fun ρ4 =>
          cond (bif bif decide (D.toInt (D.cell a0 0) = 11) then D.toBool (List.getD ρ4 0 D.no) else false then D.toBool (List.getD ρ0 1 D.no) else false)
            (cond (bif bif decide (D.toInt (D.cell a0 0) = 11) then D.toBool (List.getD ρ4 0 D.no) else false then D.toBool (List.getD ρ0 1 D.no) else false)
              (some [D.bool false])
              (some [D.bool true]))
            (opt (RUN E 93 [D.int (D.toInt (D.cell a0 0))]) fun ρ6 =>
              cond (bif bif D.toBool (List.getD ρ6 0 D.no) then decide (D.toInt (D.cell b1 0) = 11) else false then D.toBool (List.getD ρ1 0 D.no) else false)
                (some [D.bool false])
                (some [D.bool true]))))
      (opt (RUN E 93 [D.int (D.toInt (D.cell a0 0))]) fun ρ3 =>
        opt (cond (bif D.toBool (List.getD ρ3 0 D.no) then true else false)
            (RUN E 93 [D.int (D.toInt (D.cell b1 0))])
            (some [])) fun ρ4 =>
          cond (bif D.toBool (List.getD ρ3 0 D.no) then D.toBool (List.getD ρ4 0 D.no) else false)
            (cond (bif D.toBool (List.getD ρ3 0 D.no) then D.toBool (List.getD ρ4 0 D.no) else false)
              (some [D.bool false])
              (opt (cond (bif decide (D.toInt (D.cell a0 0) = 11) then true else false)
                  (RUN E 93 [D.int (D.toInt (D.cell b1 0))])
                  (some [])) fun ρ7 =>
                cond (bif bif decide (D.toInt (D.cell a0 0) = 11) then D.toBool (List.getD ρ7 0 D.no) else false then D.toBool (List.getD ρ0 1 D.no) else false)
                  (cond (bif bif decide (D.toInt (D.cell a0 0) = 11) then D.toBool (List.getD ρ7 0 D.no) else false then D.toBool (List.getD ρ0 1 D.no) else false)
                    (some [D.bool false])
                    (some [D.bool true]))
                  (opt (RUN E 93 [D.int (D.toInt (D.cell a0 0))]) fun ρ9 =>
                    cond (bif bif D.toBool (List.getD ρ9 0 D.no) then decide (D.toInt (D.cell b1 0) = 11) else false then D.toBool (List.getD ρ1 0 D.no) else false)
                      (some [D.bool false])
                      (some [D.bool true]))))
            (opt (RUN E 94 [D.int (D.toInt (D.cell a0 0))]) fun ρ6 =>
              opt (cond (bif D.toBool (List.getD ρ6 0 D.no) then true else false)
                  (RUN E 94 [D.int (D.toInt (D.cell b1 0))])
                  (some [])) fun ρ7 =>
                cond (bif D.toBool (List.getD ρ6 0 D.no) then D.toBool (List.getD ρ7 0 D.no) else false)
                  (some [D.bool false])
                  (opt (cond (bif decide (D.toInt (D.cell a0 0) = 11) then true else false)
                      (RUN E 93 [D.int (D.toInt (D.cell b1 0))])
                      (some [])) fun ρ9 =>
                    cond (bif bif decide (D.toInt (D.cell a0 0) = 11) then D.toBool (List.getD ρ9 0 D.no) else false then D.toBool (List.getD ρ0 1 D.no) else false)
                      (cond (bif bif decide (D.toInt (D.cell a0 0) = 11) then D.toBool (List.getD ρ9 0 D.no) else false then D.toBool (List.getD ρ0 1 D.no) else false)
                        (some [D.bool false])
                        (some [D.bool true]))
                      (opt (RUN E 93 [D.int (D.toInt (D.cell a0 0))]) fun ρ11 =>
                        cond (bif bif D.toBool (List.getD ρ11 0 D.no) then decide (D.toInt (D.cell b1 0) = 11) else false then D.toBool (List.getD ρ1 0 D.no) else false)
                          (some [D.bool false])
                          (some [D.bool true]))))) := (RUN_eq _ _ _).trans (by kernel_rfl)
/-! masthead/mastref1.goodInline -/
theorem enter96 (x0 : D) (w1 : D) : RUN E 96 [x0, w1] =
    cond (decide (List.length (D.toStr (D.cell x0 2)) + List.length (D.toStr (D.cell x0 3)) ≤ lim))
  (cond (decide (List.length (D.toStr (D.cell x0 2) ++ D.toStr (D.cell x0 3)) + List.length (D.toStr (D.cell x0 4)) ≤ lim))
    (opt (RUN E 67 [D.str (D.toStr (D.cell x0 2) ++ D.toStr (D.cell x0 3) ++ D.toStr (D.cell x0 4)), D.str (([124] : List UInt8))]) fun ρ2 =>
      cond (decide (D.toInt (D.cell x0 0) = 11))
        (some [D.bool !decide (D.toStr (D.cell x0 2) = ([] : List UInt8))])
        (cond (decide (D.toInt (D.cell x0 0) = 16))
          (opt (cond (bif bif decide (D.toStr (D.cell x0 2) = ([] : List UInt8)) then false else true then true else false)
              (RUN E 67 [D.str (D.toStr (D.cell x0 2)), D.str (([96] : List UInt8))])
              (some [])) fun ρ5 =>
            some [D.bool (bif bif !decide (D.toStr (D.cell x0 2) = ([] : List UInt8)) then !D.toBool (List.getD ρ5 0 D.no) else false then !bif D.toBool (List.getD ρ2 0 D.no) then D.toBool (D.cell w1 3) else false else false)])
          (cond (decide (D.toInt (D.cell x0 0) = 18))
            (opt (RUN E 113 [x0]) fun ρ6 =>
              cond (bif decide (List.length (D.toStr (D.cell x0 3)) + List.length (D.toStr (D.cell x0 4)) ≤ lim) then true else bif bif bif D.toBool (D.cell w1 2) then true else false then bif bif D.toBool (List.getD ρ6 0 D.no) then bif bif D.toBool (List.getD ρ2 0 D.no) then D.toBool (D.cell w1 3) else false then false else true else false then true else false else false then false else true)
                (opt (cond (bif bif D.toBool (D.cell w1 2) then true else false then bif bif D.toBool (List.getD ρ6 0 D.no) then bif bif D.toBool (List.getD ρ2 0 D.no) then D.toBool (D.cell w1 3) else false then false else true else false then true else false else false)
                    (RUN E 114 [D.str (D.toStr (D.cell x0 3) ++ D.toStr (D.cell x0 4)), D.str (([91, 93, 96] : List UInt8))])
                    (some [])) fun ρ8 =>
                  some [D.bool (bif bif D.toBool (List.getD ρ6 0 D.no) then !bif D.toBool (List.getD ρ2 0 D.no) then D.toBool (D.cell w1 3) else false else false then !bif D.toBool (D.cell w1 2) then D.toBool (List.getD ρ8 0 D.no) else false else false)])
                (none))
            (cond (decide (D.toInt (D.cell x0 0) = 14))
              (opt (cond (bif bif bif D.toBool (D.cell w1 0) then false else true then decide (0 < (↑(List.length (D.toList (D.cell x0 5))) : Int)) else false then true else false)
                  (RUN E 74 [D.list (D.toList (D.cell x0 5)), D.int (D.toInt (D.cell x0 0)), D.agg [D.bool true, D.bool (D.toBool (D.cell w1 1)), D.bool (D.toBool (D.cell w1 2)), D.bool (D.toBool (D.cell w1 3)), D.bool (D.toBool (D.cell w1 4))]])
                  (some [])) fun ρ7 =>
                some [D.bool (bif bif !D.toBool (D.cell w1 0) then decide (0 < (↑(List.length (D.toList (D.cell x0 5))) : Int)) else false then D.toBool (List.getD ρ7 0 D.no) else false)])
              (cond (decide (D.toInt (D.cell x0 0) = 15))
                (opt (cond (bif bif bif D.toBool (D.cell w1 1) then false else true then decide (0 < (↑(List.length (D.toList (D.cell x0 5))) : Int)) else false then true else false)
                    (RUN E 74 [D.list (D.toList (D.cell x0 5)), D.int (D.toInt (D.cell x0 0)), D.agg [D.bool (D.toBool (D.cell w1 0)), D.bool true, D.bool (D.toBool (D.cell w1 2)), D.bool (D.toBool (D.cell w1 3)), D.bool (D.toBool (D.cell w1 4))]])
                    (some [])) fun ρ8 =>
                  some [D.bool (bif bif !D.toBool (D.cell w1 1) then decide (0 < (↑(List.length (D.toList (D.cell x0 5))) : Int)) else false then D.toBool (List.getD ρ8 0 D.no) else false)])
                (cond (decide (D.toInt (D.cell x0 0) = 17))
                  (opt (cond (bif bif D.toBool (D.cell w1 2) then false else true then true else false)
                      (RUN E 113 [x0])
                      (some [])) fun ρ9 =>
                    opt (cond (bif bif bif bif bif D.toBool (D.cell w1 2) then false else true then D.toBool (List.getD ρ9 0 D.no) else false then bif bif D.toBool (List.getD ρ2 0 D.no) then D.toBool (D.cell w1 3) else false then false else true else false then decide (0 < (↑(List.length (D.toList (D.cell x0 5))) : Int)) else false then true else false)
                        (RUN E 74 [D.list (D.toList (D.cell x0 5)), D.int (D.toInt (D.cell x0 0)), D.agg [D.bool (D.toBool (D.cell w1 0)), D.bool (D.toBool (D.cell w1 1)), D.bool true, D.bool (D.toBool (D.cell w1 3)), D.bool (D.toBool (D.cell w1 4))]])
                        (some [])) fun ρ10 =>
                      some [D.bool (bif bif bif bif !D.toBool (D.cell w1 2) then D.toBool (List.getD ρ9 0 D.no) else false then !bif D.toBool (List.getD ρ2 0 D.no) then D.toBool (D.cell w1 3) else false else false then decide (0 < (↑(List.length (D.toList (D.cell x0 5))) : Int)) else false then D.toBool (List.getD ρ10 0 D.no) else false)])
                  (some [D.bool true])))))))
    (none))
  (none) := (RUN_eq _ _ _).trans (by kernel_rfl)
/-! internal/stringslite.HasSuffix -/
theorem enter42 (s0 : List UInt8) (suffix1 : List UInt8) : RUN E 42 [D.str s0, D.str suffix1] =
    cond (bif cutOk (List.length s0) (some (IntKind.wrap IntKind.i64 ((↑(List.length s0) : Int) - (↑(List.length suffix1) : Int)))) none then true else bif bif decide ((↑(List.length suffix1) : Int) ≤ (↑(List.length s0) : Int)) then true else false then false else true)
  (some [D.bool (bif decide ((↑(List.length suffix1) : Int) ≤ (↑(List.length s0) : Int)) then decide (cutL s0 (some (IntKind.wrap IntKind.i64 ((↑(List.length s0) : Int) - (↑(List.length suffix1) : Int)))) none = suffix1) else false)])
  (none) := (RUN_eq _ _ _).trans (by kernel_rfl)
/-! strings.Split -/
theorem enter97 (s0 : List UInt8) (sep1 : List UInt8) : RUN E 97 [D.str s0, D.str sep1] =
    opt (RUN E 115 [D.str s0, D.str sep1, D.int 0, D.int (-1)]) fun ρ0 =>
  some [D.list (D.toList (List.getD ρ0 0 D.no))] := (RUN_eq _ _ _).trans (by kernel_rfl)
/-! masthead/mastref1.trim -/
theorem enter98 (s0 : List UInt8) : RUN E 98 [D.str s0] =
    opt (RUN E 25 [D.str s0, D.str (([32, 9] : List UInt8))]) fun ρ0 =>
  some [D.str (D.toStr (List.getD ρ0 0 D.no))] := (RUN_eq _ _ _).trans (by kernel_rfl)
/-! masthead/mastref1.fenced -/
theorem enter99 (s0 : List UInt8) : RUN E 99 [D.str s0] =
    opt (RUN E 116 [D.str s0, D.str (([96, 96, 96] : List UInt8))]) fun ρ0 =>
  some [D.bool (D.toBool (List.getD ρ0 0 D.no))] := (RUN_eq _ _ _).trans (by kernel_rfl)
/-! strings.TrimSuffix -/
theorem enter109 (s0 : List UInt8) (suffix1 : List UInt8) : RUN E 109 [D.str s0, D.str suffix1] =
    opt (RUN E 124 [D.str s0, D.str suffix1]) fun ρ0 =>
  some [D.str (D.toStr (List.getD ρ0 0 D.no))] := (RUN_eq _ _ _).trans (by kernel_rfl)
/-! masthead/mark.isFence -/
theorem enter110 (s0 : List UInt8) : RUN E 110 [D.str s0] =
    opt (RUN E 116 [D.str s0, D.str (([96, 96, 96] : List UInt8))]) fun ρ0 =>
  some [D.bool (D.toBool (List.getD ρ0 0 D.no))] := (RUN_eq _ _ _).trans (by kernel_rfl)
/-! masthead/mark.neighbors -/
theorem enter111 (a0 : D) (b1 : D) : RUN E 111 [a0, b1] =
    cond (bif decide (D.toInt (D.cell a0 0) = 11) then decide (D.toInt (D.cell b1 0) = 11) else false)
  (cond (bif decide (D.toInt (D.cell a0 0) = 11) then decide (D.toInt (D.cell b1 0) = 11) else false)
    (some [D.bool false])
    (opt (cond (bif decide (D.toInt (D.cell a0 0) = 11) then true else false)
        (RUN E 89 [b1])
        (some [])) fun ρ2 =>
      cond (bif decide (D.toInt (D.cell a0 0) = 11) then D.toBool (List.getD ρ2 0 D.no) else false)
        (cond (bif inb (IntKind.wrap IntKind.i64 ((↑(List.length (D.toStr (D.cell a0 2))) : Int) - 1)) (List.length (D.toStr (D.cell a0 2))) then true else bif bif decide (D.toStr (D.cell a0 2) = ([] : List UInt8)) then false else true then false else true)
          (opt (cond (bif decide (D.toStr (D.cell a0 2) = ([] : List UInt8)) then false else true)
              (RUN E 90 [D.int (↑(UInt8.toNat (List.getD (D.toStr (D.cell a0 2)) (Int.toNat (IntKind.wrap IntKind.i64 ((↑(List.length (D.toStr (D.cell a0 2))) : Int) - 1))) 0)) : Int)])
              (some [])) fun ρ5 =>
            some [D.bool (bif decide (D.toStr (D.cell a0 2) = ([] : List UInt8)) then true else !D.toBool (List.getD ρ5 0 D.no))])
          (none))
        (opt (RUN E 89 [a0]) fun ρ4 =>
          cond (bif D.toBool (List.getD ρ4 0 D.no) then decide (D.toInt (D.cell b1 0) = 11) else false)
            (cond (bif inb 0 (List.length (D.toStr (D.cell b1 2))) then true else bif bif decide (D.toStr (D.cell b1 2) = ([] : List UInt8)) then false else true then false else true)
              (opt (cond (bif decide (D.toStr (D.cell b1 2) = ([] : List UInt8)) then false else true)
                  (RUN E 90 [D.int (↑(UInt8.toNat (List.getD (D.toStr (D.cell b1 2)) 0 0)) : Int)])
                  (some [])) fun ρ7 =>
                some [D.bool (bif decide (D.toStr (D.cell b1 2) = ([] : List UInt8)) then true else !D.toBool (List.getD ρ7 0 D.no))])
              (none))
            (some [D.bool true]))))
  (opt (RUN E 89 [a0]) fun ρ1 =>
    opt (cond (bif D.toBool (List.getD ρ1 0 D.no) then true else false)
        (RUN E 89 [b1])
        (some [])) fun ρ2 =>
      cond (bif D.toBool (List.getD ρ1 0 D.no) then D.toBool (List.getD ρ2 0 D.no) else false)
        (cond (bif D.toBool (List.getD ρ1 0 D.no) then D.toBool (List.getD ρ2 0 D.no) else false)
          (some [D.bool false])
          (opt (cond (bif decide (D.toInt (D.cell a0 0) = 11) then true else false)
              (RUN E 89 [b1])
              (some [])) fun ρ5 =>
            cond (bif decide (D.toInt (D.cell a0 0) = 11) then D.toBool (List.getD ρ5 0 D.no) else false)
              (cond (bif inb (IntKind.wrap IntKind.i64 ((↑(List.length (D.toStr (D.cell a0 2))) : Int) - 1)) (List.length (D.toStr (D.cell a0 2))) then true else bif bif decide (D.toStr (D.cell a0 2) = ([] : List UInt8)) then false else true then false else true)
                (opt (cond (bif decide (D.toStr (D.cell a0 2) = ([] : List UInt8)) then false else true)
                    (RUN E 90 [D.int (↑(UInt8.toNat (List.getD (D.toStr (D.cell a0 2)) (Int.toNat (IntKind.wrap IntKind.i64 ((↑(List.length (D.toStr (D.cell a0 2))) : Int) - 1))) 0)) : Int)])
                    (some [])) fun ρ8 =>
                  some [D.bool (bif decide (D.toStr (D.cell a0 2) = ([] : List UInt8)) then true else !D.toBool (List.getD ρ8 0 D.no))])
                (none))
              (opt (RUN E 89 [a0]) fun ρ7 =>
                cond (bif D.toBool (List.getD ρ7 0 D.no) then decide (D.toInt (D.cell b1 0) = 11) else false)
                  (cond (bif inb 0 (List.length (D.toStr (D.cell b1 2))) then true else bif bif decide (D.toStr (D.cell b1 2) = ([] : List UInt8)) then false else true then false else true)
                    (opt (cond (bif decide (D.toStr (D.cell b1 2) = ([] : List UInt8)) then false else true)
                        (RUN E 90 [D.int (↑(UInt8.toNat (List.getD (D.toStr (D.cell b1 2)) 0 0)) : Int)])
                        (some [])) fun ρ10 =>
                      some [D.bool (bif decide (D.toStr (D.cell b1 2) = ([] : List UInt8)) then true else !D.toBool (List.getD ρ10 0 D.no))])
                    (none))
                  (some [D.bool true]))))
        (opt (RUN E 125 [a0]) fun ρ4 =>
          opt (cond (bif D.toBool (List.getD ρ4 0 D.no) then true else false)
              (RUN E 125 [b1])
              (some [])) fun ρ5 =>
            cond (bif D.toBool (List.getD ρ4 0 D.no) then D.toBool (List.getD ρ5 0 D.no) else false)
              (some [D.bool false])
              (opt (cond (bif decide (D.toInt (D.cell a0 0) = 11) then true else false)
                  (RUN E 89 [b1])
                  (some [])) fun ρ7 =>
                cond (bif decide (D.toInt (D.cell a0 0) = 11) then D.toBool (List.getD ρ7 0 D.no) else false)
                  (cond (bif inb (IntKind.wrap IntKind.i64 ((↑(List.length (D.toStr (D.cell a0 2))) : Int) - 1)) (List.length (D.toStr (D.cell a0 2))) then true else bif bif decide (D.toStr (D.cell a0 2) = ([] : List UInt8)) then false else true then false else true)
                    (opt (cond (bif decide (D.toStr (D.cell a0 2) = ([] : List UInt8)) then false else true)
                        (RUN E 90 [D.int (↑(UInt8.toNat (List.getD (D.toStr (D.cell a0 2)) (Int.toNat (IntKind.wrap IntKind.i64 ((↑(List.length (D.toStr (D.cell a0 2))) : Int) - 1))) 0)) : Int)])
                        (some [])) fun ρ10 =>
                      some [D.bool (bif decide (D.toStr (D.cell a0 2) = ([] : List UInt8)) then true else !D.toBool (List.getD ρ10 0 D.no))])
                    (none))
                  (opt (RUN E 89 [a0]) fun ρ9 =>
                    cond (bif D.toBool (List.getD ρ9 0 D.no) then decide (D.toInt (D.cell b1 0) = 11) else false)
                      (cond (bif inb 0 (List.length (D.toStr (D.cell b1 2))) then true else bif bif decide (D.toStr (D.cell b1 2) = ([] : List UInt8)) then false else true then false else true)
                        (opt (cond (bif decide (D.toStr (D.cell b1 2) = ([] : List UInt8)) then false else true)
                            (RUN E 90 [D.int (↑(UInt8.toNat (List.getD (D.toStr (D.cell b1 2)) 0 0)) : Int)])
                            (some [])) fun ρ12 =>
                          some [D.bool (bif decide (D.toStr (D.cell b1 2) = ([] : List UInt8)) then true else !D.toBool (List.getD ρ12 0 D.no))])
                        (none))
                      (some [D.bool true]))))) := (RUN_eq _ _ _).trans (by kernel_rfl)
/-! masthead/mark.inlineFits -/
def h112a (n2 : D) (w3c0 : Bool) (w3c1 : Bool) (w3c2 : Bool) (w3c3 : Int) : St := mkSt 117 [(2, SV.bptr 2 33 0 (KT.agg 33)), (3, SV.bptr 3 90 0 (KT.agg 90))] [(2, Obj.box 33 (BC.whole n2)), (3, Obj.box 90 (BC.cells [SV.val KT.bool (D.bool w3c0), SV.val KT.bool (D.bool w3c1), SV.val KT.bool (D.bool w3c2), SV.val (KT.int IntKind.i64) (D.int w3c3)]))]
noncomputable def C112a (n2 : D) (w3c0 : Bool) (w3c1 : Bool) (w3c2 : Bool) (w3c3 : Int) : R := PART E (RUN E) 112 Tryd.f112 [1, 1] (h112a n2 w3c0 w3c1 w3c2 w3c3)
def h112ax (n2 : D) (w3 : D) : St := mkSt 117 [(2, SV.bptr 2 33 0 (KT.agg 33)), (3, SV.bptr 3 90 0 (KT.agg 90))] [(2, Obj.box 33 (BC.whole n2)), (3, Obj.box 90 (BC.whole w3))]
noncomputable def C112ax (n2 : D) (w3 : D) : R := PART E (RUN E) 112 Tryd.f112 [1, 1] (h112ax n2 w3)
theorem enter112 (n0 : D) (w1 : D) : RUN E 112 [n0, w1] =
    cond (decide (D.toInt (D.cell n0 0) = 11))
  (some [D.bool !decide (D.toStr (D.cell n0 2) = ([] : List UInt8))])
  (cond (decide (D.toInt (D.cell n0 0) = 16))
    (opt (cond (bif bif decide (D.toStr (D.cell n0 2) = ([] : List UInt8)) then false else true then true else false)
        (RUN E 104 [D.str (D.toStr (D.cell n0 2)), D.int 96])
        (some [])) fun ρ2 =>
      opt (cond (bif bif bif decide (D.toStr (D.cell n0 2) = ([] : List UInt8)) then false else true then decide (D.toInt (List.getD ρ2 0 D.no) < 0) else false then true else false)
          (RUN E 126 [w1, D.str (D.toStr (D.cell n0 2))])
          (some [])) fun ρ3 =>
        some [D.bool (bif bif !decide (D.toStr (D.cell n0 2) = ([] : List UInt8)) then decide (D.toInt (List.getD ρ2 0 D.no) < 0) else false then D.toBool (List.getD ρ3 0 D.no) else false)])
    (cond (decide (D.toInt (D.cell n0 0) = 12))
      (cond (decide (D.toInt (D.cell n0 0) = 12))
        (some [D.bool (decide (D.toInt (D.cell w1 3) = 2))])
        (cond (decide (D.toInt (D.cell n0 0) = 18))
          (cond (bif decide (List.length (D.toStr (D.cell n0 3)) + List.length (D.toStr (D.cell n0 4)) ≤ lim) then true else bif bif D.toBool (D.cell w1 2) then true else false then false else true)
            (opt (cond (bif D.toBool (D.cell w1 2) then true else false)
                (RUN E 114 [D.str (D.toStr (D.cell n0 3) ++ D.toStr (D.cell n0 4)), D.str (([91, 93, 96] : List UInt8))])
                (some [])) fun ρ6 =>
              cond (bif D.toBool (D.cell w1 2) then D.toBool (List.getD ρ6 0 D.no) else false)
                (some [D.bool false])
                (opt (RUN E 127 [w1, n0]) fun ρ8 =>
                  opt (cond (bif D.toBool (List.getD ρ8 0 D.no) then true else false)
                      (RUN E 126 [w1, D.str (D.toStr (D.cell n0 2))])
                      (some [])) fun ρ9 =>
                    some [D.bool (bif D.toBool (List.getD ρ8 0 D.no) then D.toBool (List.getD ρ9 0 D.no) else false)]))
            (none))
          (cond (decide (D.toInt (D.cell n0 0) = 17))
            (opt (cond (bif D.toBool (D.cell w1 2) then false else true)
                (RUN E 127 [w1, n0])
                (some [])) fun ρ6 =>
              cond (bif D.toBool (D.cell w1 2) then true else bif D.toBool (List.getD ρ6 0 D.no) then false else true)
                (some [D.bool false])
                (C112a n0 (D.toBool (D.cell w1 0)) (D.toBool (D.cell w1 1)) true (D.toInt (D.cell w1 3))))
            (cond (decide (D.toInt (D.cell n0 0) = 14))
              (cond (D.toBool (D.cell w1 0))
                (some [D.bool false])
                (C112a n0 true (D.toBool (D.cell w1 1)) (D.toBool (D.cell w1 2)) (D.toInt (D.cell w1 3))))
              (cond (decide (D.toInt (D.cell n0 0) = 15))
                (cond (D.toBool (D.cell w1 1))
                  (some [D.bool false])
                  (C112a n0 (D.toBool (D.cell w1 0)) true (D.toBool (D.cell w1 2)) (D.toInt (D.cell w1 3))))
                (C112ax n0 w1))))))
      (cond (decide (D.toInt (D.cell n0 0) = 13))
        (some [D.bool (decide (D.toInt (D.cell w1 3) = 2))])
        (cond (decide (D.toInt (D.cell n0 0) = 18))
          (cond (bif decide (List.length (D.toStr (D.cell n0 3)) + List.length (D.toStr (D.cell n0 4)) ≤ lim) then true else bif bif D.toBool (D.cell w1 2) then true else false then false else true)
            (opt (cond (bif D.toBool (D.cell w1 2) then true else false)
                (RUN E 114 [D.str (D.toStr (D.cell n0 3) ++ D.toStr (D.cell n0 4)), D.str (([91, 93, 96] : List UInt8))])
                (some [])) fun ρ6 =>
              cond (bif D.toBool (D.cell w1 2) then D.toBool (List.getD ρ6 0 D.no) else false)
                (some [D.bool false])
                (opt (RUN E 127 [w1, n0]) fun ρ8 =>
                  opt (cond (bif D.toBool (List.getD ρ8 0 D.no) then true else false)
                      (RUN E 126 [w1, D.str (D.toStr (D.cell n0 2))])
                      (some [])) fun ρ9 =>
                    some [D.bool (bif D.toBool (List.getD ρ8 0 D.no) then D.toBool (List.getD ρ9 0 D.no) else false)]))
            (none))
          (cond (decide (D.toInt (D.cell n0 0) = 17))
            (opt (cond (bif D.toBool (D.cell w1 2) then false else true)
                (RUN E 127 [w1, n0])
                (some [])) fun ρ6 =>
              cond (bif D.toBool (D.cell w1 2) then true else bif D.toBool (List.getD ρ6 0 D.no) then false else true)
                (some [D.bool false])
                (C112a n0 (D.toBool (D.cell w1 0)) (D.toBool (D.cell w1 1)) true (D.toInt (D.cell w1 3))))
            (cond (decide (D.toInt (D.cell n0 0) = 14))
              (cond (D.toBool (D.cell w1 0))
                (some [D.bool false])
                (C112a n0 true (D.toBool (D.cell w1 1)) (D.toBool (D.cell w1 2)) (D.toInt (D.cell w1 3))))
              (cond (decide (D.toInt (D.cell n0 0) = 15))
                (cond (D.toBool (D.cell w1 1))
                  (some [D.bool false])
                  (C112a n0 (D.toBool (D.cell w1 0)) true (D.toBool (D.cell w1 2)) (D.toInt (D.cell w1 3))))
                (C112ax n0 w1)))))))) := (RUN_eq _ _ _).trans (by kernel_rfl)
theorem round112a (n2 : D) (w3c0 : Bool) (w3c1 : Bool) (w3c2 : Bool) (w3c3 : Int) : C112a n2 w3c0 w3c1 w3c2 w3c3 =
    cond (decide ((↑(List.length (D.toList (D.cell n2 5))) : Int) = 0))
  (some [D.bool false])
  (cond (inb 0 (List.length (D.toList (D.cell n2 5))))
    (cond (inb (IntKind.wrap IntKind.i64 ((↑(List.length (D.toList (D.cell n2 5))) : Int) - 1)) (List.length (D.toList (D.cell n2 5))))
      (opt (RUN E 89 [List.getD (D.toList (D.cell n2 5)) 0 D.no]) fun ρ3 =>
        opt (cond (bif D.toBool (List.getD ρ3 0 D.no) then false else true)
            (RUN E 89 [List.getD (D.toList (D.cell n2 5)) (Int.toNat (IntKind.wrap IntKind.i64 ((↑(List.length (D.toList (D.cell n2 5))) : Int) - 1))) D.no])
            (some [])) fun ρ4 =>
          opt (cond (bif bif D.toBool (List.getD ρ3 0 D.no) then true else D.toBool (List.getD ρ4 0 D.no) then false else true)
              (RUN E 125 [n2])
              (some [])) fun ρ5 =>
            opt (cond (bif bif D.toBool (List.getD ρ5 0 D.no) then true else false then bif bif D.toBool (List.getD ρ3 0 D.no) then true else D.toBool (List.getD ρ4 0 D.no) then false else true else false)
                (RUN E 125 [List.getD (D.toList (D.cell n2 5)) 0 D.no])
                (some [])) fun ρ6 =>
              opt (cond (bif bif D.toBool (List.getD ρ6 0 D.no) then false else true then bif bif D.toBool (List.getD ρ5 0 D.no) then true else false then bif bif D.toBool (List.getD ρ3 0 D.no) then true else D.toBool (List.getD ρ4 0 D.no) then false else true else false else false)
                  (RUN E 125 [List.getD (D.toList (D.cell n2 5)) (Int.toNat (IntKind.wrap IntKind.i64 ((↑(List.length (D.toList (D.cell n2 5))) : Int) - 1))) D.no])
                  (some [])) fun ρ7 =>
                cond (bif bif D.toBool (List.getD ρ3 0 D.no) then true else D.toBool (List.getD ρ4 0 D.no) then true else bif D.toBool (List.getD ρ5 0 D.no) then bif D.toBool (List.getD ρ6 0 D.no) then true else D.toBool (List.getD ρ7 0 D.no) else false)
                  (some [D.bool false])
                  (opt (RUN E 91 [D.list (D.toList (D.cell n2 5)), D.agg [D.bool w3c0, D.bool w3c1, D.bool w3c2, D.int w3c3]]) fun ρ9 =>
                    some [D.bool (D.toBool (List.getD ρ9 0 D.no))]))
      (none))
    (none)) := (PART_eq _ _ _ _ _ _).trans (by kernel_rfl)
theorem round112ax (n2 : D) (w3 : D) : C112ax n2 w3 =
    cond (decide ((↑(List.length (D.toList (D.cell n2 5))) : Int) = 0))
  (some [D.bool false])
  (cond (inb 0 (List.length (D.toList (D.cell n2 5))))
    (cond (inb (IntKind.wrap IntKind.i64 ((↑(List.length (D.toList (D.cell n2 5))) : Int) - 1)) (List.length (D.toList (D.cell n2 5))))
      (opt (RUN E 89 [List.getD (D.toList (D.cell n2 5)) 0 D.no]) fun ρ3 =>
        opt (cond (bif D.toBool (List.getD ρ3 0 D.no) then false else true)
            (RUN E 89 [List.getD (D.toList (D.cell n2 5)) (Int.toNat (IntKind.wrap IntKind.i64 ((↑(List.length (D.toList (D.cell n2 5))) : Int) - 1))) D.no])
            (some [])) fun ρ4 =>
          opt (cond (bif bif D.toBool (List.getD ρ3 0 D.no) then true else D.toBool (List.getD ρ4 0 D.no) then false else true)
              (RUN E 125 [n2])
              (some [])) fun ρ5 =>
            opt (cond (bif bif D.toBool (List.getD ρ5 0 D.no) then true else false then bif bif D.toBool (List.getD ρ3 0 D.no) then true else D.toBool (List.getD ρ4 0 D.no) then false else true else false)
                (RUN E 125 [List.getD (D.toList (D.cell n2 5)) 0 D.no])
                (some [])) fun ρ6 =>
              opt (cond (bif bif D.toBool (List.getD ρ6 0 D.no) then false else true then bif bif D.toBool (List.getD ρ5 0 D.no) then true else false then bif bif D.toBool (List.getD ρ3 0 D.no) then true else D.toBool (List.getD ρ4 0 D.no) then false else true else false else false)
                  (RUN E 125 [List.getD (D.toList (D.cell n2 5)) (Int.toNat (IntKind.wrap IntKind.i64 ((↑(List.length (D.toList (D.cell n2 5))) : Int) - 1))) D.no])
                  (some [])) fun ρ7 =>
                cond (bif bif D.toBool (List.getD ρ3 0 D.no) then true else D.toBool (List.getD ρ4 0 D.no) then true else bif D.toBool (List.getD ρ5 0 D.no) then bif D.toBool (List.getD ρ6 0 D.no) then true else D.toBool (List.getD ρ7 0 D.no) else false)
                  (some [D.bool false])
                  (opt (RUN E 91 [D.list (D.toList (D.cell n2 5)), w3]) fun ρ9 =>
                    some [D.bool (D.toBool (List.getD ρ9 0 D.no))]))
      (none))
    (none)) := (PART_eq _ _ _ _ _ _).trans (by kernel_rfl)
/-! masthead/mastref1.goodTarget -/
def h113a (i3 : Int) (x1 : D) : St := mkSt 31 [(1, SV.bptr 1 33 0 (KT.agg 33)), (3, SV.val (KT.int IntKind.i64) (D.int i3))] [(1, Obj.box 33 (BC.whole x1))]
noncomputable def L113a (i3 : Int) (x1 : D) : R := LOOP E (RUN E) 113 Tryd.f113 [1, 1, 0, 1, 0] (h113a i3 x1)
theorem enter113 (x0 : D) : RUN E 113 [x0] =
    cond (decide (D.toStr (D.cell x0 3) = ([] : List UInt8)))
  (some [D.bool false])
  (L113a 0 x0) := (RUN_eq _ _ _).trans (by kernel_rfl)
theorem round113a (i3 : Int) (x1 : D) : L113a i3 x1 =
    cond (decide (i3 < (↑(List.length (D.toStr (D.cell x1 3))) : Int)))
  (cond (inb i3 (List.length (D.toStr (D.cell x1 3))))
    (cond (bif inb i3 (List.length (D.toStr (D.cell x1 3))) then true else bif bif decide ((↑(UInt8.toNat (List.getD (D.toStr (D.cell x1 3)) (Int.toNat i3) 0)) : Int) ≤ 32) then false else true then false else true)
      (opt (cond (bif decide ((↑(UInt8.toNat (List.getD (D.toStr (D.cell x1 3)) (Int.toNat i3) 0)) : Int) ≤ 32) then false else true)
          (RUN E 104 [D.str (([40, 41, 34, 92] : List UInt8)), D.int (↑(UInt8.toNat (List.getD (D.toStr (D.cell x1 3)) (Int.toNat i3) 0)) : Int)])
          (some [])) fun ρ3 =>
        cond (bif decide ((↑(UInt8.toNat (List.getD (D.toStr (D.cell x1 3)) (Int.toNat i3) 0)) : Int) ≤ 32) then true else decide (0 ≤ D.toInt (List.getD ρ3 0 D.no)))
          (some [D.bool false])
          (L113a (IntKind.wrap IntKind.i64 (i3 + 1)) x1))
      (none))
    (none))
  (opt (RUN E 114 [D.str (D.toStr (D.cell x1 4)), D.str (([34, 92, 10] : List UInt8))]) fun ρ1 =>
    some [D.bool !D.toBool (List.getD ρ1 0 D.no)]) := (LOOP_eq _ _ _ _ _ _).trans (by kernel_rfl)
/-! strings.genSplit -/
def h115a (s0 : List UInt8) (sep1 : List UInt8) (sepSave2 : Int) (n3 : Int) : St := mkSt 66 [(0, SV.val KT.str (D.str s0)), (1, SV.val KT.str (D.str sep1)), (2, SV.val (KT.int IntKind.i64) (D.int sepSave2)), (3, SV.val (KT.int IntKind.i64) (D.int n3))] []
noncomputable def C115a (s0 : List UInt8) (sep1 : List UInt8) (sepSave2 : Int) (n3 : Int) : R := PART E (RUN E) 115 Tryd.f115 [1, 1, 1, 1] (h115a s0 sep1 sepSave2 n3)
def h115b (s0 : List UInt8) (sep1 : List UInt8) (sepSave2 : Int) (n3 : Int) (i10 : Int) (a9s : List D) : St := mkSt 66 [(0, SV.val KT.str (D.str s0)), (1, SV.val KT.str (D.str sep1)), (2, SV.val (KT.int IntKind.i64) (D.int sepSave2)), (3, SV.val (KT.int IntKind.i64) (D.int n3)), (9, SV.own 9), (10, SV.val (KT.int IntKind.i64) (D.int i10))] [(9, Obj.arr 9 a9s)]
noncomputable def L115b (s0 : List UInt8) (sep1 : List UInt8) (sepSave2 : Int) (n3 : Int) (i10 : Int) (a9s : List D) : R := LOOP E (RUN E) 115 Tryd.f115 [1, 1, 1, 1, 1, 1, 1, 1, 0, 0] (h115b s0 sep1 sepSave2 n3 i10 a9s)
theorem enter115 (s0 : List UInt8) (sep1 : List UInt8) (sepSave2 : Int) (n3 : Int) : RUN E 115 [D.str s0, D.str sep1, D.int sepSave2, D.int n3] =
    cond (decide (n3 = 0))
  (some [D.list []])
  (cond (decide (sep1 = ([] : List UInt8)))
    (opt (RUN E 129 [D.str s0, D.int n3]) fun ρ2 =>
      some [D.list (D.toList (List.getD ρ2 0 D.no))])
    (cond (decide (n3 < 0))
      (opt (RUN E 130 [D.str s0, D.str sep1]) fun ρ3 =>
        C115a s0 sep1 sepSave2 (IntKind.wrap IntKind.i64 (D.toInt (List.getD ρ3 0 D.no) + 1)))
      (C115a s0 sep1 sepSave2 n3))) := (RUN_eq _ _ _).trans (by kernel_rfl)
theorem round115a (s0 : List UInt8) (sep1 : List UInt8) (sepSave2 : Int) (n3 : Int) : C115a s0 sep1 sepSave2 n3 =
    cond (bif decide (0 ≤ mmInt false n3 (IntKind.wrap IntKind.i64 ((↑(List.length s0) : Int) + 1))) then bif decide (mmInt false n3 (IntKind.wrap IntKind.i64 ((↑(List.length s0) : Int) + 1)) ≤ mmInt false n3 (IntKind.wrap IntKind.i64 ((↑(List.length s0) : Int) + 1))) then (fun (_ : Unit) => decide (mmInt false n3 (IntKind.wrap IntKind.i64 ((↑(List.length s0) : Int) + 1)) ≤ (↑lim : Int))) () else false else false)
  (L115b s0 sep1 sepSave2 (IntKind.wrap IntKind.i64 (mmInt false n3 (IntKind.wrap IntKind.i64 ((↑(List.length s0) : Int) + 1)) - 1)) 0 (List.replicate (Int.toNat (mmInt false n3 (IntKind.wrap IntKind.i64 ((↑(List.length s0) : Int) + 1)))) (D.str [])))
  (none) := (PART_eq _ _ _ _ _ _).trans (by kernel_rfl)
theorem round115b (s0 : List UInt8) (sep1 : List UInt8) (sepSave2 : Int) (n3 : Int) (i10 : Int) (a9s : List D) : L115b s0 sep1 sepSave2 n3 i10 a9s =
    cond (decide (i10 < n3))
  (opt (RUN E 83 [D.str s0, D.str sep1]) fun ρ1 =>
    cond (decide (D.toInt (List.getD ρ1 0 D.no) < 0))
      (cond (inb i10 (List.length a9s))
        (cond (cutOk (List.length (List.set a9s (Int.toNat i10) (D.str s0))) none (some (IntKind.wrap IntKind.i64 (i10 + 1))))
          (some [D.list (cutL (List.set a9s (Int.toNat i10) (D.str s0)) none (some (IntKind.wrap IntKind.i64 (i10 + 1))))])
          (none))
        (none))
      (cond (cutOk (List.length s0) none (some (IntKind.wrap IntKind.i64 (D.toInt (List.getD ρ1 0 D.no) + sepSave2))))
        (cond (inb i10 (List.length a9s))
          (cond (cutOk (List.length s0) (some (IntKind.wrap IntKind.i64 (D.toInt (List.getD ρ1 0 D.no) + (↑(List.length sep1) : Int)))) none)
            (L115b (cutL s0 (some (IntKind.wrap IntKind.i64 (D.toInt (List.getD ρ1 0 D.no) + (↑(List.length sep1) : Int)))) none) sep1 sepSave2 n3 (IntKind.wrap IntKind.i64 (i10 + 1)) (List.set a9s (Int.toNat i10) (D.str (cutL s0 none (some (IntKind.wrap IntKind.i64 (D.toInt (List.getD ρ1 0 D.no) + sepSave2)))))))
            (none))
          (none))
        (none)))
  (cond (inb i10 (List.length a9s))
    (cond (cutOk (List.length (List.set a9s (Int.toNat i10) (D.str s0))) none (some (IntKind.wrap IntKind.i64 (i10 + 1))))
      (some [D.list (cutL (List.set a9s (Int.toNat i10) (D.str s0)) none (some (IntKind.wrap IntKind.i64 (i10 + 1))))])
      (none))
    (none)) := (LOOP_eq _ _ _ _ _ _).trans (by kernel_rfl)
/-! strings.HasPrefix -/
theorem enter116 (s0 : List UInt8) (prefix1 : List UInt8) : RUN E 116 [D.str s0, D.str prefix1] =
    opt (RUN E 131 [D.str s0, D.str prefix1]) fun ρ0 =>
  some [D.bool (D.toBool (List.getD ρ0 0 D.no))] := (RUN_eq _ _ _).trans (by kernel_rfl)
/-! internal/stringslite.TrimSuffix -/
theorem enter124 (s0 : List UInt8) (suffix1 : List UInt8) : RUN E 124 [D.str s0, D.str suffix1] =
    opt (RUN E 42 [D.str s0, D.str suffix1]) fun ρ0 =>
  cond (D.toBool (List.getD ρ0 0 D.no))
    (cond (cutOk (List.length s0) none (some (IntKind.wrap IntKind.i64 ((↑(List.length s0) : Int) - (↑(List.length suffix1) : Int)))))
      (some [D.str (cutL s0 none (some (IntKind.wrap IntKind.i64 ((↑(List.length s0) : Int) - (↑(List.length suffix1) : Int)))))])
      (none))
    (some [D.str s0]) := (RUN_eq _ _ _).trans (by kernel_rfl)
/-! masthead/mark.isStar -/
theorem enter125 (n0 : D) : RUN E 125 [n0] =
    some [D.bool (bif decide (D.toInt (D.cell n0 0) = 14) then true else decide (D.toInt (D.cell n0 0) = 15))] := (RUN_eq _ _ _).trans (by kernel_rfl)
/-! (masthead/mark.within).barless -/
theorem enter126 (w0 : D) (s1 : List UInt8) : RUN E 126 [w0, D.str s1] =
    opt (cond (bif bif decide (D.toInt (D.cell w0 3) = 10) then false else true then false else true)
    (RUN E 104 [D.str s1, D.int 124])
    (some [])) fun ρ0 =>
  some [D.bool (bif !decide (D.toInt (D.cell w0 3) = 10) then true else decide (D.toInt (List.getD ρ0 0 D.no) < 0))] := (RUN_eq _ _ _).trans (by kernel_rfl)
/-! (masthead/mark.within).target -/
def h127a (i5 : Int) (w2 : D) (n3 : D) : St := mkSt 48 [(2, SV.bptr 2 90 0 (KT.agg 90)), (3, SV.bptr 3 33 0 (KT.agg 33)), (5, SV.val (KT.int IntKind.i64) (D.int i5))] [(2, Obj.box 90 (BC.whole w2)), (3, Obj.box 33 (BC.whole n3))]
noncomputable def L127a (i5 : Int) (w2 : D) (n3 : D) : R := LOOP E (RUN E) 127 Tryd.f127 [1, 0, 1, 0] (h127a i5 w2 n3)
def h127b (i6 : Int) (w2 : D) (n3 : D) : St := mkSt 48 [(2, SV.bptr 2 90 0 (KT.agg 90)), (3, SV.bptr 3 33 0 (KT.agg 33)), (6, SV.val (KT.int IntKind.i64) (D.int i6))] [(2, Obj.box 90 (BC.whole w2)), (3, Obj.box 33 (BC.whole n3))]
noncomputable def L127b (i6 : Int) (w2 : D) (n3 : D) : R := LOOP E (RUN E) 127 Tryd.f127 [1, 1, 0, 1, 0] (h127b i6 w2 n3)
theorem enter127 (w0 : D) (n1 : D) : RUN E 127 [w0, n1] =
    L127a 0 w0 n1 := (RUN_eq _ _ _).trans (by kernel_rfl)
theorem round127a (i5 : Int) (w2 : D) (n3 : D) : L127a i5 w2 n3 =
    cond (decide (i5 < (↑(List.length (D.toStr (D.cell n3 3))) : Int)))
  (cond (inb i5 (List.length (D.toStr (D.cell n3 3))))
    (opt (RUN E 136 [D.int (↑(UInt8.toNat (List.getD (D.toStr (D.cell n3 3)) (Int.toNat i5) 0)) : Int)]) fun ρ2 =>
      cond (bif D.toBool (List.getD ρ2 0 D.no) then false else true)
        (some [D.bool false])
        (L127a (IntKind.wrap IntKind.i64 (i5 + 1)) w2 n3))
    (none))
  (L127b 0 w2 n3) := (LOOP_eq _ _ _ _ _ _).trans (by kernel_rfl)
theorem round127b (i6 : Int) (w2 : D) (n3 : D) : L127b i6 w2 n3 =
    cond (decide (i6 < (↑(List.length (D.toStr (D.cell n3 4))) : Int)))
  (cond (inb i6 (List.length (D.toStr (D.cell n3 4))))
    (opt (RUN E 137 [D.int (↑(UInt8.toNat (List.getD (D.toStr (D.cell n3 4)) (Int.toNat i6) 0)) : Int)]) fun ρ2 =>
      cond (bif D.toBool (List.getD ρ2 0 D.no) then false else true)
        (some [D.bool false])
        (L127b (IntKind.wrap IntKind.i64 (i6 + 1)) w2 n3))
    (none))
  (opt (cond (bif bif decide (D.toStr (D.cell n3 3) = ([] : List UInt8)) then false else true then true else false)
      (RUN E 126 [w2, D.str (D.toStr (D.cell n3 3))])
      (some [])) fun ρ1 =>
    opt (cond (bif bif bif decide (D.toStr (D.cell n3 3) = ([] : List UInt8)) then false else true then D.toBool (List.getD ρ1 0 D.no) else false then true else false)
        (RUN E 126 [w2, D.str (D.toStr (D.cell n3 4))])
        (some [])) fun ρ2 =>
      some [D.bool (bif bif !decide (D.toStr (D.cell n3 3) = ([] : List UInt8)) then D.toBool (List.getD ρ1 0 D.no) else false then D.toBool (List.getD ρ2 0 D.no) else false)]) := (LOOP_eq _ _ _ _ _ _).trans (by kernel_rfl)
/-! internal/stringslite.HasPrefix -/
theorem enter131 (s0 : List UInt8) (prefix1 : List UInt8) : RUN E 131 [D.str s0, D.str prefix1] =
    cond (bif cutOk (List.length s0) none (some (↑(List.length prefix1) : Int)) then true else bif bif decide ((↑(List.length prefix1) : Int) ≤ (↑(List.length s0) : Int)) then true else false then false else true)
  (some [D.bool (bif decide ((↑(List.length prefix1) : Int) ≤ (↑(List.length s0) : Int)) then decide (cutL s0 none (some (↑(List.length prefix1) : Int)) = prefix1) else false)])
  (none) := (RUN_eq _ _ _).trans (by kernel_rfl)
/-! masthead/mark.inDest -/
theorem enter136 (c0 : Int) : RUN E 136 [D.int c0] =
    some [D.bool (bif bif bif bif decide (32 < c0) then !decide (c0 = 40) else false then !decide (c0 = 41) else false then !decide (c0 = 34) else false then !decide (c0 = 92) else false)] := (RUN_eq _ _ _).trans (by kernel_rfl)
/-! masthead/mark.inTitle -/
theorem enter137 (c0 : Int) : RUN E 137 [D.int c0] =
    some [D.bool (bif bif !decide (c0 = 34) then !decide (c0 = 92) else false then !decide (c0 = 10) else false)] := (RUN_eq _ _ _).trans (by kernel_rfl)
end Go.Proofs.YthbncndefigidaaDoor.mc
