import Derived.Test.YthbncndefigidaaDxNestsA
set_option linter.unusedVariables false
set_option linter.unusedSimpArgs false
namespace Go.Proofs.Ythbncndefigidaa.mk
open Go.Proofs.Ythbncndefigidaa.DS

/-! slices.Equal[[]int,int] -/
def h14a (s10 : List D) (s21 : List D) (v12 : Int) (v13 : Int) : St := mkSt 26 [(0, SV.val (KT.slice 3) (D.list s10)), (1, SV.val (KT.slice 3) (D.list s21)), (12, SV.val (KT.int IntKind.i64) (D.int v12)), (13, SV.val (KT.int IntKind.i64) (D.int v13))] []
noncomputable def L14a (s10 : List D) (s21 : List D) (v12 : Int) (v13 : Int) : R := LOOP E (RUN E) 14 Try.f14 [1, 1, 0, 1, 0] (h14a s10 s21 v12 v13)
theorem enter14 (s10 : List D) (s21 : List D) : RUN E 14 [D.list s10, D.list s21] =
    cond (bif decide ((↑(List.length s10) : Int) = (↑(List.length s21) : Int)) then false else true)
  (some [D.bool false])
  (L14a s10 s21 ((↑(List.length s10) : Int)) 0) := (RUN_eq _ _ _).trans (by kernel_rfl)
theorem round14a (s10 : List D) (s21 : List D) (v12 : Int) (v13 : Int) : L14a s10 s21 v12 v13 =
    cond (decide (v13 < v12))
  (cond (inb v13 (List.length s10))
    (cond (inb v13 (List.length s21))
      (cond (bif decide (D.toInt (List.getD s10 (Int.toNat v13) D.no) = D.toInt (List.getD s21 (Int.toNat v13) D.no)) then false else true)
        (some [D.bool false])
        (L14a s10 s21 v12 (IntKind.wrap IntKind.i64 (v13 + 1))))
      (none))
    (none))
  (some [D.bool true]) := (LOOP_eq _ _ _ _ _ _).trans (by kernel_rfl)
/-! masthead/mark.Nested -/
def h13a (l0 : List D) (v10 : List D) (v11 : Int) (v12 : Int) : St := mkSt 76 [(0, SV.val (KT.slice 30) (D.list l0)), (10, SV.val (KT.slice 30) (D.list v10)), (11, SV.val (KT.int IntKind.i64) (D.int v11)), (12, SV.val (KT.int IntKind.i64) (D.int v12))] []
noncomputable def L13a (l0 : List D) (v10 : List D) (v11 : Int) (v12 : Int) : R := LOOP E (RUN E) 13 Try.f13 [1, 0, 1, 0] (h13a l0 v10 v11 v12)
def h13b (l0 : List D) (v25 : List D) (v26 : Int) (v27 : Int) (out6s : List D) (open7s : List D) : St := mkSt 76 [(0, SV.val (KT.slice 30) (D.list l0)), (6, SV.own 6), (7, SV.own 7), (25, SV.val (KT.slice 30) (D.list v25)), (26, SV.val (KT.int IntKind.i64) (D.int v26)), (27, SV.val (KT.int IntKind.i64) (D.int v27))] [(6, Obj.arr 3 out6s), (7, Obj.arr 3 open7s)]
noncomputable def L13b (l0 : List D) (v25 : List D) (v26 : Int) (v27 : Int) (out6s : List D) (open7s : List D) : R := LOOP E (RUN E) 13 Try.f13 [1, 1, 1, 0, 1, 0] (h13b l0 v25 v26 v27 out6s open7s)
def h13c (l0 : List D) (i8 : Int) (v25 : List D) (v26 : Int) (v27 : Int) (out6s : List D) (open7s : List D) (e9 : D) : St := mkSt 76 [(0, SV.val (KT.slice 30) (D.list l0)), (6, SV.own 6), (7, SV.own 7), (8, SV.val (KT.int IntKind.i64) (D.int i8)), (9, SV.bptr 9 30 0 (KT.agg 30)), (25, SV.val (KT.slice 30) (D.list v25)), (26, SV.val (KT.int IntKind.i64) (D.int v26)), (27, SV.val (KT.int IntKind.i64) (D.int v27))] [(6, Obj.arr 3 out6s), (7, Obj.arr 3 open7s), (9, Obj.box 30 (BC.whole e9))]
noncomputable def L13c (l0 : List D) (i8 : Int) (v25 : List D) (v26 : Int) (v27 : Int) (out6s : List D) (open7s : List D) (e9 : D) : R := LOOP E (RUN E) 13 Try.f13 [1, 1, 1, 0, 1, 0, 0, 1, 1, 0, 0, 1, 0, 0] (h13c l0 i8 v25 v26 v27 out6s open7s e9)
theorem enter13 (l0 : List D) : RUN E 13 [D.list l0] =
    L13a l0 l0 ((↑(List.length l0) : Int)) 0 := (RUN_eq _ _ _).trans (by kernel_rfl)
theorem round13a (l0 : List D) (v10 : List D) (v11 : Int) (v12 : Int) : L13a l0 v10 v11 v12 =
    cond (decide (v12 < v11))
  (cond (inb v12 (List.length v10))
    (cond (bif decide (D.toInt (D.cell (List.getD v10 (Int.toNat v12) D.no) 0) < 1) then true else decide (6 < D.toInt (D.cell (List.getD v10 (Int.toNat v12) D.no) 0)))
      (some [D.list [], D.int 2])
      (L13a l0 v10 v11 (IntKind.wrap IntKind.i64 (v12 + 1))))
    (none))
  (L13b l0 l0 ((↑(List.length l0) : Int)) 0 [] []) := (LOOP_eq _ _ _ _ _ _).trans (by kernel_rfl)
theorem round13b (l0 : List D) (v25 : List D) (v26 : Int) (v27 : Int) (out6s : List D) (open7s : List D) : L13b l0 v25 v26 v27 out6s open7s =
    cond (decide (v27 < v26))
  (cond (inb v27 (List.length v25))
    (L13c l0 v27 v25 v26 v27 out6s open7s (List.getD v25 (Int.toNat v27) D.no))
    (none))
  (some [D.list out6s, D.int 0]) := (LOOP_eq _ _ _ _ _ _).trans (by kernel_rfl)
theorem round13c (l0 : List D) (i8 : Int) (v25 : List D) (v26 : Int) (v27 : Int) (out6s : List D) (open7s : List D) (e9 : D) : L13c l0 i8 v25 v26 v27 out6s open7s e9 =
    cond (bif inb (IntKind.wrap IntKind.i64 ((↑(List.length open7s) : Int) - 1)) (List.length open7s) then true else bif bif decide (0 < (↑(List.length open7s) : Int)) then true else false then false else true)
  (cond (bif inb (D.toInt (List.getD open7s (Int.toNat (IntKind.wrap IntKind.i64 ((↑(List.length open7s) : Int) - 1))) D.no)) (List.length l0) then true else bif bif decide (0 < (↑(List.length open7s) : Int)) then true else false then false else true)
    (cond (bif decide (0 < (↑(List.length open7s) : Int)) then decide (D.toInt (D.cell e9 0) ≤ D.toInt (D.cell (List.getD l0 (Int.toNat (D.toInt (List.getD open7s (Int.toNat (IntKind.wrap IntKind.i64 ((↑(List.length open7s) : Int) - 1))) D.no))) D.no) 0)) else false)
      (cond (cutOk (List.length open7s) none (some (IntKind.wrap IntKind.i64 ((↑(List.length open7s) : Int) - 1))))
        (L13c l0 i8 v25 v26 v27 out6s (cutL open7s none (some (IntKind.wrap IntKind.i64 ((↑(List.length open7s) : Int) - 1)))) e9)
        (none))
      (cond (decide ((↑(List.length open7s) : Int) = 0))
        (cond (fitL (List.length out6s) (List.length [D.int (-1)]))
          (cond (fitL (List.length open7s) (List.length [D.int i8]))
            (L13b l0 v25 v26 (IntKind.wrap IntKind.i64 (v27 + 1)) (out6s ++ [D.int (-1)]) (open7s ++ [D.int i8]))
            (none))
          (none))
        (cond (inb (IntKind.wrap IntKind.i64 ((↑(List.length open7s) : Int) - 1)) (List.length open7s))
          (cond (fitL (List.length out6s) (List.length [D.int (D.toInt (List.getD open7s (Int.toNat (IntKind.wrap IntKind.i64 ((↑(List.length open7s) : Int) - 1))) D.no))]))
            (cond (fitL (List.length open7s) (List.length [D.int i8]))
              (L13b l0 v25 v26 (IntKind.wrap IntKind.i64 (v27 + 1)) (out6s ++ [D.int (D.toInt (List.getD open7s (Int.toNat (IntKind.wrap IntKind.i64 ((↑(List.length open7s) : Int) - 1))) D.no))]) (open7s ++ [D.int i8]))
              (none))
            (none))
          (none))))
    (none))
  (none) := (LOOP_eq _ _ _ _ _ _).trans (by kernel_rfl)
/-! masthead/mastlaw1.MarkNests -/
def h4a (l0 : List D) (got3 : List D) (e4 : Int) (v17 : List D) (v18 : Int) (v19 : Int) (want5s : List D) : St := mkSt 67 [(0, SV.val (KT.slice 30) (D.list l0)), (3, SV.val (KT.slice 3) (D.list got3)), (4, SV.val (KT.int IntKind.i64) (D.int e4)), (5, SV.own 5), (17, SV.val (KT.slice 30) (D.list v17)), (18, SV.val (KT.int IntKind.i64) (D.int v18)), (19, SV.val (KT.int IntKind.i64) (D.int v19))] [(5, Obj.arr 3 want5s)]
noncomputable def L4a (l0 : List D) (got3 : List D) (e4 : Int) (v17 : List D) (v18 : Int) (v19 : Int) (want5s : List D) : R := LOOP E (RUN E) 4 Try.f4 [1, 1, 1, 1, 0, 1, 0] (h4a l0 got3 e4 v17 v18 v19 want5s)
def h4b (l0 : List D) (got3 : List D) (e4 : Int) (k8 : Int) (v17 : List D) (v18 : Int) (v19 : Int) (want5s : List D) (x7 : D) : St := mkSt 67 [(0, SV.val (KT.slice 30) (D.list l0)), (3, SV.val (KT.slice 3) (D.list got3)), (4, SV.val (KT.int IntKind.i64) (D.int e4)), (5, SV.own 5), (7, SV.bptr 7 30 0 (KT.agg 30)), (8, SV.val (KT.int IntKind.i64) (D.int k8)), (17, SV.val (KT.slice 30) (D.list v17)), (18, SV.val (KT.int IntKind.i64) (D.int v18)), (19, SV.val (KT.int IntKind.i64) (D.int v19))] [(5, Obj.arr 3 want5s), (7, Obj.box 30 (BC.whole x7))]
noncomputable def L4b (l0 : List D) (got3 : List D) (e4 : Int) (k8 : Int) (v17 : List D) (v18 : Int) (v19 : Int) (want5s : List D) (x7 : D) : R := LOOP E (RUN E) 4 Try.f4 [1, 1, 1, 1, 0, 1, 0, 0, 1, 1, 0, 0, 1, 1, 1, 0, 0] (h4b l0 got3 e4 k8 v17 v18 v19 want5s x7)
theorem enter4 (l0 : List D) : RUN E 4 [D.list l0] =
    cond (decide (4000 < (↑(List.length l0) : Int)))
  (some [D.bool true])
  (opt (RUN E 13 [D.list l0]) fun r1 =>
    L4a l0 (D.toList (List.getD r1 0 D.no)) (D.toInt (List.getD r1 1 D.no)) l0 ((↑(List.length l0) : Int)) 0 []) := (RUN_eq _ _ _).trans (by kernel_rfl)
theorem round4a (l0 : List D) (got3 : List D) (e4 : Int) (v17 : List D) (v18 : Int) (v19 : Int) (want5s : List D) : L4a l0 got3 e4 v17 v18 v19 want5s =
    cond (decide (v19 < v18))
  (cond (inb v19 (List.length v17))
    (cond (bif decide (D.toInt (D.cell (List.getD v17 (Int.toNat v19) D.no) 0) < 1) then true else decide (6 < D.toInt (D.cell (List.getD v17 (Int.toNat v19) D.no) 0)))
      (some [D.bool (bif decide ((↑(List.length got3) : Int) = 0) then decide (e4 = 2) else false)])
      (L4b l0 got3 e4 (IntKind.wrap IntKind.i64 (v19 - 1)) v17 v18 v19 want5s (List.getD v17 (Int.toNat v19) D.no)))
    (none))
  (opt (RUN E 14 [D.list got3, D.list want5s]) fun r1 =>
    some [D.bool (bif D.toBool (List.getD r1 0 D.no) then decide (e4 = 0) else false)]) := (LOOP_eq _ _ _ _ _ _).trans (by kernel_rfl)
theorem round4b (l0 : List D) (got3 : List D) (e4 : Int) (k8 : Int) (v17 : List D) (v18 : Int) (v19 : Int) (want5s : List D) (x7 : D) : L4b l0 got3 e4 k8 v17 v18 v19 want5s x7 =
    cond (bif inb k8 (List.length l0) then true else bif bif decide (0 ≤ k8) then true else false then false else true)
  (cond (bif decide (0 ≤ k8) then decide (D.toInt (D.cell x7 0) ≤ D.toInt (D.cell (List.getD l0 (Int.toNat k8) D.no) 0)) else false)
    (L4b l0 got3 e4 (IntKind.wrap IntKind.i64 (k8 - 1)) v17 v18 v19 want5s x7)
    (cond (fitL (List.length want5s) (List.length [D.int k8]))
      (L4a l0 got3 e4 v17 v18 (IntKind.wrap IntKind.i64 (v19 + 1)) (want5s ++ [D.int k8]))
      (none)))
  (none) := (LOOP_eq _ _ _ _ _ _).trans (by kernel_rfl)
end Go.Proofs.Ythbncndefigidaa.mk
